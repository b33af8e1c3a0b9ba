/- Contracts of the reference of package node: which nodes are sound. -/
import Derived.Test.YtcoiadncennhpaaNode5
namespace Go.Proofs.Ytcoiadncennhpaa
open Go.RowKit

theorem RdI.lit {w : World} {b off n : Nat} {zs : List Int} (h : RdI w (some ⟨b, off, none⟩) n zs) : ∀ (j : Nat) (hj : j < zs.length), w.cell? ⟨b, off + j, none⟩ = some (.int .i64 zs[j]) := by
  intro j hj
  obtain ⟨b', off', e, _, hc⟩ := h.spot (by have := h.len; omega)
  injection e with e
  injection e with e1 e2
  subst e1 e2
  exact hc j hj

section
variable {d : Nd} {fan : Int}
theorem sound_no_ins {j : Nat} (hj : j < d.keys.length) (h : insB d d.keys[j] = false) : soundB d fan = false := by
  have hf : d.keys.all (insB d) = false := by
    rw [List.all_eq_false]
    exact ⟨_, List.getElem_mem hj, by rw [h]; exact Bool.false_ne_true⟩
  unfold soundB; rw [hf]; simp
theorem sound_no_key {j : Nat} (hj : j < d.keys.length) (h : goodB d.keys[j] = false) (hl : d.level = 0 ∨ 0 < j) : soundB d fan = false := by
  have hv : valsB d = false := by
    have hf : d.keys.all goodB = false := by
      rw [List.all_eq_false]
      exact ⟨_, List.getElem_mem hj, by rw [h]; exact Bool.false_ne_true⟩
    unfold valsB; rw [hf]; simp
  unfold soundB
  by_cases h0 : d.level = 0
  · rw [if_pos h0, hv]; simp
  · have hk : kidsB d = false := by
      unfold kidsB
      by_cases hlen : d.kids.length = d.keys.length
      · have hf : (List.range d.kids.length).all (kidOk d) = false := by
          rw [List.all_eq_false]
          refine ⟨j, List.mem_range.2 (by omega), ?_⟩
          have : kidOk d j = false := by
            unfold kidOk
            rw [getD_at _ _ _ hj, h, decide_eq_false (show ¬ j = 0 by omega)]; simp
          rw [this]; exact Bool.false_ne_true
        rw [hf]; simp
      · rw [decide_eq_false hlen]; simp
    rw [if_neg h0, hk]; simp
theorem sound_rest (h1 : borderB d = true) (h2 : (d.keys.length : Int) ≤ fan) (h3 : Pl.rises d.keys = true) (h4 : ∀ q (hq : q < d.keys.length), insB d d.keys[q] = true) :
    soundB d fan = if d.level = 0 then valsB d else kidsB d := by
  have hall : d.keys.all (insB d) = true := by
    rw [List.all_eq_true]
    intro s hs
    obtain ⟨q, hq, rfl⟩ := List.getElem_of_mem hs
    exact h4 q hq
  unfold soundB; rw [h1, h3, hall, decide_eq_true h2]; simp
theorem vals_rest (h : ∀ q (hq : q < d.keys.length), goodB d.keys[q] = true) : valsB d = (decide (d.vals.length = d.keys.length) && decide (d.kids.length = 0)) := by
  have hall : d.keys.all goodB = true := by
    rw [List.all_eq_true]
    intro s hs
    obtain ⟨q, hq, rfl⟩ := List.getElem_of_mem hs
    exact h q hq
  unfold valsB; rw [hall]; simp
/-- What the reference asks of a kid. -/
def kidRef (d : Nd) (i : Nat) : Prop := ∃ h : i < d.kids.length, cellB d.kids[i] = true ∧ ∀ q (_ : q < i), d.kids[q] ≠ d.kids[i]
theorem kids_yes (h1 : d.kids.length = d.keys.length) (h2 : d.kids.length ≠ 0) (h3 : d.vals.length = 0) (h4 : ((d.keys.getD 0 ByteArray.empty).toList == d.low.toList) = true)
    (h5 : ∀ q (hq : q < d.keys.length), 0 < q → goodB d.keys[q] = true) (h6 : ∀ i, i < d.kids.length → kidRef d i) : kidsB d = true := by
  unfold kidsB
  rw [decide_eq_true h1, decide_eq_true h2, decide_eq_true h3, h4]
  simp only [Bool.true_and]
  rw [List.all_eq_true]
  intro i hi
  have hi' := List.mem_range.1 hi
  obtain ⟨_, hc, hd⟩ := h6 i hi'
  unfold kidOk
  rw [getD_at _ _ _ hi', hc]
  have hnm : d.kids[i] ∉ d.kids.take i := by
    intro hm
    obtain ⟨q, hq, he⟩ := List.getElem_of_mem hm
    rw [List.length_take] at hq
    rw [List.getElem_take] at he
    exact hd q (by omega) he
  rw [decide_eq_false hnm]
  by_cases h0 : i = 0
  · simp [h0]
  · rw [getD_at _ _ _ (show i < d.keys.length by omega), h5 i (by omega) (by omega)]; simp
theorem kids_no_cell {i : Nat} (hi : i < d.kids.length) (h : cellB d.kids[i] = false) : kidsB d = false := by
  have hf : (List.range d.kids.length).all (kidOk d) = false := by
    rw [List.all_eq_false]
    refine ⟨i, List.mem_range.2 hi, ?_⟩
    have : kidOk d i = false := by unfold kidOk; rw [getD_at _ _ _ hi, h]; simp
    rw [this]; exact Bool.false_ne_true
  unfold kidsB; rw [hf]; simp
theorem kids_no_twice {i q : Nat} (hi : i < d.kids.length) (hq : q < i) (h : d.kids[q] = d.kids[i]) : kidsB d = false := by
  have hf : (List.range d.kids.length).all (kidOk d) = false := by
    rw [List.all_eq_false]
    refine ⟨i, List.mem_range.2 hi, ?_⟩
    have hm : d.kids[i] ∈ d.kids.take i := by
      rw [← h]
      exact List.mem_iff_getElem.2 ⟨q, by rw [List.length_take]; omega, List.getElem_take⟩
    have : kidOk d i = false := by unfold kidOk; rw [getD_at _ _ _ hi, decide_eq_true hm]; simp
    rw [this]; exact Bool.false_ne_true
  unfold kidsB; rw [hf]; simp
theorem kids_no_head (h : ¬ d.kids.length = d.keys.length ∨ d.kids.length = 0 ∨ ¬ d.vals.length = 0 ∨ ((d.keys.getD 0 ByteArray.empty).toList == d.low.toList) = false) : kidsB d = false := by
  unfold kidsB
  rcases h with h | h | h | h
  · rw [decide_eq_false h]; simp
  · simp [h]
  · rw [decide_eq_false h]; simp
  · rw [h]; simp
end

set_option maxRecDepth 100000 in
set_option maxHeartbeats 1000000 in
theorem refsound_any (d : Nd) (fan : Int) (A B C : Option Addr) (ca cb cc : Nat) (w : World) (h : Lies w d A B C ca cb cc) :
    Calls Try.prog 18 #[.agg (ndCells d A B C ca cb cc), .int .i64 fan] w (Ret (.bool (soundB d fan)) w) := by
  obtain ⟨level, low, high, last, next, keys, vals, kids⟩ := d
  have HB := below_alloc w (.cells (ndCells ⟨level, low, high, last, next, keys, vals, kids⟩ A B C ca cb cc) 26)
  have hbx := Boxed.new w ⟨level, low, high, last, next, keys, vals, kids⟩ A B C ca cb cc 26
  have hsz : w.heap.size < (w.alloc (.cells (ndCells ⟨level, low, high, last, next, keys, vals, kids⟩ A B C ca cb cc) 26)).heap.size := by simp
  have hlow : low.size ≤ maxLen := h.low
  have hhigh : high.size ≤ maxLen := h.high
  simp only [ndCells] at HB hbx hsz ⊢
  replace h := h.up HB
  go_enter Try.func18, Try.ntmps18
  go_wp2_with fail
  generalize w.alloc _ = W at HB hbx hsz h ⊢
  obtain ⟨b0, b1, b2, b3, b4, b5, b6, b7⟩ := id hbx
  simp only [] at b0 b1 b2 b3 b4 b5 b6 b7
  refine (refborder_any _ A B C ca cb cc _ h).mono ?_
  rintro e wn ⟨rfl, hbn⟩
  replace HB := below_of HB hbn
  replace hbx := hbx.up hbn hsz
  replace hsz := Nat.lt_of_lt_of_le hsz hbn.size
  replace h := h.up hbn
  clear hbn b0 b1 b2 b3 b4 b5 b6 b7
  obtain ⟨b0, b1, b2, b3, b4, b5, b6, b7⟩ := id hbx
  simp only [] at b0 b1 b2 b3 b4 b5 b6 b7
  cases hbo : borderB ⟨level, low, high, last, next, keys, vals, kids⟩
  · have Hbo := Lib.hid hbo
    clear hbo
    go_wp2_with fail
    go_ret
    exact ⟨ret_bool (by unfold soundB; rw [Hbo.out]; simp), HB⟩
  · have Hbo := Lib.hid hbo
    clear hbo
    by_cases hfan : (keys.length : Int) ≤ fan
    · have hla : keys.length ≤ 9223372036854775807 := h.la
      go_wp2_with fail
      refine (refrising_any A _ ca keys _ h.keys h.fit hla).mono ?_
      rintro e wn ⟨rfl, hbn⟩
      replace HB := below_of HB hbn
      replace hbx := hbx.up hbn hsz
      replace hsz := Nat.lt_of_lt_of_le hsz hbn.size
      replace h := h.up hbn
      clear hbn b0 b1 b2 b3 b4 b5 b6 b7
      obtain ⟨b0, b1, b2, b3, b4, b5, b6, b7⟩ := id hbx
      simp only [] at b0 b1 b2 b3 b4 b5 b6 b7
      cases hri : Pl.rises keys
      · have Hri := Lib.hid hri
        clear hri
        go_wp2_with fail
        go_ret
        exact ⟨ret_bool (by unfold soundB; rw [Hbo.out, Hri.out]; simp), HB⟩
      · have Hri := Lib.hid hri
        have Hfan := Lib.hid hfan
        clear hri
        go_wp2_with fail
        generalize wn = W at HB hbx hsz h b0 b1 b2 b3 b4 b5 b6 b7 ⊢
        have HB0 := HB
        have hbx0 := hbx
        have hsz0 := hsz
        have h0 := h
        clear b0 b1 b2 b3 b4 b5 b6 b7 HB hbx hsz h hfan
        go_loopw [5] (fun i wr => ∃ j : Nat, j ≤ keys.length ∧ i = .int .i64 j ∧ Hid (∀ q (hq : q < keys.length), q < j → insB ⟨level, low, high, last, next, keys, vals, kids⟩ keys[q] = true ∧ (level = 0 ∨ 0 < q → goodB keys[q] = true)) ∧ Below W.heap.size W wr) (fun i _ => keys.length - (intOf i).toNat)
        case atStart => exact ⟨0, Nat.zero_le _, rfl, fun q _ hq => absurd hq (Nat.not_lt_zero _), Below.refl _ _⟩
        case round =>
          obtain ⟨j, hj, rfl, hpre, hbel⟩ := hrel
          have hbx := hbx0.up hbel hsz0
          have hsz := Nat.lt_of_lt_of_le hsz0 hbel.size
          have HB := below_of HB0 hbel
          have h := h0.up hbel
          obtain ⟨b0, b1, b2, b3, b4, b5, b6, b7⟩ := id hbx
          simp only [] at b0 b1 b2 b3 b4 b5 b6 b7
          by_cases hlt : j < keys.length
          · obtain ⟨b, off, rfl, hbB, hc⟩ := RdS.spot h.keys (Nat.lt_of_le_of_lt (Nat.zero_le _) hlt)
            have hcj := hc j hlt
            have hmj := h.fit j hlt
            have hj2 : (j : Int) < (keys.length : Int) := by omega
            simp only [] at hcj hmj
            clear hc
            go_upto_region 6 with fail
            go_cut [43] (fun s wx => s = .bool (!insB ⟨level, low, high, last, next, keys, vals, kids⟩ keys[j]) ∧ Below W.heap.size W wx)
            case first =>
              go_region_held3 (fun w' => w'.cell? ⟨w.heap.size, 1, none⟩ = some (.string low) ∧ w'.cell? ⟨w.heap.size, 2, none⟩ = some (.string high) ∧ w'.cell? ⟨w.heap.size, 3, none⟩ = some (.bool last) ∧ w'.cell? ⟨w.heap.size, 5, none⟩ = some (.slice (some ⟨b, off, none⟩) keys.length ca) ∧ w'.cell? ⟨b, off + j, none⟩ = some (.string keys[j])) (first | exact ⟨b1, b2, b3, b5, hcj⟩ | exact ⟨(hbn.cell (p := ⟨w.heap.size, 1, none⟩) hsz).trans b1, (hbn.cell (p := ⟨w.heap.size, 2, none⟩) hsz).trans b2, (hbn.cell (p := ⟨w.heap.size, 3, none⟩) hsz).trans b3, (hbn.cell (p := ⟨w.heap.size, 5, none⟩) hsz).trans b5, (hbn.cell (p := ⟨b, off + j, none⟩) hbB).trans hcj⟩) ((go_at_call 70; refine (refinside_any _ _ _ _ _ hlow hhigh hmj).mono ?_; rintro e wn ⟨rfl, hbn⟩))
              all_goals
                go_wp2_with fail
                go_meet
                exact ⟨val_bool (by unfold insB; simp), below_of (Below.drew hbel) hbn⟩
            case rest =>
              obtain ⟨rfl, hbel'⟩ := hcut
              clear b0 b1 b2 b3 b4 b5 b6 b7 HB hbx hsz h hcj hbel
              have hbel := hbel'
              clear hbel'
              have hbx := hbx0.up hbel hsz0
              have hsz := Nat.lt_of_lt_of_le hsz0 hbel.size
              have HB := below_of HB0 hbel
              have h := h0.up hbel
              obtain ⟨b0, b1, b2, b3, b4, b5, b6, b7⟩ := id hbx
              simp only [] at b0 b1 b2 b3 b4 b5 b6 b7
              have hcj := RdS.lit h.keys j hlt
              simp only [] at hcj
              cases hin : insB ⟨level, low, high, last, next, keys, vals, kids⟩ keys[j]
              · have Hin := Lib.hid hin
                clear hin
                go_wp2_with fail
                go_ret
                exact ⟨ret_bool (sound_no_ins (d := ⟨level, low, high, last, next, keys, vals, kids⟩) hlt Hin.out).symm, HB⟩
              · have Hin := Lib.hid hin
                clear hin
                go_wp2_with fail
                refine (refkey_any _ _ hmj).mono ?_
                rintro e wn ⟨rfl, hbn⟩
                replace HB := below_of HB hbn
                replace hbx := hbx.up hbn hsz
                replace hbel := below_of hbel hbn
                clear hbn b0 b1 b2 b3 b4 b5 b6 b7
                obtain ⟨b0, b1, b2, b3, b4, b5, b6, b7⟩ := id hbx
                simp only [] at b0 b1 b2 b3 b4 b5 b6 b7
                cases hgo : goodB keys[j]
                · have Hgo := Lib.hid hgo
                  clear hgo
                  by_cases hl0 : level = 0
                  · have t1 : (level == 0) = true := beq_iff_eq.2 hl0
                    have Hno : Hid (soundB ⟨level, low, high, last, next, keys, vals, kids⟩ fan = false) := sound_no_key (d := ⟨level, low, high, last, next, keys, vals, kids⟩) hlt Hgo.out (.inl hl0)
                    clear hl0
                    go_wp2_with fail
                    go_ret
                    exact ⟨ret_bool Hno.out.symm, HB⟩
                  · have t1 : (level == 0) = false := beq_eq_false_iff_ne.2 hl0
                    have Hl0 := Lib.hid hl0
                    clear hl0
                    by_cases hj0 : 0 < j
                    · have Hno : Hid (soundB ⟨level, low, high, last, next, keys, vals, kids⟩ fan = false) := sound_no_key (d := ⟨level, low, high, last, next, keys, vals, kids⟩) hlt Hgo.out (.inr hj0)
                      have hj1 : (0 : Int) < (j : Int) := by omega
                      go_wp2_with fail
                      go_ret
                      exact ⟨ret_bool Hno.out.symm, HB⟩
                    · obtain rfl : j = 0 := by omega
                      go_wp2_with fail
                      go_roundw
                      case rel =>
                        refine ⟨1, by omega, by go_num, fun q hq hqj => ?_, hbel⟩
                        obtain rfl : q = 0 := by omega
                        exact ⟨Hin.out, fun hh => hh.elim (fun h => absurd h Hl0.out) (fun h => absurd h (Nat.lt_irrefl 0))⟩
                      case measure => simp [intOf]; omega
                · have Hgo := Lib.hid hgo
                  clear hgo
                  go_wp2_with fail
                  go_roundw
                  case rel =>
                    refine ⟨j + 1, by omega, by go_num, fun q hq hqj => ?_, hbel⟩
                    rcases Nat.lt_succ_iff_lt_or_eq.1 hqj with g | rfl
                    · exact hpre.out q hq g
                    · exact ⟨Hin.out, fun _ => Hgo.out⟩
                  case measure => simp [intOf]; omega
          · have Hs : Hid (soundB ⟨level, low, high, last, next, keys, vals, kids⟩ fan = if level = 0 then valsB ⟨level, low, high, last, next, keys, vals, kids⟩ else kidsB ⟨level, low, high, last, next, keys, vals, kids⟩) :=
              sound_rest (d := ⟨level, low, high, last, next, keys, vals, kids⟩) Hbo.out Hfan.out Hri.out fun q hq => (hpre.out q hq (by simp only [] at hq; omega)).1
            have Hg : Hid (∀ q (hq : q < keys.length), level = 0 ∨ 0 < q → goodB keys[q] = true) := fun q hq => (hpre.out q hq (by omega)).2
            obtain rfl : j = keys.length := by omega
            clear Hbo Hfan Hri hpre hlt hj
            have hlb : vals.length ≤ 9223372036854775807 := h.lb
            have hlc : kids.length ≤ 9223372036854775807 := h.lc
            by_cases hl0 : level = 0
            · have t1 : (level == 0) = true := beq_iff_eq.2 hl0
              have Hv : Hid (soundB ⟨level, low, high, last, next, keys, vals, kids⟩ fan = (decide (vals.length = keys.length) && decide (kids.length = 0))) := show _ = _ by
                rw [Hs.out, if_pos hl0]
                exact vals_rest (d := ⟨level, low, high, last, next, keys, vals, kids⟩) fun q hq => Hg.out q hq (.inl hl0)
              clear hl0 Hs Hg
              by_cases c1 : vals.length = keys.length
              · have t2 : ((vals.length : Int) == (keys.length : Int)) = true := by rw [beq_iff_eq]; omega
                have Hc1 := Lib.hid c1
                clear c1
                cases c2 : decide (kids.length = 0)
                · have t3 : ((kids.length : Int) == 0) = false := by rw [beq_eq_false_iff_ne]; have := of_decide_eq_false c2; omega
                  have Hc2 := Lib.hid c2
                  clear c2
                  go_wp2_with fail
                  go_ret
                  exact ⟨ret_bool (by rw [Hv.out, decide_eq_true Hc1.out, Hc2.out]; rfl), HB⟩
                · have t3 : ((kids.length : Int) == 0) = true := by rw [beq_iff_eq]; have := of_decide_eq_true c2; omega
                  have Hc2 := Lib.hid c2
                  clear c2
                  go_wp2_with fail
                  go_ret
                  exact ⟨ret_bool (by rw [Hv.out, decide_eq_true Hc1.out, Hc2.out]; rfl), HB⟩
              · have t2 : ((vals.length : Int) == (keys.length : Int)) = false := by rw [beq_eq_false_iff_ne]; omega
                have Hc1 := Lib.hid c1
                clear c1
                go_wp2_with fail
                go_ret
                exact ⟨ret_bool (by rw [Hv.out, decide_eq_false Hc1.out]; rfl), HB⟩
            · have t1 : (level == 0) = false := beq_eq_false_iff_ne.2 hl0
              have Hv : Hid (soundB ⟨level, low, high, last, next, keys, vals, kids⟩ fan = kidsB ⟨level, low, high, last, next, keys, vals, kids⟩) := show _ = _ by rw [Hs.out, if_neg hl0]
              have Hg0 : Hid (∀ q (hq : q < keys.length), 0 < q → goodB keys[q] = true) := fun q hq h0 => Hg.out q hq (.inr h0)
              clear hl0 Hs Hg
              go_wp2_with fail
              clear hbx0 hsz0 h0 HB0 hbel
              by_cases c1 : kids.length = keys.length
              · have t2 : ((kids.length : Int) != (keys.length : Int)) = false := by rw [bne_eq_false_iff_eq]; omega
                by_cases c2 : kids.length = 0
                · have t3 : ((kids.length : Int) == 0) = true := by rw [beq_iff_eq]; omega
                  have Hno : Hid (kidsB ⟨level, low, high, last, next, keys, vals, kids⟩ = false) := kids_no_head (.inr (.inl c2))
                  clear c1 c2
                  go_quiet (fail)
                  go_wp2_with fail
                  go_ret
                  exact ⟨ret_bool (by rw [Hv.out, Hno.out]), below_drewN HB _⟩
                · have t3 : ((kids.length : Int) == 0) = false := by rw [beq_eq_false_iff_ne]; omega
                  by_cases c3 : vals.length = 0
                  · have t4 : decide ((0 : Int) < (vals.length : Int)) = false := decide_eq_false (by omega)
                    have t4' : decide (0 < vals.length) = false := decide_eq_false (by omega)
                    have hk1 : 0 < keys.length := by omega
                    have hk2 : (0 : Int) < (keys.length : Int) := by omega
                    obtain ⟨b, off, rfl, hbB, hc⟩ := RdS.spot h.keys hk1
                    have hc0 := hc 0 hk1
                    rw [Nat.add_zero] at hc0
                    simp only [] at hc0
                    cases c4 : (keys[0].toList == low.toList)
                    · have Hno : Hid (kidsB ⟨level, low, high, last, next, keys, vals, kids⟩ = false) := kids_no_head (.inr (.inr (.inr (by rw [getD_at _ _ _ hk1]; exact c4))))
                      clear c1 c2 c3 hc
                      go_quiet (fail)
                      go_wp2_with fail
                      go_ret
                      exact ⟨ret_bool (by rw [Hv.out, Hno.out]), below_drewN HB _⟩
                    · have Hc1 := Lib.hid c1
                      have Hc2 := Lib.hid c2
                      have Hc3 := Lib.hid c3
                      have Hc4 : Hid (((keys.getD 0 ByteArray.empty).toList == low.toList) = true) := show _ = _ by rw [getD_at _ _ _ hk1]; exact c4
                      clear c1 c2 c3 hc
                      go_quiet (fail)
                      go_wp2_with fail
                      have HBd := below_drewN HB nq
                      have hbxd : Boxed (wr.drewN nq) w.heap.size ⟨level, low, high, last, next, keys, vals, kids⟩ (some ⟨b, off, none⟩) B C ca cb cc := hbx
                      have hid : RdI (wr.drewN nq) C kids.length kids := h.kids
                      have hszd : w.heap.size < (wr.drewN nq).heap.size := hsz
                      clear b0 b1 b2 b3 b4 b5 b6 b7 HB hbx h hsz hc0 t1 t2 t3 t4 t4' c4 hbB
                      generalize wr.drewN nq = W1 at HBd hbxd hid hszd ⊢
                      go_loopw [6, 7] (fun i _ wr => ∃ j : Nat, j ≤ kids.length ∧ i = .int .i64 j ∧ Hid (∀ q, q < j → kidRef ⟨level, low, high, last, next, keys, vals, kids⟩ q) ∧ Below W1.heap.size W1 wr) (fun i _ _ => kids.length - (intOf i).toNat)
                      case atStart => exact ⟨0, Nat.zero_le _, rfl, fun q hq => absurd hq (Nat.not_lt_zero _), Below.refl _ _⟩
                      case round =>
                        obtain ⟨j, hj, rfl, hpre, hbel⟩ := hrel
                        have hbx := hbxd.up hbel hszd
                        have hsz := Nat.lt_of_lt_of_le hszd hbel.size
                        have HB := below_of HBd hbel
                        have hi := hid.up hbel
                        obtain ⟨b0, b1, b2, b3, b4, b5, b6, b7⟩ := id hbx
                        simp only [] at b0 b1 b2 b3 b4 b5 b6 b7
                        by_cases hlt : j < kids.length
                        · obtain ⟨bi, oi, rfl, hbi, hci⟩ := hi.spot (by omega)
                          have cj := hci j hlt
                          have hj2 : (j : Int) < (kids.length : Int) := by omega
                          clear hci
                          go_wp2_with fail
                          refine (refcell_any _ _).mono ?_
                          rintro e wn ⟨rfl, hbn⟩
                          have hel := below_of hbel hbn
                          clear hbn b0 b1 b2 b3 b4 b5 b6 b7 HB hbx hi hsz cj hbel hbi
                          cases hce : cellB kids[j]
                          · have Hce := Lib.hid hce
                            clear hce
                            go_wp2_with fail
                            go_ret
                            exact ⟨ret_bool (by rw [Hv.out]; exact (kids_no_cell (d := ⟨level, low, high, last, next, keys, vals, kids⟩) hlt Hce.out).symm), below_of HBd hel⟩
                          · have Hce := Lib.hid hce
                            clear hce
                            go_wp2_with fail
                            go_loopw [7] (fun i2 wr2 => ∃ q : Nat, q ≤ j ∧ i2 = .int .i64 q ∧ Hid (∀ p (hp : p < kids.length), p < q → kids[p] ≠ kids[j]) ∧ Below W1.heap.size W1 wr2) (fun i2 _ => j - (intOf i2).toNat)
                            case atStart => exact ⟨0, Nat.zero_le _, rfl, fun p _ hp => absurd hp (Nat.not_lt_zero _), hel⟩
                            case round =>
                              obtain ⟨q, hq, rfl, hpre2, hbel⟩ := hrel
                              have hbx := hbxd.up hbel hszd
                              have hi := RdI.lit (hid.up hbel)
                              obtain ⟨b0, b1, b2, b3, b4, b5, b6, b7⟩ := id hbx
                              simp only [] at b0 b1 b2 b3 b4 b5 b6 b7
                              by_cases hqj : q < j
                              · have hqk : q < kids.length := by omega
                                have cj := hi j hlt
                                have cq := hi q hqk
                                have hq2 : (q : Int) < (kids.length : Int) := by omega
                                clear hi
                                cases heq2 : (kids[q] == kids[j])
                                · have Hne := Lib.hid heq2
                                  go_wp2_with fail
                                  go_quiet (fail)
                                  go_wp2_with fail
                                  go_roundw
                                  case rel =>
                                    refine ⟨q + 1, by omega, by go_num, fun p hp hpq => ?_, below_drewN hbel _⟩
                                    rcases Nat.lt_succ_iff_lt_or_eq.1 hpq with g | rfl
                                    · exact hpre2.out p hp g
                                    · exact beq_eq_false_iff_ne.1 Hne.out
                                  case measure => simp [intOf]; omega
                                · have Hye := Lib.hid heq2
                                  go_wp2_with fail
                                  go_quiet (fail)
                                  go_wp2_with fail
                                  go_ret
                                  exact ⟨ret_bool (by rw [Hv.out]; exact (kids_no_twice (d := ⟨level, low, high, last, next, keys, vals, kids⟩) hlt hqj (beq_iff_eq.1 Hye.out)).symm), below_of HBd (below_drewN hbel _)⟩
                              · clear hi
                                go_wp2_with fail
                                go_roundw
                                case rel =>
                                  refine ⟨j + 1, by omega, by go_num, fun p hp => ?_, hbel⟩
                                  rcases Nat.lt_succ_iff_lt_or_eq.1 hp with g | rfl
                                  · exact hpre.out p g
                                  · exact ⟨hlt, Hce.out, fun r hr => hpre2.out r (show r < kids.length by omega) (by omega)⟩
                                case measure => simp [intOf]; omega
                        · go_wp2_with fail
                          go_ret
                          refine ⟨ret_bool ?_, HB⟩
                          rw [Hv.out]
                          exact (kids_yes (d := ⟨level, low, high, last, next, keys, vals, kids⟩) Hc1.out Hc2.out Hc3.out Hc4.out Hg0.out fun i hi => hpre.out i (by have hi2 : i < kids.length := hi; omega)).symm
                  · have t4 : decide ((0 : Int) < (vals.length : Int)) = true := decide_eq_true (by omega)
                    have t4' : decide (0 < vals.length) = true := decide_eq_true (by omega)
                    have Hno : Hid (kidsB ⟨level, low, high, last, next, keys, vals, kids⟩ = false) := kids_no_head (.inr (.inr (.inl c3)))
                    clear c1 c2 c3
                    go_quiet (fail)
                    go_wp2_with fail
                    go_ret
                    exact ⟨ret_bool (by rw [Hv.out, Hno.out]), below_drewN HB _⟩
              · have t2 : ((kids.length : Int) != (keys.length : Int)) = true := by rw [bne_iff_ne]; omega
                have Hno : Hid (kidsB ⟨level, low, high, last, next, keys, vals, kids⟩ = false) := kids_no_head (.inl c1)
                clear c1
                go_quiet (fail)
                go_wp2_with fail
                go_ret
                exact ⟨ret_bool (by rw [Hv.out, Hno.out]), below_drewN HB _⟩
    · go_wp2_with fail
      go_ret
      exact ⟨ret_bool (by unfold soundB; rw [Hbo.out, decide_eq_false (show ¬ (keys.length : Int) ≤ fan by omega)]; simp), HB⟩
end Go.Proofs.Ytcoiadncennhpaa
