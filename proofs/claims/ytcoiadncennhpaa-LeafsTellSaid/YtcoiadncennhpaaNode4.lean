/- Contracts of package node: an inner node's entries. -/
import Derived.Test.YtcoiadncennhpaaNode3
namespace Go.Proofs.Ytcoiadncennhpaa
open Go.RowKit

theorem RdS.lit {w : World} {b off n : Nat} {ss : List ByteArray} (h : RdS w (some ⟨b, off, none⟩) n ss) : ∀ (j : Nat) (hj : j < ss.length), w.cell? ⟨b, off + j, none⟩ = some (.string ss[j]) := by
  intro j hj
  obtain ⟨b', off', e, _, hc⟩ := h.spot (by have := h.len; omega)
  injection e with e
  injection e with e1 e2
  subst e1 e2
  exact hc j hj
/-- Where a number stands in a row: the first place, or -1. -/
def idxP (zs : List Int) (v : Int) (r : Int) : Prop := (0 ≤ r ∧ v ∈ zs) ∨ (r = -1 ∧ v ∉ zs)

/-- Index hands back a place, or -1. -/
def IdxRet (zs : List Int) (v : Int) (w : World) (e : Ending) (w' : World) : Prop := ∃ r : Int, e = .returned (.int .i64 r) ∧ idxP zs v r ∧ Below w.heap.size w w'

set_option maxHeartbeats 400000 in
theorem index_any (A : Option Addr) (n c : Nat) (zs : List Int) (v : Int) (w : World) (h : RdI w A n zs) (hn : n ≤ 9223372036854775807) :
    Calls Try.prog 140 #[.slice A n c, .int .i64 v] w (IdxRet zs v w) := by
  have hlen := Lib.hid h.len
  go_enter Try.func140, Try.ntmps140
  go_wp2_with fail
  go_loop [5, 8] (fun _ i => ∃ k : Nat, k ≤ n ∧ i = .int .i64 k ∧ Hid (∀ (q : Nat) (hq : q < zs.length), q < k → zs[q] ≠ v)) (fun _ i => n - (intOf i).toNat)
  case atStart => exact ⟨0, Nat.zero_le _, rfl, fun q _ hq => absurd hq (Nat.not_lt_zero _)⟩
  case round =>
    obtain ⟨k, hk, rfl, hpre⟩ := hrel
    by_cases hlt : k < n
    · have hkz : k < zs.length := by rw [hlen.out]; exact hlt
      obtain ⟨b, off, rfl, hb, hc⟩ := h.spot (by omega)
      have cell := hc k hkz
      clear hc
      by_cases he : v = zs[k]
      · have t1 : (v == zs[k]) = true := beq_iff_eq.2 he
        have He := Lib.hid he
        clear he
        go_wp2_with fail
        go_ret
        exact ⟨k, rfl, .inl ⟨by omega, by rw [He.out]; exact List.getElem_mem hkz⟩, Below.refl _ _⟩
      · have t1 : (v == zs[k]) = false := beq_eq_false_iff_ne.2 he
        have He := Lib.hid he
        clear he
        go_wp2_with fail
        go_round
        case rel =>
          refine ⟨k + 1, by omega, by go_num, fun q hq hqk => ?_⟩
          rcases Nat.lt_succ_iff_lt_or_eq.1 hqk with g | rfl
          · exact hpre.out q hq g
          · exact fun e => He.out e.symm
        case measure => simp [intOf]; omega
    · go_wp2_with fail
      go_ret
      refine ⟨-1, rfl, .inr ⟨rfl, fun hm => ?_⟩, Below.refl _ _⟩
      obtain ⟨q, hq, he⟩ := List.getElem_of_mem hm
      exact hpre.out q hq (by have := hlen.out; omega) he

theorem contains_any (A : Option Addr) (n c : Nat) (zs : List Int) (v : Int) (w : World) (h : RdI w A n zs) (hn : n ≤ 9223372036854775807) :
    Calls Try.prog 136 #[.slice A n c, .int .i64 v] w (Ret (.bool (decide (v ∈ zs))) w) := by
  go_enter Try.func136, Try.ntmps136
  go_wp2_with fail
  refine (index_any A n c zs v _ h hn).mono ?_
  rintro e w1 ⟨r, rfl, hr, hb1⟩
  go_wp2_with fail
  go_ret
  refine ⟨ret_bool ?_, hb1⟩
  rw [Bool.eq_iff_iff]
  rcases hr with ⟨h1, h2⟩ | ⟨rfl, h2⟩
  · simp [h1, h2]
  · simp [h2]

/-- An inner node's entry. -/
def kidOk (d : Nd) (i : Nat) : Bool := cellB (d.kids.getD i 0) && (!decide (d.kids.getD i 0 ∈ d.kids.take i) && (decide (i = 0) || goodB (d.keys.getD i ByteArray.empty)))
/-- An inner node's entries. -/
def kidsB (d : Nd) : Bool := decide (d.kids.length = d.keys.length) && (decide (d.kids.length ≠ 0) && (decide (d.vals.length = 0) && (((d.keys.getD 0 ByteArray.empty).toList == d.low.toList) && (List.range d.kids.length).all (kidOk d))))
theorem getD_at {α : Type} (l : List α) (i : Nat) (x : α) (h : i < l.length) : l.getD i x = l[i] := by rw [List.getD_eq_getElem?_getD, List.getElem?_eq_getElem h]; rfl

set_option maxRecDepth 100000 in
set_option maxHeartbeats 1000000 in
theorem kids_any (d : Nd) (A B C : Option Addr) (ca cb cc : Nat) (w : World) (h : Lies w d A B C ca cb cc) :
    Calls Try.prog 118 #[.agg (ndCells d A B C ca cb cc)] w (Ret (.bool (kidsB d)) w) := by
  have hk0 := h.keys
  have hi0 := h.kids
  have hfit := h.fit
  have hla := h.la
  have hlb := h.lb
  have hlc := h.lc
  have hkc := h.kc
  obtain ⟨level, low, high, last, next, keys, vals, kids⟩ := d
  have HB := below_alloc w (.cells (ndCells ⟨level, low, high, last, next, keys, vals, kids⟩ A B C ca cb cc) 26)
  have hbx := Boxed.new w ⟨level, low, high, last, next, keys, vals, kids⟩ A B C ca cb cc 26
  have hsz : w.heap.size < (w.alloc (.cells (ndCells ⟨level, low, high, last, next, keys, vals, kids⟩ A B C ca cb cc) 26)).heap.size := by simp
  have hlow : low.size ≤ maxLen := h.low
  have hhigh : high.size ≤ maxLen := h.high
  simp only [ndCells] at HB hbx hsz ⊢
  have hk := hk0.up HB
  have hi := hi0.up HB
  clear hk0 hi0 h
  simp only [] at hk hi hfit hla hlb hlc hkc
  have heq : kidsB ⟨level, low, high, last, next, keys, vals, kids⟩ = (decide (kids.length = keys.length) && (decide (kids.length ≠ 0) && (decide (vals.length = 0) && (((keys.getD 0 ByteArray.empty).toList == low.toList) && (List.range kids.length).all (kidOk ⟨level, low, high, last, next, keys, vals, kids⟩))))) := rfl
  by_cases c1 : kids.length = keys.length
  · have t1 : ((kids.length : Int) != (keys.length : Int)) = false := by rw [bne_eq_false_iff_eq]; omega
    by_cases c2 : kids.length = 0
    · have Hno : Hid (kidsB ⟨level, low, high, last, next, keys, vals, kids⟩ = false) := show _ = _ by rw [heq]; simp [c2]
      have t2 : ((kids.length : Int) == 0) = true := by rw [beq_iff_eq]; omega
      clear heq c1 c2
      go_enter Try.func118, Try.ntmps118
      go_wp2_with fail
      generalize w.alloc _ = W at HB hbx hsz ⊢
      obtain ⟨b0, b1, b2, b3, b4, b5, b6, b7⟩ := id hbx
      simp only [] at b0 b1 b2 b3 b4 b5 b6 b7
      go_quiet (fail)
      go_wp2_with fail
      go_ret
      exact ⟨ret_bool Hno.out.symm, below_drewN HB _⟩
    · have t2 : ((kids.length : Int) == 0) = false := by rw [beq_eq_false_iff_ne]; omega
      by_cases c3 : vals.length = 0
      · have t3 : decide ((0 : Int) < (vals.length : Int)) = false := decide_eq_false (by omega)
        have t3' : decide (0 < vals.length) = false := decide_eq_false (by omega)
        have hk1 : 0 < keys.length := by omega
        obtain ⟨b, off, rfl, hbB, hc⟩ := hk.spot hk1
        have hc0 := hc 0 hk1
        rw [Nat.add_zero] at hc0
        have hk2 : (0 : Int) < (keys.length : Int) := by omega
        cases c4 : (keys[0].toList == low.toList)
        · have Hno : Hid (kidsB ⟨level, low, high, last, next, keys, vals, kids⟩ = false) := show _ = _ by rw [heq, getD_at _ _ _ hk1, c4]; simp
          have C4 := Lib.hid c4
          clear heq c1 c2 c3 hc
          go_enter Try.func118, Try.ntmps118
          go_wp2_with fail
          generalize w.alloc _ = W at HB hbx hsz hc0 ⊢
          obtain ⟨b0, b1, b2, b3, b4, b5, b6, b7⟩ := id hbx
          simp only [] at b0 b1 b2 b3 b4 b5 b6 b7
          go_quiet (fail)
          go_wp2_with fail
          go_ret
          exact ⟨ret_bool Hno.out.symm, below_drewN HB _⟩
        · have hall : kidsB ⟨level, low, high, last, next, keys, vals, kids⟩ = (List.range kids.length).all (kidOk ⟨level, low, high, last, next, keys, vals, kids⟩) := by
            rw [heq, getD_at _ _ _ hk1, c4, decide_eq_true c1, decide_eq_true c2, decide_eq_true c3]; simp
          have Hall := Lib.hid hall
          have Hkk := Lib.hid c1
          clear heq c1 c2 c3 hc hall
          go_enter Try.func118, Try.ntmps118
          go_wp2_with fail
          generalize w.alloc _ = W at HB hbx hsz hk hi hc0 ⊢
          obtain ⟨b0, b1, b2, b3, b4, b5, b6, b7⟩ := id hbx
          simp only [] at b0 b1 b2 b3 b4 b5 b6 b7
          go_quiet (fail)
          go_wp2_with fail
          have HBd := below_drewN HB nq
          have hbxd : Boxed (W.drewN nq) w.heap.size ⟨level, low, high, last, next, keys, vals, kids⟩ (some ⟨b, off, none⟩) B C ca cb cc := hbx
          have hkd := hk.drewN nq
          have hid := hi.drewN nq
          have hszd : w.heap.size < (W.drewN nq).heap.size := hsz
          clear b0 b1 b2 b3 b4 b5 b6 b7 HB hbx hk hi hsz hc0 t1 t2 t3 t3'
          generalize W.drewN nq = W at HBd hbxd hkd hid hszd ⊢
          go_loopw [3, 4, 36] (fun _ _ i wr => ∃ j : Nat, j ≤ kids.length ∧ i = .int .i64 j ∧ Hid (∀ q, q < j → kidOk ⟨level, low, high, last, next, keys, vals, kids⟩ q = true) ∧ Below W.heap.size W wr) (fun _ _ i _ => kids.length - (intOf i).toNat)
          case atStart => exact ⟨0, Nat.zero_le _, rfl, fun q hq => absurd hq (Nat.not_lt_zero _), Below.refl _ _⟩
          case round =>
            obtain ⟨j, hj, rfl, hpre, hbel⟩ := hrel
            have hbx := hbxd.up hbel hszd
            have hsz := Nat.lt_of_lt_of_le hszd hbel.size
            have HB := below_of HBd hbel
            have hi := hid.up hbel
            have hk := hkd.up hbel
            have HBn := Below.refl wr.heap.size wr
            obtain ⟨b0, b1, b2, b3, b4, b5, b6, b7⟩ := id hbx
            simp only [] at b0 b1 b2 b3 b4 b5 b6 b7
            by_cases hlt : j < kids.length
            · obtain ⟨bi, oi, rfl, hbi, hci⟩ := hi.spot (by omega)
              have cj := hci j hlt
              have hgd : Hid (kids.getD j 0 = kids[j]) := getD_at _ _ _ hlt
              clear hci
              have hft : RdI wr (some ⟨bi, oi, none⟩) j (kids.take j) := by
                have := Rd.first (k := j) hi (by omega)
                simpa [RdI, i64s] using this
              have hok : Hid (kidOk ⟨level, low, high, last, next, keys, vals, kids⟩ j = (cellB kids[j] && (!decide (kids[j] ∈ kids.take j) && (decide (j = 0) || goodB (keys.getD j ByteArray.empty))))) := show _ = _ by
                unfold kidOk; simp only []; rw [hgd.out]
              have hjc : j ≤ cc := by omega
              go_wp2_with fail
              refine (cell_any _ _).mono ?_
              rintro e wn ⟨rfl, hbn⟩
              replace HB := below_of HB hbn
              replace HBn := below_of HBn hbn
              replace hbx := hbx.up hbn hsz
              replace hsz := Nat.lt_of_lt_of_le hsz hbn.size
              replace hk := hk.up hbn
              replace hi := hi.up hbn
              replace hft := hft.up hbn
              clear hbn b0 b1 b2 b3 b4 b5 b6 b7
              obtain ⟨b0, b1, b2, b3, b4, b5, b6, b7⟩ := id hbx
              simp only [] at b0 b1 b2 b3 b4 b5 b6 b7
              cases hce : cellB kids[j]
              · have Hce := Lib.hid hce
                clear hce
                go_wp2_with fail
                go_ret
                refine ⟨ret_bool ?_, HB⟩
                rw [Hall.out]
                symm
                rw [List.all_eq_false]
                refine ⟨j, List.mem_range.2 hlt, ?_⟩
                rw [show kidOk ⟨level, low, high, last, next, keys, vals, kids⟩ j = false from (by rw [hok.out, Hce.out]; simp)]
                exact Bool.false_ne_true
              · have Hce := Lib.hid hce
                clear hce
                go_wp2_with fail
                refine (contains_any _ j _ (kids.take j) _ _ hft (by omega)).mono ?_
                rintro e wn ⟨rfl, hbn⟩
                replace HB := below_of HB hbn
                replace HBn := below_of HBn hbn
                replace hbx := hbx.up hbn hsz
                replace hsz := Nat.lt_of_lt_of_le hsz hbn.size
                replace hk := hk.up hbn
                replace hi := hi.up hbn
                replace hft := hft.up hbn
                clear hbn b0 b1 b2 b3 b4 b5 b6 b7
                obtain ⟨b0, b1, b2, b3, b4, b5, b6, b7⟩ := id hbx
                simp only [] at b0 b1 b2 b3 b4 b5 b6 b7
                cases hco : decide (kids[j] ∈ kids.take j)
                · have Hco := Lib.hid hco
                  clear hco
                  by_cases hj0 : j = 0
                  · subst hj0
                    go_wp2_with fail
                    go_roundw
                    case rel =>
                      refine ⟨1, by omega, by go_num, fun q hq => ?_, below_of hbel HBn⟩
                      obtain rfl : q = 0 := by omega
                      rw [hok.out, Hce.out, Hco.out]; simp
                    case measure => simp [intOf]; omega
                  · have hjk : j < keys.length := by rw [← Hkk.out]; exact hlt
                    have hgk : Hid (keys.getD j ByteArray.empty = keys[j]) := getD_at _ _ _ hjk
                    have ckj := RdS.lit hk j hjk
                    have hmj := hfit j hjk
                    have hj1 : (0 : Int) < (j : Int) := by omega
                    have hj2 : (j : Int) < (keys.length : Int) := by omega
                    clear hj0
                    go_wp2_with fail
                    refine (good_any _ _ hmj).mono ?_
                    rintro e wn ⟨rfl, hbn⟩
                    replace HB := below_of HB hbn
                    replace HBn := below_of HBn hbn
                    replace hbx := hbx.up hbn hsz
                    replace hsz := Nat.lt_of_lt_of_le hsz hbn.size
                    replace hk := hk.up hbn
                    replace hi := hi.up hbn
                    replace hft := hft.up hbn
                    clear hbn b0 b1 b2 b3 b4 b5 b6 b7
                    obtain ⟨b0, b1, b2, b3, b4, b5, b6, b7⟩ := id hbx
                    simp only [] at b0 b1 b2 b3 b4 b5 b6 b7
                    cases hgo : goodB keys[j]
                    · have Hgo := Lib.hid hgo
                      clear hgo
                      go_wp2_with fail
                      go_ret
                      refine ⟨ret_bool ?_, HB⟩
                      rw [Hall.out]
                      symm
                      rw [List.all_eq_false]
                      refine ⟨j, List.mem_range.2 hlt, ?_⟩
                      rw [show kidOk ⟨level, low, high, last, next, keys, vals, kids⟩ j = false from (by rw [hok.out, hgk.out, Hgo.out, decide_eq_false (show ¬ j = 0 by omega)]; simp)]
                      exact Bool.false_ne_true
                    · have Hgo := Lib.hid hgo
                      clear hgo
                      go_wp2_with fail
                      go_roundw
                      case rel =>
                        refine ⟨j + 1, by omega, by go_num, fun q hq => ?_, below_of hbel HBn⟩
                        rcases Nat.lt_succ_iff_lt_or_eq.1 hq with g | rfl
                        · exact hpre.out q g
                        · rw [hok.out, Hce.out, Hco.out, hgk.out, Hgo.out]; simp
                      case measure => simp [intOf]; omega
                · have Hco := Lib.hid hco
                  clear hco
                  go_wp2_with fail
                  go_ret
                  refine ⟨ret_bool ?_, HB⟩
                  rw [Hall.out]
                  symm
                  rw [List.all_eq_false]
                  refine ⟨j, List.mem_range.2 hlt, ?_⟩
                  rw [show kidOk ⟨level, low, high, last, next, keys, vals, kids⟩ j = false from (by rw [hok.out, Hce.out, Hco.out]; simp)]
                  exact Bool.false_ne_true
            · go_wp2_with fail
              go_ret
              refine ⟨ret_bool ?_, HB⟩
              rw [Hall.out]
              symm
              rw [List.all_eq_true]
              intro q hq
              exact hpre.out q (by have := List.mem_range.1 hq; omega)
      · have Hno : Hid (kidsB ⟨level, low, high, last, next, keys, vals, kids⟩ = false) := show _ = _ by rw [heq, decide_eq_false c3]; simp
        have t3 : decide ((0 : Int) < (vals.length : Int)) = true := decide_eq_true (by omega)
        have t3' : decide (0 < vals.length) = true := decide_eq_true (by omega)
        clear heq c1 c2 c3
        go_enter Try.func118, Try.ntmps118
        go_wp2_with fail
        generalize w.alloc _ = W at HB hbx hsz ⊢
        obtain ⟨b0, b1, b2, b3, b4, b5, b6, b7⟩ := id hbx
        simp only [] at b0 b1 b2 b3 b4 b5 b6 b7
        go_quiet (fail)
        go_wp2_with fail
        go_ret
        exact ⟨ret_bool Hno.out.symm, below_drewN HB _⟩
  · have Hno : Hid (kidsB ⟨level, low, high, last, next, keys, vals, kids⟩ = false) := show _ = _ by rw [heq, decide_eq_false c1]; simp
    have t1 : ((kids.length : Int) != (keys.length : Int)) = true := by rw [bne_iff_ne]; omega
    clear heq c1
    go_enter Try.func118, Try.ntmps118
    go_wp2_with fail
    generalize w.alloc _ = W at HB hbx hsz ⊢
    obtain ⟨b0, b1, b2, b3, b4, b5, b6, b7⟩ := id hbx
    simp only [] at b0 b1 b2 b3 b4 b5 b6 b7
    go_quiet (fail)
    go_wp2_with fail
    go_ret
    exact ⟨ret_bool Hno.out.symm, below_drewN HB _⟩
end Go.Proofs.Ytcoiadncennhpaa
