/- Contracts of package node: which nodes are sound. -/
import Derived.Test.YtcoiadncennhpaaNode4
namespace Go.Proofs.Ytcoiadncennhpaa
open Go.RowKit

/-- Is a node sound, for a fan? -/
def soundB (d : Nd) (fan : Int) : Bool := borderB d && (decide ((d.keys.length : Int) ≤ fan) && (Pl.rises d.keys && (d.keys.all (insB d) && (if d.level = 0 then valsB d else kidsB d))))

set_option maxRecDepth 100000 in
set_option maxHeartbeats 1000000 in
theorem sound_any (d : Nd) (fan : Int) (A B C : Option Addr) (ca cb cc : Nat) (w : World) (h : Lies w d A B C ca cb cc) :
    Calls Try.prog 67 #[.agg (ndCells d A B C ca cb cc), .int .i64 fan] w (Ret (.bool (soundB d fan)) w) := by
  obtain ⟨level, low, high, last, next, keys, vals, kids⟩ := d
  have HB := below_alloc w (.cells (ndCells ⟨level, low, high, last, next, keys, vals, kids⟩ A B C ca cb cc) 26)
  have hbx := Boxed.new w ⟨level, low, high, last, next, keys, vals, kids⟩ A B C ca cb cc 26
  have hsz : w.heap.size < (w.alloc (.cells (ndCells ⟨level, low, high, last, next, keys, vals, kids⟩ A B C ca cb cc) 26)).heap.size := by simp
  have hlow : low.size ≤ maxLen := h.low
  have hhigh : high.size ≤ maxLen := h.high
  simp only [ndCells] at HB hbx hsz ⊢
  replace h := h.up HB
  have heq : soundB ⟨level, low, high, last, next, keys, vals, kids⟩ fan = (borderB ⟨level, low, high, last, next, keys, vals, kids⟩ && (decide ((keys.length : Int) ≤ fan) && (Pl.rises keys && (keys.all (insB ⟨level, low, high, last, next, keys, vals, kids⟩) && (if level = 0 then valsB ⟨level, low, high, last, next, keys, vals, kids⟩ else kidsB ⟨level, low, high, last, next, keys, vals, kids⟩))))) := rfl
  have Heq := Lib.hid heq
  clear heq
  go_enter Try.func67, Try.ntmps67
  go_wp2_with fail
  generalize w.alloc _ = W at HB hbx hsz h ⊢
  obtain ⟨b0, b1, b2, b3, b4, b5, b6, b7⟩ := id hbx
  simp only [] at b0 b1 b2 b3 b4 b5 b6 b7
  refine (border_any _ A B C ca cb cc _ h).mono ?_
  rintro e wn ⟨rfl, hbn⟩
  replace HB := below_of HB hbn
  replace hbx := hbx.up hbn hsz
  replace hsz := Nat.lt_of_lt_of_le hsz hbn.size
  replace h := h.up hbn
  clear hbn b0 b1 b2 b3 b4 b5 b6 b7
  obtain ⟨b0, b1, b2, b3, b4, b5, b6, b7⟩ := id hbx
  simp only [] at b0 b1 b2 b3 b4 b5 b6 b7
  cases hbo : borderB ⟨level, low, high, last, next, keys, vals, kids⟩
  · have Hbo := Lib.hid hbo
    clear hbo
    go_wp2_with fail
    go_ret
    exact ⟨ret_bool (by rw [Heq.out, Hbo.out]; simp), HB⟩
  · have Hbo := Lib.hid hbo
    clear hbo
    by_cases hfan : (keys.length : Int) ≤ fan
    · have hla : keys.length ≤ 9223372036854775807 := h.la
      go_wp2_with fail
      refine (rising_any A _ ca keys _ h.keys h.fit hla).mono ?_
      rintro e wn ⟨rfl, hbn⟩
      replace HB := below_of HB hbn
      replace hbx := hbx.up hbn hsz
      replace hsz := Nat.lt_of_lt_of_le hsz hbn.size
      replace h := h.up hbn
      clear hbn b0 b1 b2 b3 b4 b5 b6 b7
      obtain ⟨b0, b1, b2, b3, b4, b5, b6, b7⟩ := id hbx
      simp only [] at b0 b1 b2 b3 b4 b5 b6 b7
      cases hri : Pl.rises keys
      · have Hri := Lib.hid hri
        clear hri
        go_wp2_with fail
        go_ret
        exact ⟨ret_bool (by rw [Heq.out, Hbo.out, Hri.out]; simp), HB⟩
      · have Hri := Lib.hid hri
        clear hri
        have Heq2 : Hid (soundB ⟨level, low, high, last, next, keys, vals, kids⟩ fan = (keys.all (insB ⟨level, low, high, last, next, keys, vals, kids⟩) && (if level = 0 then valsB ⟨level, low, high, last, next, keys, vals, kids⟩ else kidsB ⟨level, low, high, last, next, keys, vals, kids⟩))) := show _ = _ by
          rw [Heq.out, Hbo.out, Hri.out, decide_eq_true hfan]; simp
        clear Heq Hbo Hri
        go_wp2_with fail
        generalize wn = W at HB hbx hsz h b0 b1 b2 b3 b4 b5 b6 b7 ⊢
        have HB0 := HB
        have hbx0 := hbx
        have hsz0 := hsz
        have h0 := h
        clear b0 b1 b2 b3 b4 b5 b6 b7 HB hbx hsz h hfan
        go_loopw [6, 26] (fun _ i wr => ∃ j : Nat, j ≤ keys.length ∧ i = .int .i64 j ∧ Hid (∀ q (hq : q < keys.length), q < j → insB ⟨level, low, high, last, next, keys, vals, kids⟩ keys[q] = true) ∧ Below W.heap.size W wr) (fun _ i _ => keys.length - (intOf i).toNat)
        case atStart => exact ⟨0, Nat.zero_le _, rfl, fun q _ hq => absurd hq (Nat.not_lt_zero _), Below.refl _ _⟩
        case round =>
          obtain ⟨j, hj, rfl, hpre, hbel⟩ := hrel
          have hbx := hbx0.up hbel hsz0
          have hsz := Nat.lt_of_lt_of_le hsz0 hbel.size
          have HB := below_of HB0 hbel
          have h := h0.up hbel
          obtain ⟨b0, b1, b2, b3, b4, b5, b6, b7⟩ := id hbx
          simp only [] at b0 b1 b2 b3 b4 b5 b6 b7
          by_cases hlt : j < keys.length
          · obtain ⟨b, off, rfl, hbB, hc⟩ := RdS.spot h.keys (Nat.lt_of_le_of_lt (Nat.zero_le _) hlt)
            have hcj := hc j hlt
            have hmj := h.fit j hlt
            simp only [] at hcj hmj
            clear hc hbB
            go_wp2_with fail
            refine (covers_any _ _ B C ca cb cc _ _ h hmj).mono ?_
            rintro e wn ⟨rfl, hbn⟩
            cases hin : insB ⟨level, low, high, last, next, keys, vals, kids⟩ keys[j]
            · have Hin := Lib.hid hin
              clear hin
              go_wp2_with fail
              go_ret
              refine ⟨ret_bool ?_, below_of HB hbn⟩
              rw [Heq2.out]
              have hf : keys.all (insB ⟨level, low, high, last, next, keys, vals, kids⟩) = false := by
                rw [List.all_eq_false]
                exact ⟨_, List.getElem_mem hlt, by rw [Hin.out]; exact Bool.false_ne_true⟩
              rw [hf]; simp
            · have Hin := Lib.hid hin
              clear hin
              go_wp2_with fail
              go_roundw
              case rel =>
                refine ⟨j + 1, by omega, by go_num, fun q hq hqj => ?_, below_of hbel hbn⟩
                rcases Nat.lt_succ_iff_lt_or_eq.1 hqj with g | rfl
                · exact hpre.out q hq g
                · exact Hin.out
              case measure => simp [intOf]; omega
          · have hall : keys.all (insB ⟨level, low, high, last, next, keys, vals, kids⟩) = true := by
              rw [List.all_eq_true]
              intro s hs
              obtain ⟨q, hq, rfl⟩ := List.getElem_of_mem hs
              exact hpre.out q hq (by omega)
            have Heq3 : Hid (soundB ⟨level, low, high, last, next, keys, vals, kids⟩ fan = if level = 0 then valsB ⟨level, low, high, last, next, keys, vals, kids⟩ else kidsB ⟨level, low, high, last, next, keys, vals, kids⟩) := show _ = _ by rw [Heq2.out, hall]; simp
            clear hall Heq2
            by_cases hl0 : level = 0
            · have t1 : (level == 0) = true := beq_iff_eq.2 hl0
              have Hl0 := Lib.hid hl0
              clear hl0
              go_wp2_with fail
              refine (vals_any _ A B C ca cb cc _ h).mono ?_
              rintro e wn ⟨rfl, hbn⟩
              go_wp2_with fail
              go_ret
              exact ⟨ret_bool (by rw [Heq3.out, if_pos Hl0.out]), below_of HB hbn⟩
            · have t1 : (level == 0) = false := beq_eq_false_iff_ne.2 hl0
              have Hl0 := Lib.hid hl0
              clear hl0
              go_wp2_with fail
              refine (kids_any _ A B C ca cb cc _ h).mono ?_
              rintro e wn ⟨rfl, hbn⟩
              go_wp2_with fail
              go_ret
              exact ⟨ret_bool (by rw [Heq3.out, if_neg Hl0.out]), below_of HB hbn⟩
    · go_wp2_with fail
      go_ret
      exact ⟨ret_bool (by rw [Heq.out, Hbo.out, decide_eq_false (show ¬ (keys.length : Int) ≤ fan by omega)]; simp), HB⟩

/-- What Check answers of a node. -/
def ndChk (d : Nd) (fan : Int) : Int := if fan < 4 ∨ 64 < fan then 2 else if soundB d fan = true then 0 else 10

theorem ndcheck_any (d : Nd) (fan : Int) (A B C : Option Addr) (ca cb cc : Nat) (w : World) (h : Lies w d A B C ca cb cc) :
    Calls Try.prog 17 #[.agg (ndCells d A B C ca cb cc), .int .i64 fan] w (Ret (.int .i64 (ndChk d fan)) w) := by
  obtain ⟨level, low, high, last, next, keys, vals, kids⟩ := d
  have HB := below_alloc w (.cells (ndCells ⟨level, low, high, last, next, keys, vals, kids⟩ A B C ca cb cc) 26)
  have hbx := Boxed.new w ⟨level, low, high, last, next, keys, vals, kids⟩ A B C ca cb cc 26
  have hsz : w.heap.size < (w.alloc (.cells (ndCells ⟨level, low, high, last, next, keys, vals, kids⟩ A B C ca cb cc) 26)).heap.size := by simp
  have hlow : low.size ≤ maxLen := h.low
  have hhigh : high.size ≤ maxLen := h.high
  simp only [ndCells] at HB hbx hsz ⊢
  replace h := h.up HB
  have hck : (fan < 4 ∧ ndChk ⟨level, low, high, last, next, keys, vals, kids⟩ fan = 2) ∨ (4 ≤ fan ∧ 64 < fan ∧ ndChk ⟨level, low, high, last, next, keys, vals, kids⟩ fan = 2) ∨
      (4 ≤ fan ∧ fan ≤ 64 ∧ ndChk ⟨level, low, high, last, next, keys, vals, kids⟩ fan = if soundB ⟨level, low, high, last, next, keys, vals, kids⟩ fan = true then 0 else 10) := by
    unfold ndChk
    rcases (show fan < 4 ∨ (4 ≤ fan ∧ 64 < fan) ∨ (4 ≤ fan ∧ fan ≤ 64) from by omega) with c | ⟨c, c'⟩ | ⟨c, c'⟩
    · exact .inl ⟨c, if_pos (.inl c)⟩
    · exact .inr (.inl ⟨c, c', if_pos (.inr c')⟩)
    · exact .inr (.inr ⟨c, c', if_neg (by omega)⟩)
  rcases hck with ⟨c, hr⟩ | ⟨c, c', hr⟩ | ⟨c, c', hr⟩
  · have Hr := Lib.hid hr
    clear hr
    go_enter Try.func17, Try.ntmps17
    go_wp2_with fail
    go_ret
    exact ⟨ret_i64 Hr.out.symm, HB⟩
  · have Hr := Lib.hid hr
    clear hr
    go_enter Try.func17, Try.ntmps17
    go_wp2_with fail
    go_ret
    exact ⟨ret_i64 Hr.out.symm, HB⟩
  · have Hr := Lib.hid hr
    clear hr
    go_enter Try.func17, Try.ntmps17
    go_wp2_with fail
    generalize w.alloc _ = W at HB hbx hsz h ⊢
    obtain ⟨b0, b1, b2, b3, b4, b5, b6, b7⟩ := id hbx
    simp only [] at b0 b1 b2 b3 b4 b5 b6 b7
    refine (sound_any _ fan A B C ca cb cc _ h).mono ?_
    rintro e wn ⟨rfl, hbn⟩
    replace HB := below_of HB hbn
    replace hbx := hbx.up hbn hsz
    replace hsz := Nat.lt_of_lt_of_le hsz hbn.size
    replace h := h.up hbn
    clear hbn b0 b1 b2 b3 b4 b5 b6 b7
    obtain ⟨b0, b1, b2, b3, b4, b5, b6, b7⟩ := id hbx
    simp only [] at b0 b1 b2 b3 b4 b5 b6 b7
    cases hs : soundB ⟨level, low, high, last, next, keys, vals, kids⟩ fan
    all_goals
      have Hs := Lib.hid hs
      clear hs
      go_wp2_with fail
      go_ret
      exact ⟨ret_i64 (by rw [Hr.out, Hs.out]; rfl), HB⟩

end Go.Proofs.Ytcoiadncennhpaa
