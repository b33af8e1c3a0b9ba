/- The law KeyParts returns true at every three texts. No condition. -/
import Derived.Test.YtggjlnjpokdfpaaKeyOrders
namespace Go.Proofs.Ytggjlnjpokdfpaa
open Go.RowKit

set_option maxRecDepth 100000 in
set_option maxHeartbeats 1000000 in
theorem keyparts_walk (a b c : ByteArray) (w : World) (ha : a.size ≤ maxLen) (hb : b.size ≤ maxLen) (hc : c.size ≤ maxLen) :
    Calls Try.prog 5 #[.string a, .string b, .string c] w (Ret (.bool true) w) := by
  have hm : ∀ (j : Nat) (hj : j < [a, b, c].length), [a, b, c][j].size ≤ maxLen := fun j hj => match j, hj with
    | 0, _ => ha
    | 1, _ => hb
    | 2, _ => hc
  have HB := Below.refl w.heap.size w
  by_cases hsh : short 300 [a, b, c] = true
  · have hs := Lib.hid hsh
    clear hsh
    by_cases hl : Pl.ls a.data.toList b.data.toList = true
    · have C1 := Lib.hid (fun W => parting_yes a b W ha hb hl)
      have C2 := Lib.hid (fun W => refparting_yes a b W ha hb hl)
      obtain ⟨s, es⟩ : ∃ s, s = b.extract 0 (Pl.shr a.data.toList b.data.toList + 1) := ⟨_, rfl⟩
      have hsz : s.size ≤ maxLen := by rw [es]; have := Pl.shr_lt hl; rw [pre_size _ _ (by exact this)]; have : b.size ≤ maxLen := hb; have : Pl.shr a.data.toList b.data.toList < b.size := Pl.shr_lt hl; omega
      have h1 : Pl.ls a.data.toList s.data.toList = true := by rw [es, pre_list]; exact Pl.ls_take_more _ _ hl
      have h2 : Pl.ls b.data.toList s.data.toList = false := by rw [es, pre_list]; exact Pl.ls_take _ _
      rw [← es] at C1 C2
      clear es
      have C3 := Lib.hid (compare_any c a)
      have C4 := Lib.hid (compare_any c s)
      have C5 := Lib.hid (compare_any c b)
      have hall : (0 < Pl.cmp c.data.toList a.data.toList ∨ Pl.cmp c.data.toList s.data.toList < 0) ∧ (Pl.cmp c.data.toList b.data.toList < 0 ∨ 0 ≤ Pl.cmp c.data.toList s.data.toList) := by
        rw [Pl.cmp_gt, Pl.cmp_lt, Pl.cmp_lt, Pl.cmp_ge]
        constructor
        · by_cases h : Pl.ls a.data.toList c.data.toList = true
          · exact .inl h
          · exact .inr (Pl.ls_of_le_ls (Bool.eq_false_iff.2 h) h1)
        · by_cases h : Pl.ls c.data.toList b.data.toList = true
          · exact .inl h
          · exact .inr (Pl.le_trans' h2 (Bool.eq_false_iff.2 h))
      generalize Pl.cmp c.data.toList a.data.toList = x at *
      generalize Pl.cmp c.data.toList s.data.toList = y at *
      generalize Pl.cmp c.data.toList b.data.toList = z at *
      have hcases : (0 < x ∧ z < 0) ∨ (0 < x ∧ ¬ z < 0 ∧ 0 ≤ y) ∨ (¬ 0 < x ∧ y < 0 ∧ z < 0) := by omega
      clear hall hl h1 h2
      rcases hcases with ⟨k1, k2⟩ | ⟨k1, k2, k3⟩ | ⟨k1, k2, k3⟩
      · go_enter Try.func5, Try.ntmps5
        go_wp2_with fail
        refine (light3_any _ _ _ [a, b, c] _ (RdS.new w [a, b, c] 9) (show 3 ≤ 9223372036854775800 by decide) hm).mono ?_
        rintro e wn ⟨rfl, hbn⟩
        replace HB := below_of (show Below w.heap.size w _ from (by first | exact HB | exact below_drewN HB _ | exact below_of HB (below_alloc _ _) | exact below_of (below_drewN HB _) (below_alloc _ _))) hbn
        clear hbn
        rw [hs.out]
        go_wp2_with fail
        refine (C1.out _).mono ?_
        rintro e wn ⟨rfl, hbn⟩
        replace HB := below_of (show Below w.heap.size w _ from (by first | exact HB | exact below_drewN HB _ | exact below_of HB (below_alloc _ _) | exact below_of (below_drewN HB _) (below_alloc _ _))) hbn
        clear hbn
        go_wp2_with fail
        refine (C2.out _).mono ?_
        rintro e wn ⟨rfl, hbn⟩
        replace HB := below_of (show Below w.heap.size w _ from (by first | exact HB | exact below_drewN HB _ | exact below_of HB (below_alloc _ _) | exact below_of (below_drewN HB _) (below_alloc _ _))) hbn
        clear hbn
        go_wp2_with fail
        refine (C3.out _ hc ha).mono ?_
        rintro e wn ⟨rfl, hbn⟩
        replace HB := below_of (show Below w.heap.size w _ from (by first | exact HB | exact below_drewN HB _ | exact below_of HB (below_alloc _ _) | exact below_of (below_drewN HB _) (below_alloc _ _))) hbn
        clear hbn
        go_wp2_with fail
        refine (C5.out _ hc hb).mono ?_
        rintro e wn ⟨rfl, hbn⟩
        replace HB := below_of (show Below w.heap.size w _ from (by first | exact HB | exact below_drewN HB _ | exact below_of HB (below_alloc _ _) | exact below_of (below_drewN HB _) (below_alloc _ _))) hbn
        clear hbn
        go_wp2_with fail
        refine (lives3_any _).mono ?_
        rintro e wn ⟨rfl, hbn⟩
        replace HB := below_of (show Below w.heap.size w _ from (by first | exact HB | exact below_drewN HB _ | exact below_of HB (below_alloc _ _) | exact below_of (below_drewN HB _) (below_alloc _ _))) hbn
        clear hbn
        go_wp2_with fail
        go_ret
        exact ⟨rfl, HB⟩
      · go_enter Try.func5, Try.ntmps5
        go_wp2_with fail
        refine (light3_any _ _ _ [a, b, c] _ (RdS.new w [a, b, c] 9) (show 3 ≤ 9223372036854775800 by decide) hm).mono ?_
        rintro e wn ⟨rfl, hbn⟩
        replace HB := below_of (show Below w.heap.size w _ from (by first | exact HB | exact below_drewN HB _ | exact below_of HB (below_alloc _ _) | exact below_of (below_drewN HB _) (below_alloc _ _))) hbn
        clear hbn
        rw [hs.out]
        go_wp2_with fail
        refine (C1.out _).mono ?_
        rintro e wn ⟨rfl, hbn⟩
        replace HB := below_of (show Below w.heap.size w _ from (by first | exact HB | exact below_drewN HB _ | exact below_of HB (below_alloc _ _) | exact below_of (below_drewN HB _) (below_alloc _ _))) hbn
        clear hbn
        go_wp2_with fail
        refine (C2.out _).mono ?_
        rintro e wn ⟨rfl, hbn⟩
        replace HB := below_of (show Below w.heap.size w _ from (by first | exact HB | exact below_drewN HB _ | exact below_of HB (below_alloc _ _) | exact below_of (below_drewN HB _) (below_alloc _ _))) hbn
        clear hbn
        go_wp2_with fail
        refine (C3.out _ hc ha).mono ?_
        rintro e wn ⟨rfl, hbn⟩
        replace HB := below_of (show Below w.heap.size w _ from (by first | exact HB | exact below_drewN HB _ | exact below_of HB (below_alloc _ _) | exact below_of (below_drewN HB _) (below_alloc _ _))) hbn
        clear hbn
        go_wp2_with fail
        refine (C5.out _ hc hb).mono ?_
        rintro e wn ⟨rfl, hbn⟩
        replace HB := below_of (show Below w.heap.size w _ from (by first | exact HB | exact below_drewN HB _ | exact below_of HB (below_alloc _ _) | exact below_of (below_drewN HB _) (below_alloc _ _))) hbn
        clear hbn
        go_wp2_with fail
        refine (C4.out _ hc hsz).mono ?_
        rintro e wn ⟨rfl, hbn⟩
        replace HB := below_of (show Below w.heap.size w _ from (by first | exact HB | exact below_drewN HB _ | exact below_of HB (below_alloc _ _) | exact below_of (below_drewN HB _) (below_alloc _ _))) hbn
        clear hbn
        go_wp2_with fail
        refine (lives3_any _).mono ?_
        rintro e wn ⟨rfl, hbn⟩
        replace HB := below_of (show Below w.heap.size w _ from (by first | exact HB | exact below_drewN HB _ | exact below_of HB (below_alloc _ _) | exact below_of (below_drewN HB _) (below_alloc _ _))) hbn
        clear hbn
        go_wp2_with fail
        go_ret
        exact ⟨rfl, HB⟩
      · go_enter Try.func5, Try.ntmps5
        go_wp2_with fail
        refine (light3_any _ _ _ [a, b, c] _ (RdS.new w [a, b, c] 9) (show 3 ≤ 9223372036854775800 by decide) hm).mono ?_
        rintro e wn ⟨rfl, hbn⟩
        replace HB := below_of (show Below w.heap.size w _ from (by first | exact HB | exact below_drewN HB _ | exact below_of HB (below_alloc _ _) | exact below_of (below_drewN HB _) (below_alloc _ _))) hbn
        clear hbn
        rw [hs.out]
        go_wp2_with fail
        refine (C1.out _).mono ?_
        rintro e wn ⟨rfl, hbn⟩
        replace HB := below_of (show Below w.heap.size w _ from (by first | exact HB | exact below_drewN HB _ | exact below_of HB (below_alloc _ _) | exact below_of (below_drewN HB _) (below_alloc _ _))) hbn
        clear hbn
        go_wp2_with fail
        refine (C2.out _).mono ?_
        rintro e wn ⟨rfl, hbn⟩
        replace HB := below_of (show Below w.heap.size w _ from (by first | exact HB | exact below_drewN HB _ | exact below_of HB (below_alloc _ _) | exact below_of (below_drewN HB _) (below_alloc _ _))) hbn
        clear hbn
        go_wp2_with fail
        refine (C3.out _ hc ha).mono ?_
        rintro e wn ⟨rfl, hbn⟩
        replace HB := below_of (show Below w.heap.size w _ from (by first | exact HB | exact below_drewN HB _ | exact below_of HB (below_alloc _ _) | exact below_of (below_drewN HB _) (below_alloc _ _))) hbn
        clear hbn
        go_wp2_with fail
        refine (C4.out _ hc hsz).mono ?_
        rintro e wn ⟨rfl, hbn⟩
        replace HB := below_of (show Below w.heap.size w _ from (by first | exact HB | exact below_drewN HB _ | exact below_of HB (below_alloc _ _) | exact below_of (below_drewN HB _) (below_alloc _ _))) hbn
        clear hbn
        go_wp2_with fail
        refine (C5.out _ hc hb).mono ?_
        rintro e wn ⟨rfl, hbn⟩
        replace HB := below_of (show Below w.heap.size w _ from (by first | exact HB | exact below_drewN HB _ | exact below_of HB (below_alloc _ _) | exact below_of (below_drewN HB _) (below_alloc _ _))) hbn
        clear hbn
        go_wp2_with fail
        refine (lives3_any _).mono ?_
        rintro e wn ⟨rfl, hbn⟩
        replace HB := below_of (show Below w.heap.size w _ from (by first | exact HB | exact below_drewN HB _ | exact below_of HB (below_alloc _ _) | exact below_of (below_drewN HB _) (below_alloc _ _))) hbn
        clear hbn
        go_wp2_with fail
        go_ret
        exact ⟨rfl, HB⟩
    · have hl' := Bool.eq_false_iff.2 hl
      have C1 := Lib.hid (fun W => parting_no a b W ha hb hl')
      have C2 := Lib.hid (fun W => refparting_no a b W ha hb hl')
      have C3 := Lib.hid (compare_any a b)
      have hx : 0 ≤ Pl.cmp a.data.toList b.data.toList := Pl.cmp_ge.2 hl'
      generalize Pl.cmp a.data.toList b.data.toList = x at *
      clear hl hl'
      go_enter Try.func5, Try.ntmps5
      go_wp2_with fail
      refine (light3_any _ _ _ [a, b, c] _ (RdS.new w [a, b, c] 9) (show 3 ≤ 9223372036854775800 by decide) hm).mono ?_
      rintro e wn ⟨rfl, hbn⟩
      replace HB := below_of (show Below w.heap.size w _ from (by first | exact HB | exact below_drewN HB _ | exact below_of HB (below_alloc _ _) | exact below_of (below_drewN HB _) (below_alloc _ _))) hbn
      clear hbn
      rw [hs.out]
      go_wp2_with fail
      refine (C1.out _).mono ?_
      rintro e wn ⟨rfl, hbn⟩
      replace HB := below_of (show Below w.heap.size w _ from (by first | exact HB | exact below_drewN HB _ | exact below_of HB (below_alloc _ _) | exact below_of (below_drewN HB _) (below_alloc _ _))) hbn
      clear hbn
      go_wp2_with fail
      refine (C2.out _).mono ?_
      rintro e wn ⟨rfl, hbn⟩
      replace HB := below_of (show Below w.heap.size w _ from (by first | exact HB | exact below_drewN HB _ | exact below_of HB (below_alloc _ _) | exact below_of (below_drewN HB _) (below_alloc _ _))) hbn
      clear hbn
      go_wp2_with fail
      refine (C3.out _ ha hb).mono ?_
      rintro e wn ⟨rfl, hbn⟩
      replace HB := below_of (show Below w.heap.size w _ from (by first | exact HB | exact below_drewN HB _ | exact below_of HB (below_alloc _ _) | exact below_of (below_drewN HB _) (below_alloc _ _))) hbn
      clear hbn
      go_wp2_with fail
      refine (lives3_any _).mono ?_
      rintro e wn ⟨rfl, hbn⟩
      replace HB := below_of (show Below w.heap.size w _ from (by first | exact HB | exact below_drewN HB _ | exact below_of HB (below_alloc _ _) | exact below_of (below_drewN HB _) (below_alloc _ _))) hbn
      clear hbn
      go_wp2_with fail
      go_ret
      exact ⟨rfl, HB⟩
  · have hs := Lib.hid (Bool.eq_false_iff.2 hsh)
    clear hsh
    go_enter Try.func5, Try.ntmps5
    go_wp2_with fail
    refine (light3_any _ _ _ [a, b, c] _ (RdS.new w [a, b, c] 9) (show 3 ≤ 9223372036854775800 by decide) hm).mono ?_
    rintro e wn ⟨rfl, hbn⟩
    replace HB := below_of (show Below w.heap.size w _ from (by first | exact HB | exact below_drewN HB _ | exact below_of HB (below_alloc _ _) | exact below_of (below_drewN HB _) (below_alloc _ _))) hbn
    clear hbn
    rw [hs.out]
    go_wp2_with fail
    refine (lives3_any _).mono ?_
    rintro e wn ⟨rfl, hbn⟩
    replace HB := below_of (show Below w.heap.size w _ from (by first | exact HB | exact below_drewN HB _ | exact below_of HB (below_alloc _ _) | exact below_of (below_drewN HB _) (below_alloc _ _))) hbn
    clear hbn
    go_wp2_with fail
    go_ret
    exact ⟨rfl, HB⟩
end Go.Proofs.Ytggjlnjpokdfpaa
