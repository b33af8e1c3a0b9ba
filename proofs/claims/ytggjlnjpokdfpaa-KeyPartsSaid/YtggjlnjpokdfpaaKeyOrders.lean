/- The law KeyOrders returns true at every three texts. No condition. -/
import Derived.Test.YtggjlnjpokdfpaaKeyLaw
namespace Go.Proofs.Ytggjlnjpokdfpaa
open Go.RowKit

theorem str_ne {a b : ByteArray} (h : a.data.toList ≠ b.data.toList) : (a.toList == b.toList) = false := by
  rw [beq_eq_false_iff_ne, ByteArray.toList_eq, ByteArray.toList_eq]; exact h
theorem str_inj {a b : ByteArray} (h : a.data.toList = b.data.toList) : a = b := ByteArray.ext (Array.toList_inj.1 h)

/-- How three texts stand. -/
def Stand (a b : List UInt8) (v : Int) : Prop := (v = -1 ∧ Pl.ls a b = true) ∨ (v = 0 ∧ a = b) ∨ (v = 1 ∧ Pl.ls b a = true)
theorem stands (a b : List UInt8) : Stand a b (Pl.cmp a b) := by
  unfold Stand
  by_cases h : Pl.ls a b = true
  · exact .inl ⟨by simp [Pl.cmp, h], h⟩
  · by_cases k : Pl.ls b a = true
    · exact .inr (.inr ⟨by simp [Pl.cmp, h, k], k⟩)
    · exact .inr (.inl ⟨by simp [Pl.cmp, h, k], Pl.ls_total a b (Bool.eq_false_iff.2 h) (Bool.eq_false_iff.2 k)⟩)
theorem cmp_of_ls {a b : List UInt8} (h : Pl.ls a b = true) : Pl.cmp a b = -1 := by simp [Pl.cmp, h]

/-- Of three numbers: what the law asks of how three texts stand. -/
def OrdOk (x y z : Int) : Prop := 0 < x ∨ 0 < y ∨ (x = 0 ∧ y = 0 ∧ z = 0) ∨ (x ≤ 0 ∧ y ≤ 0 ∧ (x < 0 ∨ y < 0) ∧ z = -1)
theorem ord_ok (a b c : List UInt8) : OrdOk (Pl.cmp a b) (Pl.cmp b c) (Pl.cmp a c) := by
  unfold OrdOk
  rcases stands a b with ⟨h1, k1⟩ | ⟨h1, k1⟩ | ⟨h1, k1⟩
  · rcases stands b c with ⟨h2, k2⟩ | ⟨h2, k2⟩ | ⟨h2, k2⟩
    · exact .inr (.inr (.inr ⟨by omega, by omega, by omega, cmp_of_ls (Pl.ls_trans _ _ _ k1 k2)⟩))
    · subst k2; exact .inr (.inr (.inr ⟨by omega, by omega, by omega, cmp_of_ls k1⟩))
    · exact .inr (.inl (by omega))
  · subst k1
    rcases stands a c with ⟨h2, k2⟩ | ⟨h2, k2⟩ | ⟨h2, k2⟩
    · exact .inr (.inr (.inr ⟨by omega, by omega, by omega, by omega⟩))
    · exact .inr (.inr (.inl ⟨by omega, by omega, by omega⟩))
    · exact .inr (.inl (by omega))
  · exact .inl (by omega)

set_option maxRecDepth 100000 in
set_option maxHeartbeats 1000000 in
theorem keyorders_walk (a b c : ByteArray) (w : World) (ha : a.size ≤ maxLen) (hb : b.size ≤ maxLen) (hc : c.size ≤ maxLen) :
    Calls Try.prog 4 #[.string a, .string b, .string c] w (Ret (.bool true) w) := by
  have hm : ∀ (j : Nat) (hj : j < [a, b, c].length), [a, b, c][j].size ≤ maxLen := fun j hj => match j, hj with
    | 0, _ => ha
    | 1, _ => hb
    | 2, _ => hc
  have HB := Below.refl w.heap.size w
  by_cases hsh : short 300 [a, b, c] = true
  · have hs := Lib.hid hsh
    clear hsh
    have HO := ord_ok a.data.toList b.data.toList c.data.toList
    obtain ⟨t, et, ht⟩ : ∃ t, (a.toList == b.toList) = t ∧ ((Pl.cmp a.data.toList b.data.toList = 0 ∧ t = true) ∨ (Pl.cmp a.data.toList b.data.toList ≠ 0 ∧ t = false)) := by
      refine ⟨_, rfl, ?_⟩
      by_cases h : a.data.toList = b.data.toList
      · exact .inl ⟨Pl.cmp_eq.2 h, by rw [str_inj h]; simp⟩
      · exact .inr ⟨fun k => h (Pl.cmp_eq.1 k), str_ne h⟩
    have HN := Pl.cmp_neg b.data.toList a.data.toList
    have hr := Pl.cmp_range a.data.toList b.data.toList
    have hr2 := Pl.cmp_range b.data.toList c.data.toList
    have C1 := Lib.hid (compare_any a b)
    have C2 := Lib.hid (compare_any b c)
    have C3 := Lib.hid (compare_any a c)
    have C4 := Lib.hid (compare_any b a)
    rw [HN] at C4
    clear HN
    generalize Pl.cmp a.data.toList b.data.toList = x at *
    generalize Pl.cmp b.data.toList c.data.toList = y at *
    generalize Pl.cmp a.data.toList c.data.toList = z at *
    have hall : (x = 1 ∧ t = false) ∨ (x = -1 ∧ y = 1 ∧ t = false) ∨ (x = 0 ∧ y = 1 ∧ t = true) ∨ (x = 0 ∧ y = 0 ∧ z = 0 ∧ t = true) ∨ (x = -1 ∧ y = 0 ∧ z = -1 ∧ t = false) ∨
        (x = -1 ∧ y = -1 ∧ z = -1 ∧ t = false) ∨ (x = 0 ∧ y = -1 ∧ z = -1 ∧ t = true) := by
      unfold OrdOk at HO
      rcases ht with ⟨h, rfl⟩ | ⟨h, rfl⟩ <;> simp <;> omega
    clear HO ht hr hr2
    rcases hall with ⟨rfl, rfl⟩ | ⟨rfl, rfl, rfl⟩ | ⟨rfl, rfl, rfl⟩ | ⟨rfl, rfl, rfl, rfl⟩ | ⟨rfl, rfl, rfl, rfl⟩ | ⟨rfl, rfl, rfl, rfl⟩ | ⟨rfl, rfl, rfl, rfl⟩
    all_goals
      go_enter Try.func4, Try.ntmps4
      go_wp2_with fail
      refine (light3_any _ _ _ [a, b, c] _ (RdS.new w [a, b, c] 9) (show 3 ≤ 9223372036854775800 by decide) hm).mono ?_
      rintro e wn ⟨rfl, hbn⟩
      replace HB := below_of (show Below w.heap.size w _ from (by first | exact HB | exact below_drewN HB _ | exact below_of HB (below_alloc _ _) | exact below_of (below_drewN HB _) (below_alloc _ _))) hbn
      clear hbn
      rw [hs.out]
      go_wp2_with fail
      refine (C1.out _ ha hb).mono ?_
      rintro e wn ⟨rfl, hbn⟩
      replace HB := below_of (show Below w.heap.size w _ from (by first | exact HB | exact below_drewN HB _ | exact below_of HB (below_alloc _ _) | exact below_of (below_drewN HB _) (below_alloc _ _))) hbn
      clear hbn
      go_wp2_with fail
      refine (C2.out _ hb hc).mono ?_
      rintro e wn ⟨rfl, hbn⟩
      replace HB := below_of (show Below w.heap.size w _ from (by first | exact HB | exact below_drewN HB _ | exact below_of HB (below_alloc _ _) | exact below_of (below_drewN HB _) (below_alloc _ _))) hbn
      clear hbn
      go_wp2_with fail
      refine (C3.out _ ha hc).mono ?_
      rintro e wn ⟨rfl, hbn⟩
      replace HB := below_of (show Below w.heap.size w _ from (by first | exact HB | exact below_drewN HB _ | exact below_of HB (below_alloc _ _) | exact below_of (below_drewN HB _) (below_alloc _ _))) hbn
      clear hbn
      go_wp2_with fail
      refine (C4.out _ hb ha).mono ?_
      rintro e wn ⟨rfl, hbn⟩
      replace HB := below_of (show Below w.heap.size w _ from (by first | exact HB | exact below_drewN HB _ | exact below_of HB (below_alloc _ _) | exact below_of (below_drewN HB _) (below_alloc _ _))) hbn
      clear hbn
      go_wp2_with fail
      refine (lives3_any _).mono ?_
      rintro e wn ⟨rfl, hbn⟩
      replace HB := below_of (show Below w.heap.size w _ from (by first | exact HB | exact below_drewN HB _ | exact below_of HB (below_alloc _ _) | exact below_of (below_drewN HB _) (below_alloc _ _))) hbn
      clear hbn
      go_wp2_with fail
      go_ret
      exact ⟨rfl, HB⟩
  · have hs := Lib.hid (Bool.eq_false_iff.2 hsh)
    clear hsh
    go_enter Try.func4, Try.ntmps4
    go_wp2_with fail
    refine (light3_any _ _ _ [a, b, c] _ (RdS.new w [a, b, c] 9) (show 3 ≤ 9223372036854775800 by decide) hm).mono ?_
    rintro e wn ⟨rfl, hbn⟩
    replace HB := below_of (show Below w.heap.size w _ from (by first | exact HB | exact below_drewN HB _ | exact below_of HB (below_alloc _ _) | exact below_of (below_drewN HB _) (below_alloc _ _))) hbn
    clear hbn
    rw [hs.out]
    go_wp2_with fail
    refine (lives3_any _).mono ?_
    rintro e wn ⟨rfl, hbn⟩
    replace HB := below_of (show Below w.heap.size w _ from (by first | exact HB | exact below_drewN HB _ | exact below_of HB (below_alloc _ _) | exact below_of (below_drewN HB _) (below_alloc _ _))) hbn
    clear hbn
    go_wp2_with fail
    go_ret
    exact ⟨rfl, HB⟩
end Go.Proofs.Ytggjlnjpokdfpaa
