/- The law KeyLies returns true at every four texts and a truth. No condition. -/
import Derived.Test.YtggjlnjpokdfpaaKeyOrders
namespace Go.Proofs.Ytggjlnjpokdfpaa
open Go.RowKit

set_option maxRecDepth 100000 in
set_option maxHeartbeats 1000000 in
theorem keylies_walk (low high : ByteArray) (last : Bool) (k x : ByteArray) (w : World) (hl : low.size ≤ maxLen) (hh : high.size ≤ maxLen) (hk : k.size ≤ maxLen) (hx : x.size ≤ maxLen) :
    Calls Try.prog 6 #[.string low, .string high, .bool last, .string k, .string x] w (Ret (.bool true) w) := by
  have hm : ∀ (j : Nat) (hj : j < [low, high, k, x].length), [low, high, k, x][j].size ≤ maxLen := fun j hj => match j, hj with
    | 0, _ => hl
    | 1, _ => hh
    | 2, _ => hk
    | 3, _ => hx
  have HB := Below.refl w.heap.size w
  by_cases hsh : short 300 [low, high, k, x] = true
  · have hs := Lib.hid hsh
    have hk3 : k.size < 9223372036854775800 := by
      unfold short at hsh
      rw [List.all_eq_true] at hsh
      have := of_decide_eq_true (hsh k (by simp))
      omega
    clear hsh
    have hka : (k ++ ⟨#[0]⟩ : ByteArray).size ≤ maxLen := by rw [after_size]; unfold maxLen; omega
    have C1 := Lib.hid (inside_any low high last k)
    have C2 := Lib.hid (refinside_any low high last k)
    have C3 := Lib.hid (beneath_any low high last k)
    have C4 := Lib.hid (refbeneath_any low high last k)
    have C5 := Lib.hid (after_any k)
    have C6 := Lib.hid (compare_any k (k ++ ⟨#[0]⟩))
    have C7 := Lib.hid (compare_any x k)
    have C8 := Lib.hid (compare_any x (k ++ ⟨#[0]⟩))
    generalize (!Pl.ls k.data.toList low.data.toList && (last || Pl.ls k.data.toList high.data.toList)) = b1 at *
    generalize (Pl.ls low.data.toList k.data.toList && (last || !Pl.ls high.data.toList k.data.toList)) = b2 at *
    have h6 : Pl.cmp k.data.toList (k ++ ⟨#[0]⟩ : ByteArray).data.toList < 0 := by rw [Pl.cmp_lt, after_list]; exact Pl.ls_snoc _ _
    have h78 : (0 < Pl.cmp x.data.toList k.data.toList ∧ 0 ≤ Pl.cmp x.data.toList (k ++ ⟨#[0]⟩ : ByteArray).data.toList) ∨ (¬ 0 < Pl.cmp x.data.toList k.data.toList ∧ ¬ 0 ≤ Pl.cmp x.data.toList (k ++ ⟨#[0]⟩ : ByteArray).data.toList) := by
      rw [Pl.cmp_gt, Pl.cmp_ge, after_list, Pl.ls_after]
      cases Pl.ls k.data.toList x.data.toList <;> simp
    generalize (k ++ ⟨#[0]⟩ : ByteArray) = K at *
    generalize Pl.cmp k.data.toList K.data.toList = p at *
    generalize Pl.cmp x.data.toList K.data.toList = q at *
    generalize Pl.cmp x.data.toList k.data.toList = r at *
    have tb1 : (b1 != b1) = false := by simp
    have tb2 : (b2 != b2) = false := by simp
    rcases h78 with ⟨h7, h8⟩ | ⟨h7, h8⟩
    all_goals
      go_enter Try.func6, Try.ntmps6
      go_wp2_with fail
      refine (light3_any _ _ _ [low, high, k, x] _ (RdS.new w [low, high, k, x] 9) (show 4 ≤ 9223372036854775800 by decide) hm).mono ?_
      rintro e wn ⟨rfl, hbn⟩
      replace HB := below_of (show Below w.heap.size w _ from (by first | exact HB | exact below_drewN HB _ | exact below_of HB (below_alloc _ _) | exact below_of (below_drewN HB _) (below_alloc _ _))) hbn
      clear hbn
      rw [hs.out]
      go_wp2_with fail
      refine (C1.out _ hl hh hk).mono ?_
      rintro e wn ⟨rfl, hbn⟩
      replace HB := below_of (show Below w.heap.size w _ from (by first | exact HB | exact below_drewN HB _ | exact below_of HB (below_alloc _ _) | exact below_of (below_drewN HB _) (below_alloc _ _))) hbn
      clear hbn
      go_wp2_with fail
      refine (C2.out _ hl hh hk).mono ?_
      rintro e wn ⟨rfl, hbn⟩
      replace HB := below_of (show Below w.heap.size w _ from (by first | exact HB | exact below_drewN HB _ | exact below_of HB (below_alloc _ _) | exact below_of (below_drewN HB _) (below_alloc _ _))) hbn
      clear hbn
      go_wp2_with fail
      refine (C3.out _ hl hh hk).mono ?_
      rintro e wn ⟨rfl, hbn⟩
      replace HB := below_of (show Below w.heap.size w _ from (by first | exact HB | exact below_drewN HB _ | exact below_of HB (below_alloc _ _) | exact below_of (below_drewN HB _) (below_alloc _ _))) hbn
      clear hbn
      go_wp2_with fail
      refine (C4.out _ hl hh hk).mono ?_
      rintro e wn ⟨rfl, hbn⟩
      replace HB := below_of (show Below w.heap.size w _ from (by first | exact HB | exact below_drewN HB _ | exact below_of HB (below_alloc _ _) | exact below_of (below_drewN HB _) (below_alloc _ _))) hbn
      clear hbn
      go_wp2_with fail
      refine (C5.out _ hk3).mono ?_
      rintro e wn ⟨rfl, hbn⟩
      replace HB := below_of (show Below w.heap.size w _ from (by first | exact HB | exact below_drewN HB _ | exact below_of HB (below_alloc _ _) | exact below_of (below_drewN HB _) (below_alloc _ _))) hbn
      clear hbn
      go_wp2_with fail
      refine (C6.out _ hk hka).mono ?_
      rintro e wn ⟨rfl, hbn⟩
      replace HB := below_of (show Below w.heap.size w _ from (by first | exact HB | exact below_drewN HB _ | exact below_of HB (below_alloc _ _) | exact below_of (below_drewN HB _) (below_alloc _ _))) hbn
      clear hbn
      go_wp2_with fail
      refine (C7.out _ hx hk).mono ?_
      rintro e wn ⟨rfl, hbn⟩
      replace HB := below_of (show Below w.heap.size w _ from (by first | exact HB | exact below_drewN HB _ | exact below_of HB (below_alloc _ _) | exact below_of (below_drewN HB _) (below_alloc _ _))) hbn
      clear hbn
      go_wp2_with fail
      refine (C5.out _ hk3).mono ?_
      rintro e wn ⟨rfl, hbn⟩
      replace HB := below_of (show Below w.heap.size w _ from (by first | exact HB | exact below_drewN HB _ | exact below_of HB (below_alloc _ _) | exact below_of (below_drewN HB _) (below_alloc _ _))) hbn
      clear hbn
      go_wp2_with fail
      refine (C8.out _ hx hka).mono ?_
      rintro e wn ⟨rfl, hbn⟩
      replace HB := below_of (show Below w.heap.size w _ from (by first | exact HB | exact below_drewN HB _ | exact below_of HB (below_alloc _ _) | exact below_of (below_drewN HB _) (below_alloc _ _))) hbn
      clear hbn
      go_wp2_with fail
      refine (lives3_any _).mono ?_
      rintro e wn ⟨rfl, hbn⟩
      replace HB := below_of (show Below w.heap.size w _ from (by first | exact HB | exact below_drewN HB _ | exact below_of HB (below_alloc _ _) | exact below_of (below_drewN HB _) (below_alloc _ _))) hbn
      clear hbn
      go_wp2_with fail
      go_ret
      exact ⟨rfl, HB⟩
  · have hs := Lib.hid (Bool.eq_false_iff.2 hsh)
    clear hsh
    go_enter Try.func6, Try.ntmps6
    go_wp2_with fail
    refine (light3_any _ _ _ [low, high, k, x] _ (RdS.new w [low, high, k, x] 9) (show 4 ≤ 9223372036854775800 by decide) hm).mono ?_
    rintro e wn ⟨rfl, hbn⟩
    replace HB := below_of (show Below w.heap.size w _ from (by first | exact HB | exact below_drewN HB _ | exact below_of HB (below_alloc _ _) | exact below_of (below_drewN HB _) (below_alloc _ _))) hbn
    clear hbn
    rw [hs.out]
    go_wp2_with fail
    refine (lives3_any _).mono ?_
    rintro e wn ⟨rfl, hbn⟩
    replace HB := below_of (show Below w.heap.size w _ from (by first | exact HB | exact below_drewN HB _ | exact below_of HB (below_alloc _ _) | exact below_of (below_drewN HB _) (below_alloc _ _))) hbn
    clear hbn
    go_wp2_with fail
    go_ret
    exact ⟨rfl, HB⟩
end Go.Proofs.Ytggjlnjpokdfpaa
