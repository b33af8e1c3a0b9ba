/- Bytes read as a number, from the last digit: plain. -/
import Derived.Test.YthbafbgnclpbpaaPlScan
namespace Go.Proofs.Ythbafbgnclpbpaa
open Go.RowKit

def dval : List Nat → Nat
  | [] => 0
  | x :: r => x % 128 + 128 * dval r
theorem dval_append (a b : List Nat) : dval (a ++ b) = dval a + 128 ^ a.length * dval b := by
  induction a with
  | nil => simp [dval]
  | cons x r ih =>
    rw [List.cons_append, dval, dval, ih, List.length_cons, Nat.pow_succ, Nat.mul_add, Nat.mul_comm (128 ^ r.length) 128, Nat.mul_assoc]
    omega
theorem dval_drop {m : List Nat} {i : Nat} (h : i < m.length) : dval (m.drop i) = m[i] % 128 + 128 * dval (m.drop (i + 1)) := by
  rw [List.drop_eq_getElem_cons h, dval]
theorem dval_lt (m : List Nat) : dval m < 128 ^ m.length := by
  induction m with
  | nil => simp [dval]
  | cons x r ih =>
    rw [dval, List.length_cons, Nat.pow_succ]
    omega
theorem dval_drop_le (m : List Nat) (i : Nat) : dval (m.drop i) ≤ dval m := by
  have h := dval_append (m.take i) (m.drop i)
  rw [List.take_append_drop] at h
  have hp : 0 < 128 ^ (m.take i).length := Nat.pow_pos (by omega)
  have := Nat.le_mul_of_pos_left (dval (m.drop i)) hp
  omega
theorem dval_take {l : List Nat} {j : Nat} (h : j < l.length) : dval (l.take (j + 1)) = dval (l.take j) + l[j] % 128 * 128 ^ j := by
  rw [List.take_succ_eq_append_getElem h, dval_append, List.length_take, Nat.min_eq_left (by omega)]
  simp only [dval, Nat.mul_zero, Nat.add_zero]
  rw [Nat.mul_comm]
theorem scan_step {l : List Nat} {j : Nat} (h : j < l.length) (h9 : j < 9) (hb : 128 ≤ l[j]) : scan j (dval (l.take j)) (l.drop j) = scan (j + 1) (dval (l.take (j + 1))) (l.drop (j + 1)) := by
  rw [List.drop_eq_getElem_cons h, scan, if_pos ⟨hb, h9⟩, dval_take h]
theorem scan_bad {l : List Nat} {j : Nat} (h : j < l.length) (hn : ¬ (128 ≤ l[j] ∧ j < 9)) (hb : (0 < j ∧ l[j] = 0) ∨ (j = 9 ∧ 1 < l[j])) : scan j (dval (l.take j)) (l.drop j) = .bad := by
  rw [List.drop_eq_getElem_cons h, scan, if_neg hn, if_pos hb]
theorem scan_good {l : List Nat} {j : Nat} (h : j < l.length) (hn : ¬ (128 ≤ l[j] ∧ j < 9)) (hb : ¬ ((0 < j ∧ l[j] = 0) ∨ (j = 9 ∧ 1 < l[j]))) : scan j (dval (l.take j)) (l.drop j) = .got (dval (l.take (j + 1))) (j + 1) := by
  rw [List.drop_eq_getElem_cons h, scan, if_neg hn, if_neg hb, dval_take h]
theorem scan_none {l : List Nat} {j a : Nat} (h : l.length ≤ j) : scan j a (l.drop j) = .short := by
  rw [List.drop_eq_nil_of_le h, scan]
theorem dval_fits {l : List Nat} {j : Nat} (h : j < l.length) (h9 : j ≤ 9) (hn : ¬ (128 ≤ l[j] ∧ j < 9)) (hb : ¬ (j = 9 ∧ 1 < l[j])) : dval (l.take (j + 1)) < 18446744073709551616 := by
  rw [dval_take h]
  have h1 := dval_lt (l.take j)
  rw [List.length_take, Nat.min_eq_left (by omega)] at h1
  by_cases hj : j = 9
  · subst hj
    have : l[9] % 128 ≤ 1 := by omega
    have : l[9] % 128 * 128 ^ 9 ≤ 1 * 128 ^ 9 := Nat.mul_le_mul_right _ this
    omega
  · have h2 : l[j] % 128 * 128 ^ j ≤ 127 * 128 ^ j := Nat.mul_le_mul_right _ (by omega)
    have h3 : 128 ^ (j + 1) ≤ 128 ^ 9 := Nat.pow_le_pow_right (by omega) (by omega)
    rw [Nat.pow_succ] at h3
    omega

end Go.Proofs.Ythbafbgnclpbpaa
