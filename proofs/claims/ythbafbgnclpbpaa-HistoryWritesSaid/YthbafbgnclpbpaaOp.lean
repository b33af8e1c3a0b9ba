/- Contracts of package op. -/
import Derived.Test.YthbafbgnclpbpaaLives01
import Derived.Test.YthbafbgnclpbpaaKey2
namespace Go.Proofs.Ythbafbgnclpbpaa
open Go.RowKit

/-- What a kind uses. -/
def usesKey (k : Int) : Bool := decide (1 ≤ k ∧ k ≤ 5 ∨ 8 ≤ k ∧ k ≤ 10)
def usesTo (k : Int) : Bool := decide (k = 10)
def usesVal (k : Int) : Bool := decide (k = 2 ∨ k = 3 ∨ k = 5)
def isKind (k : Int) : Bool := decide (1 ≤ k ∧ k ≤ 10)
def usesV (k : Int) : Value := .agg #[.bool (usesKey k), .bool (usesTo k), .bool (usesVal k), .bool (usesTo k)]

theorem kind_cases (k : Int) : k = 1 ∨ k = 2 ∨ k = 3 ∨ k = 4 ∨ k = 5 ∨ k = 6 ∨ k = 7 ∨ k = 8 ∨ k = 9 ∨ k = 10 ∨ (k < 1 ∨ 10 < k) := by omega

set_option maxHeartbeats 1000000 in
theorem used_any (k : Int) (w : World) : Calls Try.prog 82 #[.int .i64 k] w (Ret (.tuple #[usesV k, .bool (isKind k)]) w) := by
  rcases kind_cases k with rfl | rfl | rfl | rfl | rfl | rfl | rfl | rfl | rfl | rfl | h
  · go_enter Try.func82, Try.ntmps82
    go_wp2_with fail
    exact bodyPost_ret (v := .tuple #[.agg #[.bool true, .bool false, .bool false, .bool false], .bool true]) (by simp [results, Try.results82, go_sem]) rfl ⟨rfl, below_alloc _ _⟩
  · go_enter Try.func82, Try.ntmps82
    go_wp2_with fail
    exact bodyPost_ret (v := .tuple #[.agg #[.bool true, .bool false, .bool true, .bool false], .bool true]) (by simp [results, Try.results82, go_sem]) rfl ⟨rfl, below_alloc _ _⟩
  · go_enter Try.func82, Try.ntmps82
    go_wp2_with fail
    exact bodyPost_ret (v := .tuple #[.agg #[.bool true, .bool false, .bool true, .bool false], .bool true]) (by simp [results, Try.results82, go_sem]) rfl ⟨rfl, below_alloc _ _⟩
  · go_enter Try.func82, Try.ntmps82
    go_wp2_with fail
    exact bodyPost_ret (v := .tuple #[.agg #[.bool true, .bool false, .bool false, .bool false], .bool true]) (by simp [results, Try.results82, go_sem]) rfl ⟨rfl, below_alloc _ _⟩
  · go_enter Try.func82, Try.ntmps82
    go_wp2_with fail
    exact bodyPost_ret (v := .tuple #[.agg #[.bool true, .bool false, .bool true, .bool false], .bool true]) (by simp [results, Try.results82, go_sem]) rfl ⟨rfl, below_alloc _ _⟩
  · go_enter Try.func82, Try.ntmps82
    go_wp2_with fail
    exact bodyPost_ret (v := .tuple #[.agg #[.bool false, .bool false, .bool false, .bool false], .bool true]) (by simp [results, Try.results82, go_sem]) rfl ⟨rfl, below_alloc _ _⟩
  · go_enter Try.func82, Try.ntmps82
    go_wp2_with fail
    exact bodyPost_ret (v := .tuple #[.agg #[.bool false, .bool false, .bool false, .bool false], .bool true]) (by simp [results, Try.results82, go_sem]) rfl ⟨rfl, below_alloc _ _⟩
  · go_enter Try.func82, Try.ntmps82
    go_wp2_with fail
    exact bodyPost_ret (v := .tuple #[.agg #[.bool true, .bool false, .bool false, .bool false], .bool true]) (by simp [results, Try.results82, go_sem]) rfl ⟨rfl, below_alloc _ _⟩
  · go_enter Try.func82, Try.ntmps82
    go_wp2_with fail
    exact bodyPost_ret (v := .tuple #[.agg #[.bool true, .bool false, .bool false, .bool false], .bool true]) (by simp [results, Try.results82, go_sem]) rfl ⟨rfl, below_alloc _ _⟩
  · go_enter Try.func82, Try.ntmps82
    go_wp2_with fail
    exact bodyPost_ret (v := .tuple #[.agg #[.bool true, .bool true, .bool false, .bool true], .bool true]) (by simp [results, Try.results82, go_sem]) rfl ⟨rfl, below_alloc _ _⟩
  · have hu : usesV k = .agg #[.bool false, .bool false, .bool false, .bool false] := by
      unfold usesV usesKey usesTo usesVal
      rw [decide_eq_false (by omega), decide_eq_false (by omega), decide_eq_false (by omega)]
    have hk : isKind k = false := decide_eq_false (by omega)
    rw [hu, hk]
    have e1 : (k == (1 : Int)) = false := by rw [beq_eq_false_iff_ne]; omega
    have e2 : (k == (2 : Int)) = false := by rw [beq_eq_false_iff_ne]; omega
    have e3 : (k == (3 : Int)) = false := by rw [beq_eq_false_iff_ne]; omega
    have e4 : (k == (4 : Int)) = false := by rw [beq_eq_false_iff_ne]; omega
    have e5 : (k == (5 : Int)) = false := by rw [beq_eq_false_iff_ne]; omega
    have e6 : (k == (6 : Int)) = false := by rw [beq_eq_false_iff_ne]; omega
    have e7 : (k == (7 : Int)) = false := by rw [beq_eq_false_iff_ne]; omega
    have e8 : (k == (8 : Int)) = false := by rw [beq_eq_false_iff_ne]; omega
    have e9 : (k == (9 : Int)) = false := by rw [beq_eq_false_iff_ne]; omega
    have e10 : (k == (10 : Int)) = false := by rw [beq_eq_false_iff_ne]; omega
    clear h hu hk
    go_enter Try.func82, Try.ntmps82
    go_wp2_with fail
    exact bodyPost_ret (v := .tuple #[.agg #[.bool false, .bool false, .bool false, .bool false], .bool false]) (by simp [results, Try.results82, go_sem]) rfl ⟨rfl, below_alloc _ _⟩

end Go.Proofs.Ythbafbgnclpbpaa
