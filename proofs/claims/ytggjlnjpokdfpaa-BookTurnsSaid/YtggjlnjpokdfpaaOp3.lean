/- Contracts of package op and its reference: names, what is used. -/
import Derived.Test.YtggjlnjpokdfpaaOp2
namespace Go.Proofs.Ytggjlnjpokdfpaa
open Go.RowKit

def kNames : List ByteArray := [⟨#[]⟩, ⟨#[103, 101, 116]⟩, ⟨#[105, 110, 115, 101, 114, 116]⟩, ⟨#[112, 117, 116]⟩, ⟨#[100, 101, 108, 101, 116, 101]⟩, ⟨#[100, 114, 111, 112]⟩, ⟨#[109, 105, 110]⟩, ⟨#[109, 97, 120]⟩, ⟨#[110, 101, 120, 116]⟩, ⟨#[112, 114, 101, 118]⟩, ⟨#[115, 99, 97, 110]⟩]
def kName (k : Int) : ByteArray := if 1 ≤ k ∧ k ≤ 10 then kNames.getD k.toNat ⟨#[]⟩ else ⟨#[]⟩
def usesS (k : Int) : ByteArray := if k = 1 ∨ k = 4 ∨ k = 8 ∨ k = 9 then ⟨#[107]⟩ else if k = 2 ∨ k = 3 ∨ k = 5 then ⟨#[107, 118]⟩ else if k = 6 ∨ k = 7 then ⟨#[45]⟩ else if k = 10 then ⟨#[107, 116, 108]⟩ else ⟨#[]⟩

set_option maxHeartbeats 1000000 in
theorem refuses0_any (k : Int) (w : World) : Calls Try.prog 96 #[.int .i64 k] w (Ret (.string (usesS k)) w) := by
  rcases kind_cases k with rfl | rfl | rfl | rfl | rfl | rfl | rfl | rfl | rfl | rfl | h
  case inr.inr.inr.inr.inr.inr.inr.inr.inr.inr =>
    have hv : usesS k = ⟨#[]⟩ := (by unfold usesS; rw [if_neg (by omega), if_neg (by omega), if_neg (by omega), if_neg (by omega)])
    rw [hv]
    have e1 : (k == (1 : Int)) = false := by rw [beq_eq_false_iff_ne]; omega
    have e2 : (k == (2 : Int)) = false := by rw [beq_eq_false_iff_ne]; omega
    have e3 : (k == (3 : Int)) = false := by rw [beq_eq_false_iff_ne]; omega
    have e4 : (k == (4 : Int)) = false := by rw [beq_eq_false_iff_ne]; omega
    have e5 : (k == (5 : Int)) = false := by rw [beq_eq_false_iff_ne]; omega
    have e6 : (k == (6 : Int)) = false := by rw [beq_eq_false_iff_ne]; omega
    have e7 : (k == (7 : Int)) = false := by rw [beq_eq_false_iff_ne]; omega
    have e8 : (k == (8 : Int)) = false := by rw [beq_eq_false_iff_ne]; omega
    have e9 : (k == (9 : Int)) = false := by rw [beq_eq_false_iff_ne]; omega
    have e10 : (k == (10 : Int)) = false := by rw [beq_eq_false_iff_ne]; omega
    clear hv h
    go_enter Try.func96, Try.ntmps96
    go_wp2_with fail
    go_ret
    exact ⟨rfl, Below.refl _ _⟩
  all_goals
    go_enter Try.func96, Try.ntmps96
    go_wp2_with fail
    go_ret
    exact ⟨rfl, Below.refl _ _⟩


end Go.Proofs.Ytggjlnjpokdfpaa
