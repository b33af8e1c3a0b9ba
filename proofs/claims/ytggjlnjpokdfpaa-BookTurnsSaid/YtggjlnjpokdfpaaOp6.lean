/- Contracts of package op and its reference: Reads, Plain. -/
import Derived.Test.YtggjlnjpokdfpaaOp5
namespace Go.Proofs.Ytggjlnjpokdfpaa
open Go.RowKit

def readsB (o : OpD) : Bool := opB o && decide (o.kind = 1 ∨ 6 ≤ o.kind)
theorem opB_kind {o : OpD} (h : opB o = true) : 1 ≤ o.kind ∧ o.kind ≤ 10 := by
  unfold opB at h
  rw [Bool.and_eq_true] at h
  exact of_decide_eq_true h.1

set_option maxHeartbeats 2000000 in
theorem opreads_any (o : OpD) (w : World) (ho : OpOk o) : Calls Try.prog 84 #[.agg (opCells o)] w (Ret (.bool (readsB o)) w) := by
  have hn := OpAt.new w o 85
  have hb := below_alloc w (.cells (opCells o) 85)
  have hr : readsB o = (opB o && decide (o.kind = 1 ∨ 6 ≤ o.kind)) := rfl
  have hq := opB_kind (o := o)
  have HC := Lib.hid (fun W => opcheck_any o W ho)
  generalize opB o = b at hr hq HC
  generalize readsB o = v at hr ⊢
  obtain ⟨kind, key, upto, val, limit⟩ := o
  simp only [opCells] at hn hb HC ⊢
  simp only [] at hr hq
  have HR := Lib.hid hr
  clear hr
  rcases (show kind = 2 ∨ kind = 3 ∨ kind = 4 ∨ kind = 5 ∨ (kind ≠ 2 ∧ kind ≠ 3 ∧ kind ≠ 4 ∧ kind ≠ 5) by omega) with rfl | rfl | rfl | rfl | ⟨n2, n3, n4, n5⟩
  case inr.inr.inr.inr =>
    have e2 : (kind == (2 : Int)) = false := by rw [beq_eq_false_iff_ne]; omega
    have e3 : (kind == (3 : Int)) = false := by rw [beq_eq_false_iff_ne]; omega
    have e4 : (kind == (4 : Int)) = false := by rw [beq_eq_false_iff_ne]; omega
    have e5 : (kind == (5 : Int)) = false := by rw [beq_eq_false_iff_ne]; omega
    have hv : v = b := by
      rw [HR.out]
      cases b
      · rfl
      · have := hq rfl
        rw [Bool.true_and]
        exact decide_eq_true (by omega)
    have HV := Lib.hid hv
    clear hv n2 n3 n4 n5 hq
    go_enter Try.func84, Try.ntmps84
    go_wp2_with fail
    generalize w.alloc _ = W at hn hb ⊢
    refine (HC.out _).mono ?_
    rintro e wn ⟨rfl, hbn⟩
    replace hb := below_of hb hbn
    cases b
    · rw [if_neg Bool.false_ne_true]
      go_wp2_with fail
      go_ret
      exact ⟨ret_bool HV.out.symm, hb⟩
    · rw [if_pos rfl]
      go_wp2_with fail
      go_ret
      exact ⟨ret_bool HV.out.symm, hb⟩
  all_goals
    have HV := Lib.hid (HR.out.trans (show (b && decide _) = false by rw [decide_eq_false (by omega), Bool.and_false]))
    go_enter Try.func84, Try.ntmps84
    go_wp2_with fail
    go_ret
    exact ⟨ret_bool HV.out.symm, hb⟩

end Go.Proofs.Ytggjlnjpokdfpaa
