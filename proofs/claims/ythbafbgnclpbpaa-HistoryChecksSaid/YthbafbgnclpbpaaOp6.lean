/- Contracts of package op and its reference: Reads, Plain. -/
import Derived.Test.YthbafbgnclpbpaaOp5
namespace Go.Proofs.Ythbafbgnclpbpaa
open Go.RowKit

def readsB (o : OpD) : Bool := opB o && decide (o.kind = 1 ∨ 6 ≤ o.kind)
theorem opB_kind {o : OpD} (h : opB o = true) : 1 ≤ o.kind ∧ o.kind ≤ 10 := by
  unfold opB at h
  rw [Bool.and_eq_true] at h
  exact of_decide_eq_true h.1

set_option maxHeartbeats 2000000 in
theorem opreads_any (o : OpD) (w : World) (ho : OpOk o) : Calls Try.prog 45 #[.agg (opCells o)] w (Ret (.bool (readsB o)) w) := by
  have hn := OpAt.new w o 58
  have hb := below_alloc w (.cells (opCells o) 58)
  have hr : readsB o = (opB o && decide (o.kind = 1 ∨ 6 ≤ o.kind)) := rfl
  have hq := opB_kind (o := o)
  have HC := Lib.hid (fun W => opcheck_any o W ho)
  generalize opB o = b at hr hq HC
  generalize readsB o = v at hr ⊢
  obtain ⟨kind, key, upto, val, limit⟩ := o
  simp only [opCells] at hn hb HC ⊢
  simp only [] at hr hq
  have HR := Lib.hid hr
  clear hr
  rcases (show kind = 2 ∨ kind = 3 ∨ kind = 4 ∨ kind = 5 ∨ (kind ≠ 2 ∧ kind ≠ 3 ∧ kind ≠ 4 ∧ kind ≠ 5) by omega) with rfl | rfl | rfl | rfl | ⟨n2, n3, n4, n5⟩
  case inr.inr.inr.inr =>
    have e2 : (kind == (2 : Int)) = false := by rw [beq_eq_false_iff_ne]; omega
    have e3 : (kind == (3 : Int)) = false := by rw [beq_eq_false_iff_ne]; omega
    have e4 : (kind == (4 : Int)) = false := by rw [beq_eq_false_iff_ne]; omega
    have e5 : (kind == (5 : Int)) = false := by rw [beq_eq_false_iff_ne]; omega
    have hv : v = b := by
      rw [HR.out]
      cases b
      · rfl
      · have := hq rfl
        rw [Bool.true_and]
        exact decide_eq_true (by omega)
    have HV := Lib.hid hv
    clear hv n2 n3 n4 n5 hq
    go_enter Try.func45, Try.ntmps45
    go_wp2_with fail
    generalize w.alloc _ = W at hn hb ⊢
    refine (HC.out _).mono ?_
    rintro e wn ⟨rfl, hbn⟩
    replace hb := below_of hb hbn
    cases b
    · rw [if_neg Bool.false_ne_true]
      go_wp2_with fail
      go_ret
      exact ⟨ret_bool HV.out.symm, hb⟩
    · rw [if_pos rfl]
      go_wp2_with fail
      go_ret
      exact ⟨ret_bool HV.out.symm, hb⟩
  all_goals
    have HV := Lib.hid (HR.out.trans (show (b && decide _) = false by rw [decide_eq_false (by omega), Bool.and_false]))
    go_enter Try.func45, Try.ntmps45
    go_wp2_with fail
    go_ret
    exact ⟨ret_bool HV.out.symm, hb⟩

set_option maxHeartbeats 2000000 in
theorem refreads_any (o : OpD) (w : World) (ho : OpOk o) : Calls Try.prog 46 #[.agg (opCells o)] w (Ret (.bool (readsB o)) w) := by
  have hn := OpAt.new w o 58
  have hb := below_alloc w (.cells (opCells o) 58)
  have hz : w.heap.size < (w.alloc (.cells (opCells o) 58)).heap.size := by simp
  have hr : readsB o = (opB o && decide (o.kind = 1 ∨ 6 ≤ o.kind)) := rfl
  have HC := Lib.hid (fun W => refsound16_any o W ho)
  generalize opB o = b at hr HC
  generalize readsB o = v at hr ⊢
  obtain ⟨kind, key, upto, val, limit⟩ := o
  simp only [opCells] at hn hb hz HC ⊢
  simp only [] at hr
  have HR := Lib.hid hr
  clear hr
  have hd : decide (kind = 1 ∨ 6 ≤ kind) = ((kind == (1 : Int)) || decide (6 ≤ kind)) := by
    rw [Bool.eq_iff_iff, Bool.or_eq_true, beq_iff_eq, decide_eq_true_iff, decide_eq_true_iff]
  have HD := Lib.hid hd
  clear hd
  cases b
  · go_enter Try.func46, Try.ntmps46
    go_wp2_with fail
    generalize w.alloc _ = W at hn hb hz ⊢
    refine (HC.out _).mono ?_
    rintro e wn ⟨rfl, hbn⟩
    replace hb := below_of hb hbn
    go_wp2_with fail
    go_ret
    exact ⟨ret_bool HR.out.symm, hb⟩
  · by_cases h1 : kind = 1
    · have e1 : (kind == (1 : Int)) = true := by simp [h1]
      have HV := Lib.hid (HR.out.trans (by rw [HD.out, e1]))
      clear h1
      go_enter Try.func46, Try.ntmps46
      go_wp2_with fail
      generalize w.alloc _ = W at hn hb hz ⊢
      refine (HC.out _).mono ?_
      rintro e wn ⟨rfl, hbn⟩
      replace hb := below_of hb hbn
      replace hn := hn.up hbn hz
      obtain ⟨x0, x1, x2, x3, x4⟩ := id hn
      simp only [] at x0 x1 x2 x3 x4
      go_wp2_with fail
      go_ret
      exact ⟨ret_bool HV.out.symm, hb⟩
    · have e1 : (kind == (1 : Int)) = false := by simp [h1]
      by_cases h6 : 6 ≤ kind
      · have HV := Lib.hid (HR.out.trans (by rw [HD.out, e1, decide_eq_true h6]))
        clear h1
        go_enter Try.func46, Try.ntmps46
        go_wp2_with fail
        generalize w.alloc _ = W at hn hb hz ⊢
        refine (HC.out _).mono ?_
        rintro e wn ⟨rfl, hbn⟩
        replace hb := below_of hb hbn
        replace hn := hn.up hbn hz
        obtain ⟨x0, x1, x2, x3, x4⟩ := id hn
        simp only [] at x0 x1 x2 x3 x4
        go_wp2_with fail
        go_ret
        exact ⟨ret_bool HV.out.symm, hb⟩
      · have HV := Lib.hid (HR.out.trans (by rw [HD.out, e1, decide_eq_false h6]))
        have t6 : decide (6 ≤ kind) = false := decide_eq_false h6
        clear h1
        go_enter Try.func46, Try.ntmps46
        go_wp2_with fail
        generalize w.alloc _ = W at hn hb hz ⊢
        refine (HC.out _).mono ?_
        rintro e wn ⟨rfl, hbn⟩
        replace hb := below_of hb hbn
        replace hn := hn.up hbn hz
        obtain ⟨x0, x1, x2, x3, x4⟩ := id hn
        simp only [] at x0 x1 x2 x3 x4
        go_wp2_with fail
        go_ret
        exact ⟨ret_bool HV.out.symm, hb⟩

end Go.Proofs.Ythbafbgnclpbpaa
