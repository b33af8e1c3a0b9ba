/- Contracts of package pairs: a map that is nil. -/
import Derived.Test.YtggjlnjpokdfpaaPMap4
import Derived.Test.YtggjlnjpokdfpaaPClone
namespace Go.Proofs.Ytggjlnjpokdfpaa
open Go.RowKit

def zpairV : Value := .tuple #[.agg #[.string ⟨#[]⟩, .int .u64 0], .bool false]
set_option maxHeartbeats 1000000 in
theorem pmat_nil (i : Int) (w : World) : Calls Try.prog 76 #[.pointer none, .int .i64 i] w (Ret zpairV w) := by
  by_cases h0 : i < 0
  · have h0b : decide (i < 0) = true := decide_eq_true h0
    clear h0
    unfold zpairV
    have hS := Lib.hid ((Sx.start0 w).alloc (.cells (prCells Pl.zeroP) 59))
    simp only [prCells, Pl.zeroP, List.nil_append] at hS
    go_enter Try.func76, Try.ntmps76
    go_upto_region 1 with fail
    generalize w.alloc _ = W at hS ⊢
    obtain ⟨y0, y1, q0, q1⟩ := pr_facts (hS.out.has 0 _ _ rfl).1
    have HZ := Lib.hid ((hS.out.setc 0 rfl 0 (.string ⟨#[]⟩)).setc 0 rfl 1 (.int .u64 0)).below
    go_wp2_with fail
    exact bodyPost_ret (v := .tuple #[.agg #[.string ⟨#[]⟩, .int .u64 0], .bool false]) (by simp [results, Try.results76, go_sem, *]) rfl ⟨rfl, HZ.out⟩
  · have h0b : decide (i < 0) = false := decide_eq_false h0
    have h1b : decide ((0 : Int) ≤ i) = true := decide_eq_true (by omega)
    clear h0
    unfold zpairV
    have hS := Lib.hid ((Sx.start0 w).alloc (.cells (prCells Pl.zeroP) 59))
    simp only [prCells, Pl.zeroP, List.nil_append] at hS
    go_enter Try.func76, Try.ntmps76
    go_upto_region 1 with fail
    generalize w.alloc _ = W at hS ⊢
    go_wp2_with fail
    refine (pmlen_nil _).mono ?_
    rintro e wn ⟨rfl, hbn⟩
    replace hS := Lib.hid (hS.out.call hbn)
    clear hbn
    obtain ⟨y0, y1, q0, q1⟩ := pr_facts (hS.out.has 0 _ _ rfl).1
    have HZ := Lib.hid ((hS.out.setc 0 rfl 0 (.string ⟨#[]⟩)).setc 0 rfl 1 (.int .u64 0)).below
    go_wp2_with fail
    exact bodyPost_ret (v := .tuple #[.agg #[.string ⟨#[]⟩, .int .u64 0], .bool false]) (by simp [results, Try.results76, go_sem, *]) rfl ⟨rfl, HZ.out⟩
set_option maxHeartbeats 1000000 in
theorem pmnext_nil (k : ByteArray) (w : World) : Calls Try.prog 51 #[.pointer none, .string k] w (Ret zpairV w) := by
  have HA := Lib.hid (fun W => pmat_nil 0 W)
  unfold zpairV at HA
  unfold zpairV
  have hS := Lib.hid ((Sx.start0 w).alloc (.cells (prCells Pl.zeroP) 59))
  simp only [prCells, Pl.zeroP, List.nil_append] at hS
  go_enter Try.func51, Try.ntmps51
  go_upto_region 1 with fail
  generalize w.alloc _ = W at hS ⊢
  go_wp2_with fail
  refine (pmfind_nil k _).mono ?_
  rintro e wn ⟨rfl, hbn⟩
  replace hS := Lib.hid (hS.out.call hbn)
  clear hbn
  go_wp2_with fail
  refine (HA.out _).mono ?_
  rintro e wn ⟨rfl, hbn⟩
  replace hS := Lib.hid (hS.out.call hbn)
  clear hbn
  obtain ⟨y0, y1, q0, q1⟩ := pr_facts (hS.out.has 0 _ _ rfl).1
  have HZ := Lib.hid ((hS.out.setc 0 rfl 0 (.string ⟨#[]⟩)).setc 0 rfl 1 (.int .u64 0)).below
  go_wp2_with fail
  exact bodyPost_ret (v := .tuple #[.agg #[.string ⟨#[]⟩, .int .u64 0], .bool false]) (by simp [results, Try.results51, go_sem, *]) rfl ⟨rfl, HZ.out⟩
set_option maxHeartbeats 1000000 in
theorem pmmax_nil (w : World) : Calls Try.prog 52 #[.pointer none] w (Ret zpairV w) := by
  have HA := Lib.hid (fun W => pmat_nil (-1) W)
  unfold zpairV at HA
  unfold zpairV
  have hS := Lib.hid ((Sx.start0 w).alloc (.cells (prCells Pl.zeroP) 59))
  simp only [prCells, Pl.zeroP, List.nil_append] at hS
  go_enter Try.func52, Try.ntmps52
  go_upto_region 1 with fail
  generalize w.alloc _ = W at hS ⊢
  go_wp2_with fail
  refine (pmlen_nil _).mono ?_
  rintro e wn ⟨rfl, hbn⟩
  replace hS := Lib.hid (hS.out.call hbn)
  clear hbn
  go_wp2_with fail
  refine (HA.out _).mono ?_
  rintro e wn ⟨rfl, hbn⟩
  replace hS := Lib.hid (hS.out.call hbn)
  clear hbn
  obtain ⟨y0, y1, q0, q1⟩ := pr_facts (hS.out.has 0 _ _ rfl).1
  have HZ := Lib.hid ((hS.out.setc 0 rfl 0 (.string ⟨#[]⟩)).setc 0 rfl 1 (.int .u64 0)).below
  go_wp2_with fail
  exact bodyPost_ret (v := .tuple #[.agg #[.string ⟨#[]⟩, .int .u64 0], .bool false]) (by simp [results, Try.results52, go_sem, *]) rfl ⟨rfl, HZ.out⟩
set_option maxRecDepth 100000 in
set_option maxHeartbeats 4000000 in
theorem pmscan_nil (low high : ByteArray) (limit : Int) (w : World) : Calls Try.prog 54 #[.pointer none, .string low, .string high, .int .i64 limit] w (Ret (.slice none 0 0) w) := by
  have HA := Lib.hid (fun W => pmat_nil 0 W)
  unfold zpairV at HA
  have hS := Lib.hid (Sx.start3 w (.cells #[.string high] 9) (.cells #[.int .i64 limit] 3) (.cells #[.slice none 0 0] 53))
  go_enter Try.func54, Try.ntmps54
  go_upto_region 1 with fail
  generalize ((w.alloc _).alloc _).alloc _ = W at hS ⊢
  go_wp2_with fail
  refine (pmfind_nil low _).mono ?_
  rintro e wn ⟨rfl, hbn⟩
  replace hS := Lib.hid (hS.out.call hbn)
  clear hbn
  go_wp2_with fail
  go_loopw [10, 12, 13] (fun i _ _ wr => i = .int .i64 0 ∧ Hid (Sx w.heap.size w wr [(w.heap.size, .cells #[.string high] 9), (w.heap.size + 1, .cells #[.int .i64 limit] 3), (w.heap.size + 1 + 1, .cells #[.slice none 0 0] 53)])) (fun _ _ _ _ => 0)
  case atStart => exact ⟨rfl, hS.out⟩
  case round =>
    obtain ⟨rfl, H⟩ := hrel
    clear hS
    go_wp2_with fail
    refine (HA.out _).mono ?_
    rintro e w2 ⟨rfl, hbn⟩
    have hS := Lib.hid ((H.out.call hbn).call (below_alloc w2 (.cells #[.string ⟨#[]⟩, .int .u64 0] 59)))
    clear hbn H
    go_upto_region 5 with fail
    generalize w2.alloc _ = w3 at hS ⊢
    obtain ⟨y0, q0⟩ := one_facts (hS.out.has 2 _ _ rfl).1
    have HZ := Lib.hid (hS.out.setc 2 rfl 0 (.slice none 0 0)).below
    go_wp2_with fail
    exact bodyPost_ret (v := .slice none 0 0) (by simp [results, Try.results54, go_sem, *]) rfl ⟨rfl, HZ.out⟩

end Go.Proofs.Ytggjlnjpokdfpaa
