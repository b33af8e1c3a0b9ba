/- The example of chapter 12, and the law InnerOver: the walks. -/
import Derived.Test.YtcoiadncennhpaaInOver
import Derived.Test.YtcoiadncennhpaaRoutes
namespace Go.Proofs.Ytcoiadncennhpaa
open Go.RowKit

def x12 : Nd := ⟨1, ByteArray.empty, ByteArray.empty, true, -1, [⟨#[]⟩, ⟨#[109]⟩], [], [3, 4]⟩
def y12 : Nd := ⟨1, ByteArray.empty, ByteArray.empty, true, -1, [⟨#[]⟩, ⟨#[109]⟩, ⟨#[116]⟩], [], [3, 4, 5]⟩
theorem x12_over : overD 1 3 ⟨#[109]⟩ 4 = (true, x12) := by kernel_rfl
theorem x12_post : postD x12 ⟨#[116]⟩ 5 4 = (true, y12) := by kernel_rfl
theorem y12_kid : kidAt y12 (overI y12 ⟨#[122]⟩) = 5 ∧ kidIs y12 (overI y12 ⟨#[122]⟩) = true := ⟨by kernel_rfl, by kernel_rfl⟩
theorem y12_place : placeI y12 4 = 1 ∧ placeB y12 4 = true := ⟨by kernel_rfl, by kernel_rfl⟩

set_option maxRecDepth 100000 in
set_option maxHeartbeats 8000000 in
theorem lives12_any (w : World) : Calls Try.prog 33 #[] w (Ret (.bool true) w) := by
  go_enter Try.func33, Try.ntmps33
  go_wp2_with fail
  refine (x12_over ▸ inover_any 1 3 ⟨#[109]⟩ 4 _ (by decide)).mono ?_
  rintro e W1 ⟨A, B, C, ca, cb, cc, rfl, hl, hb⟩
  have hS := Lib.hid (((Sx.start0 w).call hb).alloc (.cells (ndCells x12 A B C ca cb cc) 26))
  have HL := Lib.hid (hl.up (below_alloc W1 (.cells (ndCells x12 A B C ca cb cc) 26)))
  clear hl hb
  simp only [List.nil_append, ndCells, x12, List.length_cons, List.length_nil, Nat.zero_add, Nat.reduceAdd] at hS HL ⊢
  go_upto_region 2 with fail
  generalize W1.heap.size = g1 at hS ⊢
  generalize W1.alloc _ = Y at hS HL ⊢
  obtain ⟨x0, x1, x2, x3, x4, x5, x6, x7, f0, f1, f2, f3, f4, f5, f6, f7⟩ := nd_facts (hS.out.has 0 _ _ rfl).1
  go_wp2_with fail
  refine (x12_post ▸ inpost_any x12 ⟨#[116]⟩ 5 4 A B C ca cb cc _ HL.out (by decide)).mono ?_
  rintro e W2 ⟨A', B', C', ca', cb', cc', rfl, hl, hb⟩
  clear x0 x1 x2 x3 x4 x5 x6 x7 f0 f1 f2 f3 f4 f5 f6 f7
  replace hS := Lib.hid ((hS.out.call hb).alloc (.cells (ndCells y12 A' B' C' ca' cb' cc') 26))
  replace HL := Lib.hid (hl.up (below_alloc W2 (.cells (ndCells y12 A' B' C' ca' cb' cc') 26)))
  clear hl hb
  simp only [List.cons_append, List.nil_append, ndCells, y12, List.length_cons, List.length_nil, Nat.zero_add, Nat.reduceAdd] at hS HL ⊢
  go_upto_region 3 with fail
  generalize W2.heap.size = g2 at hS ⊢
  generalize W2.alloc _ = Y2 at hS HL ⊢
  obtain ⟨x0, x1, x2, x3, x4, x5, x6, x7, f0, f1, f2, f3, f4, f5, f6, f7⟩ := nd_facts (hS.out.has 1 _ _ rfl).1
  go_wp2_with fail
  refine (Ret.to (kidof_any y12 A' B' C' ca' cb' cc' ⟨#[122]⟩ _ HL.out (by decide)) (by rw [y12_kid.1, y12_kid.2])).mono ?_
  rintro e wn ⟨rfl, hbn⟩
  clear x0 x1 x2 x3 x4 x5 x6 x7 f0 f1 f2 f3 f4 f5 f6 f7
  replace hS := Lib.hid (hS.out.call hbn)
  replace HL := Lib.hid (HL.out.up hbn)
  clear hbn
  obtain ⟨x0, x1, x2, x3, x4, x5, x6, x7, f0, f1, f2, f3, f4, f5, f6, f7⟩ := nd_facts (hS.out.has 1 _ _ rfl).1
  go_wp2_with fail
  refine (Ret.to (place_any y12 4 A' B' C' ca' cb' cc' _ HL.out) (by rw [y12_place.1, y12_place.2])).mono ?_
  rintro e wn ⟨rfl, hbn⟩
  clear x0 x1 x2 x3 x4 x5 x6 x7 f0 f1 f2 f3 f4 f5 f6 f7
  replace hS := Lib.hid (hS.out.call hbn)
  clear hbn
  obtain ⟨x0, x1, x2, x3, x4, x5, x6, x7, f0, f1, f2, f3, f4, f5, f6, f7⟩ := nd_facts (hS.out.has 0 _ _ rfl).1
  go_wp2_with fail
  go_ret
  exact ⟨rfl, hS.out.below⟩

set_option maxRecDepth 100000 in
set_option maxHeartbeats 8000000 in
theorem innerover_any (level left : Int) (low : ByteArray) (right : Int) (w : World) (hk : low.size ≤ maxLen) :
    Calls Try.prog 7 #[.int .i64 level, .int .i64 left, .string low, .int .i64 right] w (Ret (.bool true) w) := by
  have HO := Lib.hid (fun W => inover_any level left low right W hk)
  have HR := Lib.hid (fun W => refover_any level left low right W hk)
  have hsm : ∀ d : Nd, sameB d d = true := fun d => (sameB_iff d d).2 ⟨rfl, rfl, rfl, rfl, rfl, rfl, rfl, rfl⟩
  have hs63 : low.size ≤ 9223372036854775807 := hk
  generalize overD level left low right = o at HO HR
  obtain ⟨ok, d⟩ := o
  have HSM := Lib.hid (hsm d)
  have HS := Lib.hid (fun A B C A' B' C' ca cb cc ca' cb' cc' W h k => refsameN_any d d A B C A' B' C' ca cb cc ca' cb' cc' W h k)
  rw [HSM.out] at HS
  clear hsm HSM hk
  obtain ⟨dlevel, dlow, dhigh, dlast, dnext, dkeys, dvals, dkids⟩ := d
  by_cases h1 : 100 < low.size
  · go_enter Try.func7, Try.ntmps7
    go_wp2_with fail
    refine (lives12_any _).mono ?_
    rintro e wn ⟨rfl, hbn⟩
    go_wp2_with fail
    go_ret
    exact ⟨rfl, hbn⟩
  · go_enter Try.func7, Try.ntmps7
    go_wp2_with fail
    refine (HO.out _).mono ?_
    rintro e W1 ⟨A, B, C, ca, cb, cc, rfl, hl, hb⟩
    have hS := Lib.hid (((Sx.start0 w).call hb).alloc (.cells (ndCells ⟨dlevel, dlow, dhigh, dlast, dnext, dkeys, dvals, dkids⟩ A B C ca cb cc) 26))
    have HL := Lib.hid (hl.up (below_alloc W1 (.cells (ndCells ⟨dlevel, dlow, dhigh, dlast, dnext, dkeys, dvals, dkids⟩ A B C ca cb cc) 26)))
    clear hl hb
    simp only [List.nil_append, ndCells] at hS HL ⊢
    go_upto_region 4 with fail
    generalize W1.heap.size = g1 at hS ⊢
    generalize W1.alloc _ = Y at hS HL ⊢
    go_wp2_with fail
    refine (HR.out _).mono ?_
    rintro e W2 ⟨A', B', C', ca', cb', cc', rfl, hl, hb⟩
    replace hS := Lib.hid ((hS.out.call hb).alloc (.cells (ndCells ⟨dlevel, dlow, dhigh, dlast, dnext, dkeys, dvals, dkids⟩ A' B' C' ca' cb' cc') 26))
    have HL2 := Lib.hid (hl.up (below_alloc W2 (.cells (ndCells ⟨dlevel, dlow, dhigh, dlast, dnext, dkeys, dvals, dkids⟩ A' B' C' ca' cb' cc') 26)))
    replace HL := Lib.hid ((HL.out.up hb).up (below_alloc W2 (.cells (ndCells ⟨dlevel, dlow, dhigh, dlast, dnext, dkeys, dvals, dkids⟩ A' B' C' ca' cb' cc') 26)))
    clear hl hb
    simp only [List.cons_append, List.nil_append, ndCells] at hS HL HL2 ⊢
    go_upto_region 5 with fail
    generalize W2.heap.size = g2 at hS ⊢
    generalize W2.alloc _ = Y2 at hS HL HL2 ⊢
    obtain ⟨x0, x1, x2, x3, x4, x5, x6, x7, f0, f1, f2, f3, f4, f5, f6, f7⟩ := nd_facts (hS.out.has 0 _ _ rfl).1
    obtain ⟨y0, y1, y2, y3, y4, y5, y6, y7, q0, q1, q2, q3, q4, q5, q6, q7⟩ := nd_facts (hS.out.has 1 _ _ rfl).1
    have HS2 := Lib.hid (HS.out _ _ _ _ _ _ _ _ _ _ _ _ _ HL.out HL2.out)
    simp only [ndCells] at HS2
    go_wp2_with fail
    refine HS2.out.mono ?_
    rintro e wn ⟨rfl, hbn⟩
    clear x0 x1 x2 x3 x4 x5 x6 x7 f0 f1 f2 f3 f4 f5 f6 f7
    clear y0 y1 y2 y3 y4 y5 y6 y7 q0 q1 q2 q3 q4 q5 q6 q7
    replace hS := Lib.hid (hS.out.call hbn)
    clear hbn
    go_wp2_with fail
    refine (lives12_any _).mono ?_
    rintro e wn2 ⟨rfl, hbn⟩
    go_wp2_with fail
    go_ret
    exact ⟨rfl, (hS.out.call hbn).below⟩
theorem innerover_row (level left : Int) (low : ByteArray) (right : Int) (w : World) (_ : -9223372036854775808 ≤ level ∧ level ≤ 9223372036854775807) (_ : -9223372036854775808 ≤ left ∧ left ≤ 9223372036854775807) (hk : low.size ≤ maxLen) (_ : -9223372036854775808 ≤ right ∧ right ≤ 9223372036854775807) :
    Calls Try.prog 7 #[.int .i64 level, .int .i64 left, .string low, .int .i64 right] w (Ret (.bool true) w) := innerover_any level left low right w hk

end Go.Proofs.Ytcoiadncennhpaa
