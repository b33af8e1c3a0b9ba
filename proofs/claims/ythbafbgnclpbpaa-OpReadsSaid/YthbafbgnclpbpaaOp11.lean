/- The example of chapter 16. -/
import Derived.Test.YthbafbgnclpbpaaOp10
namespace Go.Proofs.Ythbafbgnclpbpaa
open Go.RowKit

def op1 : OpD := ⟨1, ⟨#[97]⟩, ⟨#[]⟩, 7, 0⟩
def op2 : OpD := ⟨10, ⟨#[97]⟩, ⟨#[98]⟩, 0, 5⟩
def op3 : OpD := ⟨6, ⟨#[]⟩, ⟨#[]⟩, 0, 0⟩
theorem op1_ok : OpOk op1 := ⟨by decide, by decide, by decide, by decide, by decide⟩
theorem op2_ok : OpOk op2 := ⟨by decide, by decide, by decide, by decide, by decide⟩
theorem op3_ok : OpOk op3 := ⟨by decide, by decide, by decide, by decide, by decide⟩
theorem lives16_bytes : opsBytes [op1, op2] = [1, 1, 97, 10, 1, 97, 1, 98, 5] := by decide +kernel
theorem lives16_text : bstr [1, 1, 97, 10, 1, 97, 1, 98, 5] = ⟨#[1, 1, 97, 10, 1, 97, 1, 98, 5]⟩ := by decide +kernel
theorem lives16_reads : readsB op3 = true := by decide +kernel
theorem opl_two (w : World) (x y : OpD) (T : TypeId) : Opl (w.alloc (.cells (opCells x ++ opCells y) T)) (some ⟨w.heap.size, 0, none⟩) [x, y] := fun _ => by
  refine ⟨w.heap.size, 0, rfl, by simp, fun j hj k v hv => ?_⟩
  rw [Nat.zero_add]
  refine new_cell w _ T (j * 5 + k) v ?_
  have h5 : ∀ z : OpD, (opCells z).size = 5 := fun z => rfl
  have hk : k < 5 := by have := (Array.getElem?_eq_some_iff.1 hv).1; rwa [h5] at this
  match j, hj with
  | 0, _ => rw [Array.getElem?_append_left (by rw [h5]; omega)]; simpa using hv
  | 1, _ => rw [Array.getElem?_append_right (by rw [h5]; omega), h5]; simpa using hv

set_option maxRecDepth 100000 in
set_option maxHeartbeats 4000000 in
theorem lives16_any (w : World) : Calls Try.prog 40 #[] w (Ret (.bool true) w) := by
  have hp0 := pen_new w
  have hb0 := below_alloc w (.cells #[.slice none 0 0] 40)
  have hs : (w.alloc (.cells #[.slice none 0 0] 40)).heap.size = w.heap.size + 1 := by simp
  have H0 := Lib.hid (And.intro hp0 hb0)
  have HS := Lib.hid hs
  clear hp0 hb0 hs
  go_enter Try.func40, Try.ntmps40
  go_wp2_with fail
  generalize w.alloc (.cells #[.slice none 0 0] 40) = w1 at H0 HS ⊢
  rw [← HS.out]
  have hop := opl_two w1 op1 op2 58
  refine (opwrite_any w.heap.size none (some ⟨w1.heap.size, 0, none⟩) 2 [op1, op2] _ (H0.out.1.below (below_alloc _ _)) hop (fun a ha e => by injection ha with ha; subst ha; rcases e with e | e <;> first | (have := HS.out; simp only [] at e; omega) | cases e) (by intro x hx; simp at hx; rcases hx with rfl | rfl; exact op1_ok; exact op2_ok) (by intro x hx; simp at hx; rcases hx with rfl | rfl <;> decide) (by decide)).mono ?_
  rintro e w2 ⟨rfl, r2, hrel⟩
  have K := PenRel.keeps H0.out.2 (PenRel.of_below (below_alloc _ _) hrel) H0.out.2.size (Nat.le_refl _) (by simp)
  rw [lives16_bytes] at hrel
  have H2 := Lib.hid (And.intro hrel.1 K.1)
  clear hrel K H0 hop
  go_wp2_with fail
  refine (penbytes_any _ r2 _ _ H2.out.1 (by decide +kernel)).mono ?_
  rintro e w6 ⟨A, c, rfl, ho, hb6⟩
  have hcv : (convert 38 9 (.slice A 9 c)).run Try.prog w6 = .ok (.string ⟨#[1, 1, 97, 10, 1, 97, 1, 98, 5]⟩) w6 := (made_conv ho).trans (by rw [lives16_text])
  have H6 := Lib.hid (below_of H2.out.2 hb6)
  clear ho hb6 H2
  go_wp2_with fail
  refine (Calls.to (opname_any 5 _) (show Value.string (kName 5) = .string ⟨#[100, 114, 111, 112]⟩ from rfl)).mono ?_
  rintro e w7 ⟨rfl, hb7⟩
  have H7 := Lib.hid (below_of H6.out hb7)
  clear hb7 hcv
  go_wp2_with fail
  refine (Calls.to (opreads_any op3 _ op3_ok) (congrArg Value.bool lives16_reads)).mono ?_
  rintro e w8 ⟨rfl, hb8⟩
  have H8 := Lib.hid (below_of H7.out hb8)
  clear hb8
  go_wp2_with fail
  go_ret
  exact ⟨rfl, H8.out⟩

end Go.Proofs.Ythbafbgnclpbpaa
