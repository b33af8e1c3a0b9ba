/- The example of chapter 16. -/
import Derived.Test.YthbafbgnclpbpaaZOp10
import Derived.Test.YthbafbgnclpbpaaSip3
import Derived.Test.YthbafbgnclpbpaaFine
namespace Go.Proofs.Ythbafbgnclpbpaa
open Go.RowKit

def op1 : OpD := ⟨1, ⟨#[97]⟩, ⟨#[]⟩, 7, 0⟩
def op2 : OpD := ⟨10, ⟨#[97]⟩, ⟨#[98]⟩, 0, 5⟩
def op3 : OpD := ⟨6, ⟨#[]⟩, ⟨#[]⟩, 0, 0⟩
theorem op1_ok : OpOk op1 := ⟨by decide, by decide, by decide, by decide, by decide⟩
theorem op2_ok : OpOk op2 := ⟨by decide, by decide, by decide, by decide, by decide⟩
theorem op3_ok : OpOk op3 := ⟨by decide, by decide, by decide, by decide, by decide⟩
theorem lives16_bytes : opsBytes [op1, op2] = [1, 1, 97, 10, 1, 97, 1, 98, 5] := by decide +kernel
theorem lives16_text : bstr [1, 1, 97, 10, 1, 97, 1, 98, 5] = ⟨#[1, 1, 97, 10, 1, 97, 1, 98, 5]⟩ := by decide +kernel
theorem lives16_reads : readsB op3 = true := by decide +kernel
theorem opl_two (w : World) (x y : OpD) (T : TypeId) : Opl (w.alloc (.cells (opCells x ++ opCells y) T)) (some ⟨w.heap.size, 0, none⟩) [x, y] := fun _ => by
  refine ⟨w.heap.size, 0, rfl, by simp, fun j hj k v hv => ?_⟩
  rw [Nat.zero_add]
  refine new_cell w _ T (j * 5 + k) v ?_
  have h5 : ∀ z : OpD, (opCells z).size = 5 := fun z => rfl
  have hk : k < 5 := by have := (Array.getElem?_eq_some_iff.1 hv).1; rwa [h5] at this
  match j, hj with
  | 0, _ => rw [Array.getElem?_append_left (by rw [h5]; omega)]; simpa using hv
  | 1, _ => rw [Array.getElem?_append_right (by rw [h5]; omega), h5]; simpa using hv

set_option maxRecDepth 100000 in
set_option maxHeartbeats 4000000 in
theorem lives16_any (w : World) : Calls Try.prog 40 #[] w (Ret (.bool true) w) := by
  have hp0 := pen_new w
  have hb0 := below_alloc w (.cells #[.slice none 0 0] 40)
  have hs : (w.alloc (.cells #[.slice none 0 0] 40)).heap.size = w.heap.size + 1 := by simp
  have H0 := Lib.hid (And.intro hp0 hb0)
  have HS := Lib.hid hs
  clear hp0 hb0 hs
  go_enter Try.func40, Try.ntmps40
  go_wp2_with fail
  generalize w.alloc (.cells #[.slice none 0 0] 40) = w1 at H0 HS ⊢
  rw [← HS.out]
  have hop := opl_two w1 op1 op2 58
  refine (opwrite_any w.heap.size none (some ⟨w1.heap.size, 0, none⟩) 2 [op1, op2] _ (H0.out.1.below (below_alloc _ _)) hop (fun a ha e => by injection ha with ha; subst ha; rcases e with e | e <;> first | (have := HS.out; simp only [] at e; omega) | cases e) (by intro x hx; simp at hx; rcases hx with rfl | rfl; exact op1_ok; exact op2_ok) (by intro x hx; simp at hx; rcases hx with rfl | rfl <;> decide) (by decide)).mono ?_
  rintro e w2 ⟨rfl, r2, hrel⟩
  have K := PenRel.keeps H0.out.2 (PenRel.of_below (below_alloc _ _) hrel) H0.out.2.size (Nat.le_refl _) (by simp)
  rw [lives16_bytes] at hrel
  have H2 := Lib.hid (And.intro hrel.1 K.1)
  clear hrel K H0 hop
  go_wp2_with fail
  refine (penbytes_any _ r2 _ _ H2.out.1 (by decide +kernel)).mono ?_
  rintro e w6 ⟨A, c, rfl, ho, hb6⟩
  have hcv : (convert 38 9 (.slice A 9 c)).run Try.prog w6 = .ok (.string ⟨#[1, 1, 97, 10, 1, 97, 1, 98, 5]⟩) w6 := (made_conv ho).trans (by rw [lives16_text])
  have H6 := Lib.hid (below_of H2.out.2 hb6)
  clear ho hb6 H2
  go_wp2_with fail
  refine (Calls.to (opname_any 5 _) (show Value.string (kName 5) = .string ⟨#[100, 114, 111, 112]⟩ from rfl)).mono ?_
  rintro e w7 ⟨rfl, hb7⟩
  have H7 := Lib.hid (below_of H6.out hb7)
  clear hb7 hcv
  go_wp2_with fail
  refine (Calls.to (opreads_any op3 _ op3_ok) (congrArg Value.bool lives16_reads)).mono ?_
  rintro e w8 ⟨rfl, hb8⟩
  have H8 := Lib.hid (below_of H7.out hb8)
  clear hb8
  go_wp2_with fail
  go_ret
  exact ⟨rfl, H8.out⟩

end Go.Proofs.Ythbafbgnclpbpaa

namespace Go.Proofs.Ythbafbgnclpbpaa
open Go.RowKit

theorem opl_one (w : World) (x : OpD) (T : TypeId) : Opl (w.alloc (.cells (opCells x) T)) (some ⟨w.heap.size, 0, none⟩) [x] := fun _ => by
  refine ⟨w.heap.size, 0, rfl, by simp, fun j hj k v hv => ?_⟩
  rw [Nat.zero_add]
  refine new_cell w _ T (j * 5 + k) v ?_
  match j, hj with
  | 0, _ => simpa using hv

set_option maxRecDepth 100000 in
set_option maxHeartbeats 8000000 in
theorem optells_any (o : OpD) (w : World) (ho : OpOk o) : Calls Try.prog 8 #[.agg (opCells o)] w (Ret (.bool true) w) := by
  have hn := OpAt.new w o 58
  have hb := below_alloc w (.cells (opCells o) 58)
  have hz : w.heap.size < (w.alloc (.cells (opCells o) 58)).heap.size := by simp
  have hsz : (w.alloc (.cells (opCells o) 58)).heap.size = w.heap.size + 1 := by simp
  have HL := Lib.hid (fun (X : World) => light16_any (some ⟨X.heap.size, 0, none⟩) 1 [o] (X.alloc (.cells (opCells o) 58)) (opl_one X o _) (by intro x hx; simp at hx; subst hx; exact ho) (by simp))
  have HC := Lib.hid (fun W => opcheck_any o W ho)
  have HSo := Lib.hid (fun W => refsound16_any o W ho)
  have HPa := Lib.hid (fun W => opplain_any o W)
  have HPb := Lib.hid (fun W => refplain_any o W)
  have HRa := Lib.hid (fun W => opreads_any o W ho)
  have HRb := Lib.hid (fun W => refreads_any o W ho)
  generalize light16 [o] = li at HL
  generalize opB o = b at HC HSo
  generalize readsB o = rd at HRa HRb
  generalize plainO o = q at HPa HPb
  obtain ⟨kind, key, upto, val, limit⟩ := o
  obtain ⟨kind', key', upto', val', limit'⟩ := q
  simp only [opCells] at hn hb hz hsz HL HC HSo HPa HPb HRa HRb ⊢
  clear ho
  go_enter Try.func8, Try.ntmps8
  go_wp2_with fail
  generalize w.alloc _ = W1 at hn hb hz hsz ⊢
  rw [← hsz]
  refine (HL.out W1).mono ?_
  rintro e wn ⟨rfl, hbn'⟩
  have hbn := below_of (below_alloc W1 _) hbn'
  replace hb := below_of hb hbn
  replace hn := hn.up hbn hz
  replace hz := Nat.lt_of_lt_of_le hz hbn.size
  clear hbn hbn' hsz
  obtain ⟨x0, x1, x2, x3, x4⟩ := id hn
  simp only [] at x0 x1 x2 x3 x4
  cases li
  · go_wp2_with fail
    refine (lives16_any _).mono ?_
    rintro e w2 ⟨rfl, hb2⟩
    go_wp2_with fail
    go_ret
    exact ⟨rfl, below_of hb hb2⟩
  · cases b
    · have HC0 := Lib.hid (fun W => Calls.to (HC.out W) (congrArg (Value.int .i64) (if_neg Bool.false_ne_true)))
      clear HC
      go_wp2_with fail
      refine (HC0.out _).mono ?_
      rintro e wm ⟨rfl, hbn⟩
      replace hb := below_of hb hbn
      replace hn := hn.up hbn hz
      replace hz := Nat.lt_of_lt_of_le hz hbn.size
      clear hbn x0 x1 x2 x3 x4
      go_upto_region 4 with fail
      generalize wm = W at hb hn hz ⊢
      have HB := Lib.hid hb
      clear hb
      refine wp_region_held_drew (S := fun w' => Below W.heap.size W w') (by kernel_rfl) (Below.drew (Below.refl _ _)) (fun hcur => ?_)
      replace hcur : Below W.heap.size W W.drew := hcur
      refine wpAnyH_take (i := 0) (v := ?_) rfl (by decide +kernel) (by decide +kernel) (by decide +kernel) (fun _ _ _ h => h) (Or.inl ⟨by rfl, ?hy⟩) hcur ?_
      case hy =>
        intro w1 hSw
        replace hSw : Below W.heap.size W w1 := hSw
        obtain ⟨x0, x1, x2, x3, x4⟩ := hn.up hSw hz
        simp only [] at x0 x1 x2 x3 x4
        go_simp
        (try with_reducible rfl)
      (try simp only [Act.put, List.getElem_toArray, List.getElem_cons_zero, List.getElem_cons_succ, List.setIfInBounds_toArray, List.set_cons_zero, List.set_cons_succ])
      refine wpAnyH_take (i := 1) (v := ?_) rfl (by decide +kernel) (by decide +kernel) (by decide +kernel) (fun _ _ _ h => h) (Or.inl ⟨by rfl, ?hy⟩) hcur ?_
      case hy =>
        intro w1 hSw
        replace hSw : Below W.heap.size W w1 := hSw
        obtain ⟨x0, x1, x2, x3, x4⟩ := hn.up hSw hz
        simp only [] at x0 x1 x2 x3 x4
        go_simp
        (try with_reducible rfl)
      (try simp only [Act.put, List.getElem_toArray, List.getElem_cons_zero, List.getElem_cons_succ, List.setIfInBounds_toArray, List.set_cons_zero, List.set_cons_succ])
      refine wpAnyH_take (i := 2) (v := ?_) rfl (by decide +kernel) (by decide +kernel) (by decide +kernel) (fun _ _ _ h => h) (Or.inl ⟨by rfl, ?hy⟩) hcur ?_
      case hy =>
        intro w1 hSw
        replace hSw : Below W.heap.size W w1 := hSw
        obtain ⟨x0, x1, x2, x3, x4⟩ := hn.up hSw hz
        simp only [] at x0 x1 x2 x3 x4
        go_simp
        (try with_reducible rfl)
      (try simp only [Act.put, List.getElem_toArray, List.getElem_cons_zero, List.getElem_cons_succ, List.setIfInBounds_toArray, List.set_cons_zero, List.set_cons_succ])
      refine wpAnyH_ready (rs := [3]) (by decide +kernel) (by simp) ?_
      refine AllReadyH.cons rfl (fun K hK => ?_) AllReadyH.nil
      go_simp
      refine (HSo.out _).mono ?_
      rintro e wn ⟨rfl, hbn⟩
      go_wp2_with fail
      refine hK.out _ _ (below_of hcur hbn) (fun _ => ?_)
      clear hK K
      replace hcur := below_of hcur hbn
      clear hbn
      (try simp only [Act.put, List.getElem_toArray, List.getElem_cons_zero, List.getElem_cons_succ, List.setIfInBounds_toArray, List.set_cons_zero, List.set_cons_succ])
      refine wpAnyH_take (i := 4) (v := ?_) rfl (by decide +kernel) (by decide +kernel) (by decide +kernel) (fun _ _ _ h => h) (Or.inl ⟨by rfl, ?hy⟩) hcur ?_
      case hy =>
        intro w1 hSw
        replace hSw : Below W.heap.size W w1 := hSw
        obtain ⟨x0, x1, x2, x3, x4⟩ := hn.up hSw hz
        simp only [] at x0 x1 x2 x3 x4
        go_simp
        (try with_reducible rfl)
      (try simp only [Act.put, List.getElem_toArray, List.getElem_cons_zero, List.getElem_cons_succ, List.setIfInBounds_toArray, List.set_cons_zero, List.set_cons_succ])
      refine wpAnyH_take (i := 5) (v := ?_) rfl (by decide +kernel) (by decide +kernel) (by decide +kernel) (fun _ _ _ h => h) (Or.inl ⟨by rfl, ?hy⟩) hcur ?_
      case hy =>
        intro w1 hSw
        replace hSw : Below W.heap.size W w1 := hSw
        obtain ⟨x0, x1, x2, x3, x4⟩ := hn.up hSw hz
        simp only [] at x0 x1 x2 x3 x4
        go_simp
        (try with_reducible rfl)
      (try simp only [Act.put, List.getElem_toArray, List.getElem_cons_zero, List.getElem_cons_succ, List.setIfInBounds_toArray, List.set_cons_zero, List.set_cons_succ])
      refine wpAnyH_take (i := 6) (v := ?_) rfl (by decide +kernel) (by decide +kernel) (by decide +kernel) (fun _ _ _ h => h) (Or.inl ⟨by rfl, ?hy⟩) hcur ?_
      case hy =>
        intro w1 hSw
        replace hSw : Below W.heap.size W w1 := hSw
        obtain ⟨x0, x1, x2, x3, x4⟩ := hn.up hSw hz
        simp only [] at x0 x1 x2 x3 x4
        go_simp
        (try with_reducible rfl)
      (try simp only [Act.put, List.getElem_toArray, List.getElem_cons_zero, List.getElem_cons_succ, List.setIfInBounds_toArray, List.set_cons_zero, List.set_cons_succ])
      refine wpAnyH_take (i := 7) (v := ?_) rfl (by decide +kernel) (by decide +kernel) (by decide +kernel) (fun _ _ _ h => h) (Or.inl ⟨by rfl, ?hy⟩) hcur ?_
      case hy =>
        intro w1 hSw
        replace hSw : Below W.heap.size W w1 := hSw
        obtain ⟨x0, x1, x2, x3, x4⟩ := hn.up hSw hz
        simp only [] at x0 x1 x2 x3 x4
        go_simp
        (try with_reducible rfl)
      (try simp only [Act.put, List.getElem_toArray, List.getElem_cons_zero, List.getElem_cons_succ, List.setIfInBounds_toArray, List.set_cons_zero, List.set_cons_succ])
      refine wpAnyH_take (i := 8) (v := ?_) rfl (by decide +kernel) (by decide +kernel) (by decide +kernel) (fun _ _ _ h => h) (Or.inl ⟨by rfl, ?hy⟩) hcur ?_
      case hy =>
        intro w1 hSw
        replace hSw : Below W.heap.size W w1 := hSw
        obtain ⟨x0, x1, x2, x3, x4⟩ := hn.up hSw hz
        simp only [] at x0 x1 x2 x3 x4
        go_simp
        (try with_reducible rfl)
      (try simp only [Act.put, List.getElem_toArray, List.getElem_cons_zero, List.getElem_cons_succ, List.setIfInBounds_toArray, List.set_cons_zero, List.set_cons_succ])
      refine wpAnyH_take (i := 9) (v := ?_) rfl (by decide +kernel) (by decide +kernel) (by decide +kernel) (fun _ _ _ h => h) (Or.inl ⟨by rfl, ?hy⟩) hcur ?_
      case hy =>
        intro w1 hSw
        replace hSw : Below W.heap.size W w1 := hSw
        obtain ⟨x0, x1, x2, x3, x4⟩ := hn.up hSw hz
        simp only [] at x0 x1 x2 x3 x4
        go_simp
        (try with_reducible rfl)
      (try simp only [Act.put, List.getElem_toArray, List.getElem_cons_zero, List.getElem_cons_succ, List.setIfInBounds_toArray, List.set_cons_zero, List.set_cons_succ])
      refine wpAnyH_take (i := 10) (v := ?_) rfl (by decide +kernel) (by decide +kernel) (by decide +kernel) (fun _ _ _ h => h) (Or.inl ⟨by rfl, ?hy⟩) hcur ?_
      case hy =>
        intro w1 hSw
        replace hSw : Below W.heap.size W w1 := hSw
        obtain ⟨x0, x1, x2, x3, x4⟩ := hn.up hSw hz
        simp only [] at x0 x1 x2 x3 x4
        go_simp
        (try with_reducible rfl)
      (try simp only [Act.put, List.getElem_toArray, List.getElem_cons_zero, List.getElem_cons_succ, List.setIfInBounds_toArray, List.set_cons_zero, List.set_cons_succ])
      refine wpAnyH_take (i := 11) (v := ?_) rfl (by decide +kernel) (by decide +kernel) (by decide +kernel) (fun _ _ _ h => h) (Or.inl ⟨by rfl, ?hy⟩) hcur ?_
      case hy =>
        intro w1 hSw
        replace hSw : Below W.heap.size W w1 := hSw
        obtain ⟨x0, x1, x2, x3, x4⟩ := hn.up hSw hz
        simp only [] at x0 x1 x2 x3 x4
        go_simp
        (try with_reducible rfl)
      (try simp only [Act.put, List.getElem_toArray, List.getElem_cons_zero, List.getElem_cons_succ, List.setIfInBounds_toArray, List.set_cons_zero, List.set_cons_succ])
      refine wpAnyH_take (i := 12) (v := ?_) rfl (by decide +kernel) (by decide +kernel) (by decide +kernel) (fun _ _ _ h => h) (Or.inl ⟨by rfl, ?hy⟩) hcur ?_
      case hy =>
        intro w1 hSw
        replace hSw : Below W.heap.size W w1 := hSw
        obtain ⟨x0, x1, x2, x3, x4⟩ := hn.up hSw hz
        simp only [] at x0 x1 x2 x3 x4
        go_simp
        (try with_reducible rfl)
      (try simp only [Act.put, List.getElem_toArray, List.getElem_cons_zero, List.getElem_cons_succ, List.setIfInBounds_toArray, List.set_cons_zero, List.set_cons_succ])
      refine wpAnyH_take (i := 13) (v := ?_) rfl (by decide +kernel) (by decide +kernel) (by decide +kernel) (fun _ _ _ h => h) (Or.inl ⟨by rfl, ?hy⟩) hcur ?_
      case hy =>
        intro w1 hSw
        replace hSw : Below W.heap.size W w1 := hSw
        obtain ⟨x0, x1, x2, x3, x4⟩ := hn.up hSw hz
        simp only [] at x0 x1 x2 x3 x4
        go_simp
        (try with_reducible rfl)
      (try simp only [Act.put, List.getElem_toArray, List.getElem_cons_zero, List.getElem_cons_succ, List.setIfInBounds_toArray, List.set_cons_zero, List.set_cons_succ])
      refine wpAnyH_take (i := 14) (v := ?_) rfl (by decide +kernel) (by decide +kernel) (by decide +kernel) (fun _ _ _ h => h) (Or.inl ⟨by rfl, ?hy⟩) hcur ?_
      case hy =>
        intro w1 hSw
        replace hSw : Below W.heap.size W w1 := hSw
        obtain ⟨x0, x1, x2, x3, x4⟩ := hn.up hSw hz
        simp only [] at x0 x1 x2 x3 x4
        go_simp
        (try with_reducible rfl)
      (try simp only [Act.put, List.getElem_toArray, List.getElem_cons_zero, List.getElem_cons_succ, List.setIfInBounds_toArray, List.set_cons_zero, List.set_cons_succ])
      refine wpAnyH_take (i := 16) (v := ?_) rfl (by decide +kernel) (by decide +kernel) (by decide +kernel) (fun _ _ _ h => h) (Or.inl ⟨by rfl, ?hy⟩) hcur ?_
      case hy =>
        intro w1 hSw
        replace hSw : Below W.heap.size W w1 := hSw
        obtain ⟨x0, x1, x2, x3, x4⟩ := hn.up hSw hz
        simp only [] at x0 x1 x2 x3 x4
        go_simp
        (try with_reducible rfl)
      (try simp only [Act.put, List.getElem_toArray, List.getElem_cons_zero, List.getElem_cons_succ, List.setIfInBounds_toArray, List.set_cons_zero, List.set_cons_succ])
      refine wpAnyH_ready (rs := [15]) (by decide +kernel) (by simp) ?_
      refine AllReadyH.cons rfl (fun K hK => ?_) AllReadyH.nil
      go_simp
      refine (HPa.out _).mono ?_
      rintro e wn ⟨rfl, hbn⟩
      go_wp2_with fail
      refine hK.out _ _ (below_of hcur hbn) (fun _ => ?_)
      clear hK K
      replace hcur := below_of hcur hbn
      clear hbn
      (try simp only [Act.put, List.getElem_toArray, List.getElem_cons_zero, List.getElem_cons_succ, List.setIfInBounds_toArray, List.set_cons_zero, List.set_cons_succ])
      refine wpAnyH_ready (rs := [17]) (by decide +kernel) (by simp) ?_
      refine AllReadyH.cons rfl (fun K hK => ?_) AllReadyH.nil
      go_simp
      refine (HPb.out _).mono ?_
      rintro e wn ⟨rfl, hbn⟩
      go_wp2_with fail
      refine hK.out _ _ (below_of hcur hbn) (fun _ => ?_)
      clear hK K
      replace hcur := below_of hcur hbn
      clear hbn
      (try simp only [Act.put, List.getElem_toArray, List.getElem_cons_zero, List.getElem_cons_succ, List.setIfInBounds_toArray, List.set_cons_zero, List.set_cons_succ])
      refine wpAnyH_take (i := 18) (v := ?_) rfl (by decide +kernel) (by decide +kernel) (by decide +kernel) (fun _ _ _ h => h) (Or.inl ⟨by rfl, ?hy⟩) hcur ?_
      case hy =>
        intro w1 hSw
        replace hSw : Below W.heap.size W w1 := hSw
        obtain ⟨x0, x1, x2, x3, x4⟩ := hn.up hSw hz
        simp only [] at x0 x1 x2 x3 x4
        go_simp
        (try with_reducible rfl)
      (try simp only [Act.put, List.getElem_toArray, List.getElem_cons_zero, List.getElem_cons_succ, List.setIfInBounds_toArray, List.set_cons_zero, List.set_cons_succ])
      refine wpAnyH_take (i := 19) (v := ?_) rfl (by decide +kernel) (by decide +kernel) (by decide +kernel) (fun _ _ _ h => h) (Or.inl ⟨by rfl, ?hy⟩) hcur ?_
      case hy =>
        intro w1 hSw
        replace hSw : Below W.heap.size W w1 := hSw
        obtain ⟨x0, x1, x2, x3, x4⟩ := hn.up hSw hz
        simp only [] at x0 x1 x2 x3 x4
        go_simp
        (try with_reducible rfl)
      (try simp only [Act.put, List.getElem_toArray, List.getElem_cons_zero, List.getElem_cons_succ, List.setIfInBounds_toArray, List.set_cons_zero, List.set_cons_succ])
      refine wpAnyH_take (i := 20) (v := ?_) rfl (by decide +kernel) (by decide +kernel) (by decide +kernel) (fun _ _ _ h => h) (Or.inl ⟨by rfl, ?hy⟩) hcur ?_
      case hy =>
        intro w1 hSw
        replace hSw : Below W.heap.size W w1 := hSw
        obtain ⟨x0, x1, x2, x3, x4⟩ := hn.up hSw hz
        simp only [] at x0 x1 x2 x3 x4
        go_simp
        (try with_reducible rfl)
      (try simp only [Act.put, List.getElem_toArray, List.getElem_cons_zero, List.getElem_cons_succ, List.setIfInBounds_toArray, List.set_cons_zero, List.set_cons_succ])
      refine wpAnyH_take (i := 21) (v := ?_) rfl (by decide +kernel) (by decide +kernel) (by decide +kernel) (fun _ _ _ h => h) (Or.inl ⟨by rfl, ?hy⟩) hcur ?_
      case hy =>
        intro w1 hSw
        replace hSw : Below W.heap.size W w1 := hSw
        obtain ⟨x0, x1, x2, x3, x4⟩ := hn.up hSw hz
        simp only [] at x0 x1 x2 x3 x4
        go_simp
        (try with_reducible rfl)
      (try simp only [Act.put, List.getElem_toArray, List.getElem_cons_zero, List.getElem_cons_succ, List.setIfInBounds_toArray, List.set_cons_zero, List.set_cons_succ])
      refine wpAnyH_take (i := 23) (v := ?_) rfl (by decide +kernel) (by decide +kernel) (by decide +kernel) (fun _ _ _ h => h) (Or.inl ⟨by rfl, ?hy⟩) hcur ?_
      case hy =>
        intro w1 hSw
        replace hSw : Below W.heap.size W w1 := hSw
        obtain ⟨x0, x1, x2, x3, x4⟩ := hn.up hSw hz
        simp only [] at x0 x1 x2 x3 x4
        go_simp
        (try with_reducible rfl)
      (try simp only [Act.put, List.getElem_toArray, List.getElem_cons_zero, List.getElem_cons_succ, List.setIfInBounds_toArray, List.set_cons_zero, List.set_cons_succ])
      refine wpAnyH_ready (rs := [22]) (by decide +kernel) (by simp) ?_
      refine AllReadyH.cons rfl (fun K hK => ?_) AllReadyH.nil
      go_simp
      refine (HRa.out _).mono ?_
      rintro e wn ⟨rfl, hbn⟩
      go_wp2_with fail
      refine hK.out _ _ (below_of hcur hbn) (fun _ => ?_)
      clear hK K
      replace hcur := below_of hcur hbn
      clear hbn
      (try simp only [Act.put, List.getElem_toArray, List.getElem_cons_zero, List.getElem_cons_succ, List.setIfInBounds_toArray, List.set_cons_zero, List.set_cons_succ])
      refine wpAnyH_ready (rs := [24]) (by decide +kernel) (by simp) ?_
      refine AllReadyH.cons rfl (fun K hK => ?_) AllReadyH.nil
      go_simp
      refine (HRb.out _).mono ?_
      rintro e wn ⟨rfl, hbn⟩
      go_wp2_with fail
      refine hK.out _ _ (below_of hcur hbn) (fun _ => ?_)
      clear hK K
      replace hcur := below_of hcur hbn
      clear hbn
      (try simp only [Act.put, List.getElem_toArray, List.getElem_cons_zero, List.getElem_cons_succ, List.setIfInBounds_toArray, List.set_cons_zero, List.set_cons_succ])
      refine wpAnyH_take (i := 25) (v := ?_) rfl (by decide +kernel) (by decide +kernel) (by decide +kernel) (fun _ _ _ h => h) (Or.inl ⟨by rfl, ?hy⟩) hcur ?_
      case hy =>
        intro w1 hSw
        replace hSw : Below W.heap.size W w1 := hSw
        obtain ⟨x0, x1, x2, x3, x4⟩ := hn.up hSw hz
        simp only [] at x0 x1 x2 x3 x4
        go_simp
        (try with_reducible rfl)
      (try simp only [Act.put, List.getElem_toArray, List.getElem_cons_zero, List.getElem_cons_succ, List.setIfInBounds_toArray, List.set_cons_zero, List.set_cons_succ])
      refine wpAnyH_take (i := 26) (v := ?_) rfl (by decide +kernel) (by decide +kernel) (by decide +kernel) (fun _ _ _ h => h) (Or.inl ⟨by rfl, ?hy⟩) hcur ?_
      case hy =>
        intro w1 hSw
        replace hSw : Below W.heap.size W w1 := hSw
        obtain ⟨x0, x1, x2, x3, x4⟩ := hn.up hSw hz
        simp only [] at x0 x1 x2 x3 x4
        go_simp
        (try with_reducible rfl)
      (try simp only [Act.put, List.getElem_toArray, List.getElem_cons_zero, List.getElem_cons_succ, List.setIfInBounds_toArray, List.set_cons_zero, List.set_cons_succ])
      refine wpAnyH_take (i := 27) (v := ?_) rfl (by decide +kernel) (by decide +kernel) (by decide +kernel) (fun _ _ _ h => h) (Or.inl ⟨by rfl, ?hy⟩) hcur ?_
      case hy =>
        intro w1 hSw
        replace hSw : Below W.heap.size W w1 := hSw
        obtain ⟨x0, x1, x2, x3, x4⟩ := hn.up hSw hz
        simp only [] at x0 x1 x2 x3 x4
        go_simp
        (try with_reducible rfl)
      (try simp only [Act.put, List.getElem_toArray, List.getElem_cons_zero, List.getElem_cons_succ, List.setIfInBounds_toArray, List.set_cons_zero, List.set_cons_succ])
      refine wpAnyH_take (i := 28) (v := ?_) rfl (by decide +kernel) (by decide +kernel) (by decide +kernel) (fun _ _ _ h => h) (Or.inl ⟨by rfl, ?hy⟩) hcur ?_
      case hy =>
        intro w1 hSw
        replace hSw : Below W.heap.size W w1 := hSw
        obtain ⟨x0, x1, x2, x3, x4⟩ := hn.up hSw hz
        simp only [] at x0 x1 x2 x3 x4
        go_simp
        (try with_reducible rfl)
      (try simp only [Act.put, List.getElem_toArray, List.getElem_cons_zero, List.getElem_cons_succ, List.setIfInBounds_toArray, List.set_cons_zero, List.set_cons_succ])
      refine wpAnyH_take (i := 29) (v := ?_) rfl (by decide +kernel) (by decide +kernel) (by decide +kernel) (fun _ _ _ h => h) (Or.inl ⟨by rfl, ?hy⟩) hcur ?_
      case hy =>
        intro w1 hSw
        replace hSw : Below W.heap.size W w1 := hSw
        obtain ⟨x0, x1, x2, x3, x4⟩ := hn.up hSw hz
        simp only [] at x0 x1 x2 x3 x4
        go_simp
        (try with_reducible rfl)
      (try simp only [Act.put, List.getElem_toArray, List.getElem_cons_zero, List.getElem_cons_succ, List.setIfInBounds_toArray, List.set_cons_zero, List.set_cons_succ])
      refine wpAnyH_take (i := 31) (v := ?_) rfl (by decide +kernel) (by decide +kernel) (by decide +kernel) (fun _ _ _ h => h) (Or.inl ⟨by rfl, ?hy⟩) hcur ?_
      case hy =>
        intro w1 hSw
        replace hSw : Below W.heap.size W w1 := hSw
        obtain ⟨x0, x1, x2, x3, x4⟩ := hn.up hSw hz
        simp only [] at x0 x1 x2 x3 x4
        go_simp
        (try with_reducible rfl)
      (try simp only [Act.put, List.getElem_toArray, List.getElem_cons_zero, List.getElem_cons_succ, List.setIfInBounds_toArray, List.set_cons_zero, List.set_cons_succ])
      refine wpAnyH_take (i := 32) (v := ?_) rfl (by decide +kernel) (by decide +kernel) (by decide +kernel) (fun _ _ _ h => h) (Or.inl ⟨by rfl, ?hy⟩) hcur ?_
      case hy =>
        intro w1 hSw
        replace hSw : Below W.heap.size W w1 := hSw
        obtain ⟨x0, x1, x2, x3, x4⟩ := hn.up hSw hz
        simp only [] at x0 x1 x2 x3 x4
        go_simp
        (try with_reducible rfl)
      (try simp only [Act.put, List.getElem_toArray, List.getElem_cons_zero, List.getElem_cons_succ, List.setIfInBounds_toArray, List.set_cons_zero, List.set_cons_succ])
      refine wpAnyH_ready (rs := [30]) (by decide +kernel) (by simp) ?_
      refine AllReadyH.cons rfl (fun K hK => ?_) AllReadyH.nil
      go_simp
      refine (opname_any _ _).mono ?_
      rintro e wn ⟨rfl, hbn⟩
      go_wp2_with fail
      refine hK.out _ _ (below_of hcur hbn) (fun _ => ?_)
      clear hK K
      replace hcur := below_of hcur hbn
      clear hbn
      (try simp only [Act.put, List.getElem_toArray, List.getElem_cons_zero, List.getElem_cons_succ, List.setIfInBounds_toArray, List.set_cons_zero, List.set_cons_succ])
      refine wpAnyH_ready (rs := [33]) (by decide +kernel) (by simp) ?_
      refine AllReadyH.cons rfl (fun K hK => ?_) AllReadyH.nil
      go_simp
      refine (refname_any _ _).mono ?_
      rintro e wn ⟨rfl, hbn⟩
      go_wp2_with fail
      refine hK.out _ _ (below_of hcur hbn) (fun _ => ?_)
      clear hK K
      replace hcur := below_of hcur hbn
      clear hbn
      (try simp only [Act.put, List.getElem_toArray, List.getElem_cons_zero, List.getElem_cons_succ, List.setIfInBounds_toArray, List.set_cons_zero, List.set_cons_succ])
      refine wpAnyH_take (i := 34) (v := ?_) rfl (by decide +kernel) (by decide +kernel) (by decide +kernel) (fun _ _ _ h => h) (Or.inl ⟨by rfl, ?hy⟩) hcur ?_
      case hy =>
        intro w1 hSw
        replace hSw : Below W.heap.size W w1 := hSw
        obtain ⟨x0, x1, x2, x3, x4⟩ := hn.up hSw hz
        simp only [] at x0 x1 x2 x3 x4
        go_simp
        (try with_reducible rfl)
      (try simp only [Act.put, List.getElem_toArray, List.getElem_cons_zero, List.getElem_cons_succ, List.setIfInBounds_toArray, List.set_cons_zero, List.set_cons_succ])
      refine wpAnyH_take (i := 35) (v := ?_) rfl (by decide +kernel) (by decide +kernel) (by decide +kernel) (fun _ _ _ h => h) (Or.inl ⟨by rfl, ?hy⟩) hcur ?_
      case hy =>
        intro w1 hSw
        replace hSw : Below W.heap.size W w1 := hSw
        obtain ⟨x0, x1, x2, x3, x4⟩ := hn.up hSw hz
        simp only [] at x0 x1 x2 x3 x4
        go_simp
        (try with_reducible rfl)
      (try simp only [Act.put, List.getElem_toArray, List.getElem_cons_zero, List.getElem_cons_succ, List.setIfInBounds_toArray, List.set_cons_zero, List.set_cons_succ])
      refine wpAnyH_take (i := 36) (v := ?_) rfl (by decide +kernel) (by decide +kernel) (by decide +kernel) (fun _ _ _ h => h) (Or.inl ⟨by rfl, ?hy⟩) hcur ?_
      case hy =>
        intro w1 hSw
        replace hSw : Below W.heap.size W w1 := hSw
        obtain ⟨x0, x1, x2, x3, x4⟩ := hn.up hSw hz
        simp only [] at x0 x1 x2 x3 x4
        go_simp
        (try with_reducible rfl)
      (try simp only [Act.put, List.getElem_toArray, List.getElem_cons_zero, List.getElem_cons_succ, List.setIfInBounds_toArray, List.set_cons_zero, List.set_cons_succ])
      refine wpAnyH_ready (rs := [37]) (by decide +kernel) (by simp) ?_
      refine AllReadyH.cons rfl (fun K hK => ?_) AllReadyH.nil
      go_simp
      refine (lives16_any _).mono ?_
      rintro e wn ⟨rfl, hbn⟩
      go_wp2_with fail
      refine hK.out _ _ (below_of hcur hbn) (fun _ => ?_)
      clear hK K
      replace hcur := below_of hcur hbn
      clear hbn
      (try simp only [Act.put, List.getElem_toArray, List.getElem_cons_zero, List.getElem_cons_succ, List.setIfInBounds_toArray, List.set_cons_zero, List.set_cons_succ])
      refine wpAnyH_take (i := 38) (v := ?_) rfl (by decide +kernel) (by decide +kernel) (by decide +kernel) (fun _ _ _ h => h) (Or.inl ⟨by rfl, ?hy⟩) hcur ?_
      case hy =>
        intro w1 hSw
        replace hSw : Below W.heap.size W w1 := hSw
        obtain ⟨x0, x1, x2, x3, x4⟩ := hn.up hSw hz
        simp only [] at x0 x1 x2 x3 x4
        go_simp
        (try with_reducible rfl)
      (try simp only [Act.put, List.getElem_toArray, List.getElem_cons_zero, List.getElem_cons_succ, List.setIfInBounds_toArray, List.set_cons_zero, List.set_cons_succ])
      refine wpAnyH_take (i := 39) (v := ?_) rfl (by decide +kernel) (by decide +kernel) (by decide +kernel) (fun _ _ _ h => h) (Or.inl ⟨by rfl, ?hy⟩) hcur ?_
      case hy =>
        intro w1 hSw
        replace hSw : Below W.heap.size W w1 := hSw
        obtain ⟨x0, x1, x2, x3, x4⟩ := hn.up hSw hz
        simp only [] at x0 x1 x2 x3 x4
        go_simp
        (try with_reducible rfl)
      (try simp only [Act.put, List.getElem_toArray, List.getElem_cons_zero, List.getElem_cons_succ, List.setIfInBounds_toArray, List.set_cons_zero, List.set_cons_succ])
      refine wpAnyH_done (by decide +kernel) ?_ _
      go_wp2_with fail
      go_ret
      exact ⟨rfl, below_of HB.out hcur⟩
    · have HC0 := Lib.hid (fun W => Calls.to (HC.out W) (congrArg (Value.int .i64) (if_pos rfl)))
      clear HC
      go_wp2_with fail
      refine (HC0.out _).mono ?_
      rintro e wm ⟨rfl, hbn⟩
      replace hb := below_of hb hbn
      replace hn := hn.up hbn hz
      replace hz := Nat.lt_of_lt_of_le hz hbn.size
      clear hbn x0 x1 x2 x3 x4
      go_upto_region 4 with fail
      generalize wm = W at hb hn hz ⊢
      have HB := Lib.hid hb
      clear hb
      refine wp_region_held_drew (S := fun w' => Below W.heap.size W w') (by kernel_rfl) (Below.drew (Below.refl _ _)) (fun hcur => ?_)
      replace hcur : Below W.heap.size W W.drew := hcur
      refine wpAnyH_take (i := 0) (v := ?_) rfl (by decide +kernel) (by decide +kernel) (by decide +kernel) (fun _ _ _ h => h) (Or.inl ⟨by rfl, ?hy⟩) hcur ?_
      case hy =>
        intro w1 hSw
        replace hSw : Below W.heap.size W w1 := hSw
        obtain ⟨x0, x1, x2, x3, x4⟩ := hn.up hSw hz
        simp only [] at x0 x1 x2 x3 x4
        go_simp
        (try with_reducible rfl)
      (try simp only [Act.put, List.getElem_toArray, List.getElem_cons_zero, List.getElem_cons_succ, List.setIfInBounds_toArray, List.set_cons_zero, List.set_cons_succ])
      refine wpAnyH_take (i := 1) (v := ?_) rfl (by decide +kernel) (by decide +kernel) (by decide +kernel) (fun _ _ _ h => h) (Or.inl ⟨by rfl, ?hy⟩) hcur ?_
      case hy =>
        intro w1 hSw
        replace hSw : Below W.heap.size W w1 := hSw
        obtain ⟨x0, x1, x2, x3, x4⟩ := hn.up hSw hz
        simp only [] at x0 x1 x2 x3 x4
        go_simp
        (try with_reducible rfl)
      (try simp only [Act.put, List.getElem_toArray, List.getElem_cons_zero, List.getElem_cons_succ, List.setIfInBounds_toArray, List.set_cons_zero, List.set_cons_succ])
      refine wpAnyH_take (i := 2) (v := ?_) rfl (by decide +kernel) (by decide +kernel) (by decide +kernel) (fun _ _ _ h => h) (Or.inl ⟨by rfl, ?hy⟩) hcur ?_
      case hy =>
        intro w1 hSw
        replace hSw : Below W.heap.size W w1 := hSw
        obtain ⟨x0, x1, x2, x3, x4⟩ := hn.up hSw hz
        simp only [] at x0 x1 x2 x3 x4
        go_simp
        (try with_reducible rfl)
      (try simp only [Act.put, List.getElem_toArray, List.getElem_cons_zero, List.getElem_cons_succ, List.setIfInBounds_toArray, List.set_cons_zero, List.set_cons_succ])
      refine wpAnyH_ready (rs := [3]) (by decide +kernel) (by simp) ?_
      refine AllReadyH.cons rfl (fun K hK => ?_) AllReadyH.nil
      go_simp
      refine (HSo.out _).mono ?_
      rintro e wn ⟨rfl, hbn⟩
      go_wp2_with fail
      refine hK.out _ _ (below_of hcur hbn) (fun _ => ?_)
      clear hK K
      replace hcur := below_of hcur hbn
      clear hbn
      (try simp only [Act.put, List.getElem_toArray, List.getElem_cons_zero, List.getElem_cons_succ, List.setIfInBounds_toArray, List.set_cons_zero, List.set_cons_succ])
      refine wpAnyH_take (i := 4) (v := ?_) rfl (by decide +kernel) (by decide +kernel) (by decide +kernel) (fun _ _ _ h => h) (Or.inl ⟨by rfl, ?hy⟩) hcur ?_
      case hy =>
        intro w1 hSw
        replace hSw : Below W.heap.size W w1 := hSw
        obtain ⟨x0, x1, x2, x3, x4⟩ := hn.up hSw hz
        simp only [] at x0 x1 x2 x3 x4
        go_simp
        (try with_reducible rfl)
      (try simp only [Act.put, List.getElem_toArray, List.getElem_cons_zero, List.getElem_cons_succ, List.setIfInBounds_toArray, List.set_cons_zero, List.set_cons_succ])
      refine wpAnyH_take (i := 5) (v := ?_) rfl (by decide +kernel) (by decide +kernel) (by decide +kernel) (fun _ _ _ h => h) (Or.inl ⟨by rfl, ?hy⟩) hcur ?_
      case hy =>
        intro w1 hSw
        replace hSw : Below W.heap.size W w1 := hSw
        obtain ⟨x0, x1, x2, x3, x4⟩ := hn.up hSw hz
        simp only [] at x0 x1 x2 x3 x4
        go_simp
        (try with_reducible rfl)
      (try simp only [Act.put, List.getElem_toArray, List.getElem_cons_zero, List.getElem_cons_succ, List.setIfInBounds_toArray, List.set_cons_zero, List.set_cons_succ])
      refine wpAnyH_take (i := 6) (v := ?_) rfl (by decide +kernel) (by decide +kernel) (by decide +kernel) (fun _ _ _ h => h) (Or.inl ⟨by rfl, ?hy⟩) hcur ?_
      case hy =>
        intro w1 hSw
        replace hSw : Below W.heap.size W w1 := hSw
        obtain ⟨x0, x1, x2, x3, x4⟩ := hn.up hSw hz
        simp only [] at x0 x1 x2 x3 x4
        go_simp
        (try with_reducible rfl)
      (try simp only [Act.put, List.getElem_toArray, List.getElem_cons_zero, List.getElem_cons_succ, List.setIfInBounds_toArray, List.set_cons_zero, List.set_cons_succ])
      refine wpAnyH_take (i := 7) (v := ?_) rfl (by decide +kernel) (by decide +kernel) (by decide +kernel) (fun _ _ _ h => h) (Or.inl ⟨by rfl, ?hy⟩) hcur ?_
      case hy =>
        intro w1 hSw
        replace hSw : Below W.heap.size W w1 := hSw
        obtain ⟨x0, x1, x2, x3, x4⟩ := hn.up hSw hz
        simp only [] at x0 x1 x2 x3 x4
        go_simp
        (try with_reducible rfl)
      (try simp only [Act.put, List.getElem_toArray, List.getElem_cons_zero, List.getElem_cons_succ, List.setIfInBounds_toArray, List.set_cons_zero, List.set_cons_succ])
      refine wpAnyH_take (i := 8) (v := ?_) rfl (by decide +kernel) (by decide +kernel) (by decide +kernel) (fun _ _ _ h => h) (Or.inl ⟨by rfl, ?hy⟩) hcur ?_
      case hy =>
        intro w1 hSw
        replace hSw : Below W.heap.size W w1 := hSw
        obtain ⟨x0, x1, x2, x3, x4⟩ := hn.up hSw hz
        simp only [] at x0 x1 x2 x3 x4
        go_simp
        (try with_reducible rfl)
      (try simp only [Act.put, List.getElem_toArray, List.getElem_cons_zero, List.getElem_cons_succ, List.setIfInBounds_toArray, List.set_cons_zero, List.set_cons_succ])
      refine wpAnyH_take (i := 9) rfl (by decide +kernel) (by decide +kernel) (by decide +kernel) (fun _ _ _ h => h) (Or.inr ⟨by rfl, rfl⟩) hcur ?_
      (try simp only [Act.put, List.getElem_toArray, List.getElem_cons_zero, List.getElem_cons_succ, List.setIfInBounds_toArray, List.set_cons_zero, List.set_cons_succ])
      refine wpAnyH_take (i := 10) rfl (by decide +kernel) (by decide +kernel) (by decide +kernel) (fun _ _ _ h => h) (Or.inr ⟨by rfl, rfl⟩) hcur ?_
      (try simp only [Act.put, List.getElem_toArray, List.getElem_cons_zero, List.getElem_cons_succ, List.setIfInBounds_toArray, List.set_cons_zero, List.set_cons_succ])
      refine wpAnyH_take (i := 11) (v := ?_) rfl (by decide +kernel) (by decide +kernel) (by decide +kernel) (fun _ _ _ h => h) (Or.inl ⟨by rfl, ?hy⟩) hcur ?_
      case hy =>
        intro w1 hSw
        replace hSw : Below W.heap.size W w1 := hSw
        obtain ⟨x0, x1, x2, x3, x4⟩ := hn.up hSw hz
        simp only [] at x0 x1 x2 x3 x4
        go_simp
        (try with_reducible rfl)
      (try simp only [Act.put, List.getElem_toArray, List.getElem_cons_zero, List.getElem_cons_succ, List.setIfInBounds_toArray, List.set_cons_zero, List.set_cons_succ])
      refine wpAnyH_take (i := 12) (v := ?_) rfl (by decide +kernel) (by decide +kernel) (by decide +kernel) (fun _ _ _ h => h) (Or.inl ⟨by rfl, ?hy⟩) hcur ?_
      case hy =>
        intro w1 hSw
        replace hSw : Below W.heap.size W w1 := hSw
        obtain ⟨x0, x1, x2, x3, x4⟩ := hn.up hSw hz
        simp only [] at x0 x1 x2 x3 x4
        go_simp
        (try with_reducible rfl)
      (try simp only [Act.put, List.getElem_toArray, List.getElem_cons_zero, List.getElem_cons_succ, List.setIfInBounds_toArray, List.set_cons_zero, List.set_cons_succ])
      refine wpAnyH_take (i := 13) (v := ?_) rfl (by decide +kernel) (by decide +kernel) (by decide +kernel) (fun _ _ _ h => h) (Or.inl ⟨by rfl, ?hy⟩) hcur ?_
      case hy =>
        intro w1 hSw
        replace hSw : Below W.heap.size W w1 := hSw
        obtain ⟨x0, x1, x2, x3, x4⟩ := hn.up hSw hz
        simp only [] at x0 x1 x2 x3 x4
        go_simp
        (try with_reducible rfl)
      (try simp only [Act.put, List.getElem_toArray, List.getElem_cons_zero, List.getElem_cons_succ, List.setIfInBounds_toArray, List.set_cons_zero, List.set_cons_succ])
      refine wpAnyH_take (i := 14) (v := ?_) rfl (by decide +kernel) (by decide +kernel) (by decide +kernel) (fun _ _ _ h => h) (Or.inl ⟨by rfl, ?hy⟩) hcur ?_
      case hy =>
        intro w1 hSw
        replace hSw : Below W.heap.size W w1 := hSw
        obtain ⟨x0, x1, x2, x3, x4⟩ := hn.up hSw hz
        simp only [] at x0 x1 x2 x3 x4
        go_simp
        (try with_reducible rfl)
      (try simp only [Act.put, List.getElem_toArray, List.getElem_cons_zero, List.getElem_cons_succ, List.setIfInBounds_toArray, List.set_cons_zero, List.set_cons_succ])
      refine wpAnyH_take (i := 16) (v := ?_) rfl (by decide +kernel) (by decide +kernel) (by decide +kernel) (fun _ _ _ h => h) (Or.inl ⟨by rfl, ?hy⟩) hcur ?_
      case hy =>
        intro w1 hSw
        replace hSw : Below W.heap.size W w1 := hSw
        obtain ⟨x0, x1, x2, x3, x4⟩ := hn.up hSw hz
        simp only [] at x0 x1 x2 x3 x4
        go_simp
        (try with_reducible rfl)
      (try simp only [Act.put, List.getElem_toArray, List.getElem_cons_zero, List.getElem_cons_succ, List.setIfInBounds_toArray, List.set_cons_zero, List.set_cons_succ])
      refine wpAnyH_ready (rs := [15]) (by decide +kernel) (by simp) ?_
      refine AllReadyH.cons rfl (fun K hK => ?_) AllReadyH.nil
      go_simp
      refine (HPa.out _).mono ?_
      rintro e wn ⟨rfl, hbn⟩
      go_wp2_with fail
      refine hK.out _ _ (below_of hcur hbn) (fun _ => ?_)
      clear hK K
      replace hcur := below_of hcur hbn
      clear hbn
      (try simp only [Act.put, List.getElem_toArray, List.getElem_cons_zero, List.getElem_cons_succ, List.setIfInBounds_toArray, List.set_cons_zero, List.set_cons_succ])
      refine wpAnyH_ready (rs := [17]) (by decide +kernel) (by simp) ?_
      refine AllReadyH.cons rfl (fun K hK => ?_) AllReadyH.nil
      go_simp
      refine (HPb.out _).mono ?_
      rintro e wn ⟨rfl, hbn⟩
      go_wp2_with fail
      refine hK.out _ _ (below_of hcur hbn) (fun _ => ?_)
      clear hK K
      replace hcur := below_of hcur hbn
      clear hbn
      (try simp only [Act.put, List.getElem_toArray, List.getElem_cons_zero, List.getElem_cons_succ, List.setIfInBounds_toArray, List.set_cons_zero, List.set_cons_succ])
      refine wpAnyH_take (i := 18) (v := ?_) rfl (by decide +kernel) (by decide +kernel) (by decide +kernel) (fun _ _ _ h => h) (Or.inl ⟨by rfl, ?hy⟩) hcur ?_
      case hy =>
        intro w1 hSw
        replace hSw : Below W.heap.size W w1 := hSw
        obtain ⟨x0, x1, x2, x3, x4⟩ := hn.up hSw hz
        simp only [] at x0 x1 x2 x3 x4
        go_simp
        (try with_reducible rfl)
      (try simp only [Act.put, List.getElem_toArray, List.getElem_cons_zero, List.getElem_cons_succ, List.setIfInBounds_toArray, List.set_cons_zero, List.set_cons_succ])
      refine wpAnyH_take (i := 19) (v := ?_) rfl (by decide +kernel) (by decide +kernel) (by decide +kernel) (fun _ _ _ h => h) (Or.inl ⟨by rfl, ?hy⟩) hcur ?_
      case hy =>
        intro w1 hSw
        replace hSw : Below W.heap.size W w1 := hSw
        obtain ⟨x0, x1, x2, x3, x4⟩ := hn.up hSw hz
        simp only [] at x0 x1 x2 x3 x4
        go_simp
        (try with_reducible rfl)
      (try simp only [Act.put, List.getElem_toArray, List.getElem_cons_zero, List.getElem_cons_succ, List.setIfInBounds_toArray, List.set_cons_zero, List.set_cons_succ])
      refine wpAnyH_take (i := 20) (v := ?_) rfl (by decide +kernel) (by decide +kernel) (by decide +kernel) (fun _ _ _ h => h) (Or.inl ⟨by rfl, ?hy⟩) hcur ?_
      case hy =>
        intro w1 hSw
        replace hSw : Below W.heap.size W w1 := hSw
        obtain ⟨x0, x1, x2, x3, x4⟩ := hn.up hSw hz
        simp only [] at x0 x1 x2 x3 x4
        go_simp
        (try with_reducible rfl)
      (try simp only [Act.put, List.getElem_toArray, List.getElem_cons_zero, List.getElem_cons_succ, List.setIfInBounds_toArray, List.set_cons_zero, List.set_cons_succ])
      refine wpAnyH_take (i := 21) (v := ?_) rfl (by decide +kernel) (by decide +kernel) (by decide +kernel) (fun _ _ _ h => h) (Or.inl ⟨by rfl, ?hy⟩) hcur ?_
      case hy =>
        intro w1 hSw
        replace hSw : Below W.heap.size W w1 := hSw
        obtain ⟨x0, x1, x2, x3, x4⟩ := hn.up hSw hz
        simp only [] at x0 x1 x2 x3 x4
        go_simp
        (try with_reducible rfl)
      (try simp only [Act.put, List.getElem_toArray, List.getElem_cons_zero, List.getElem_cons_succ, List.setIfInBounds_toArray, List.set_cons_zero, List.set_cons_succ])
      refine wpAnyH_take (i := 23) (v := ?_) rfl (by decide +kernel) (by decide +kernel) (by decide +kernel) (fun _ _ _ h => h) (Or.inl ⟨by rfl, ?hy⟩) hcur ?_
      case hy =>
        intro w1 hSw
        replace hSw : Below W.heap.size W w1 := hSw
        obtain ⟨x0, x1, x2, x3, x4⟩ := hn.up hSw hz
        simp only [] at x0 x1 x2 x3 x4
        go_simp
        (try with_reducible rfl)
      (try simp only [Act.put, List.getElem_toArray, List.getElem_cons_zero, List.getElem_cons_succ, List.setIfInBounds_toArray, List.set_cons_zero, List.set_cons_succ])
      refine wpAnyH_ready (rs := [22]) (by decide +kernel) (by simp) ?_
      refine AllReadyH.cons rfl (fun K hK => ?_) AllReadyH.nil
      go_simp
      refine (HRa.out _).mono ?_
      rintro e wn ⟨rfl, hbn⟩
      go_wp2_with fail
      refine hK.out _ _ (below_of hcur hbn) (fun _ => ?_)
      clear hK K
      replace hcur := below_of hcur hbn
      clear hbn
      (try simp only [Act.put, List.getElem_toArray, List.getElem_cons_zero, List.getElem_cons_succ, List.setIfInBounds_toArray, List.set_cons_zero, List.set_cons_succ])
      refine wpAnyH_ready (rs := [24]) (by decide +kernel) (by simp) ?_
      refine AllReadyH.cons rfl (fun K hK => ?_) AllReadyH.nil
      go_simp
      refine (HRb.out _).mono ?_
      rintro e wn ⟨rfl, hbn⟩
      go_wp2_with fail
      refine hK.out _ _ (below_of hcur hbn) (fun _ => ?_)
      clear hK K
      replace hcur := below_of hcur hbn
      clear hbn
      (try simp only [Act.put, List.getElem_toArray, List.getElem_cons_zero, List.getElem_cons_succ, List.setIfInBounds_toArray, List.set_cons_zero, List.set_cons_succ])
      refine wpAnyH_take (i := 25) (v := ?_) rfl (by decide +kernel) (by decide +kernel) (by decide +kernel) (fun _ _ _ h => h) (Or.inl ⟨by rfl, ?hy⟩) hcur ?_
      case hy =>
        intro w1 hSw
        replace hSw : Below W.heap.size W w1 := hSw
        obtain ⟨x0, x1, x2, x3, x4⟩ := hn.up hSw hz
        simp only [] at x0 x1 x2 x3 x4
        go_simp
        (try with_reducible rfl)
      (try simp only [Act.put, List.getElem_toArray, List.getElem_cons_zero, List.getElem_cons_succ, List.setIfInBounds_toArray, List.set_cons_zero, List.set_cons_succ])
      refine wpAnyH_take (i := 26) (v := ?_) rfl (by decide +kernel) (by decide +kernel) (by decide +kernel) (fun _ _ _ h => h) (Or.inl ⟨by rfl, ?hy⟩) hcur ?_
      case hy =>
        intro w1 hSw
        replace hSw : Below W.heap.size W w1 := hSw
        obtain ⟨x0, x1, x2, x3, x4⟩ := hn.up hSw hz
        simp only [] at x0 x1 x2 x3 x4
        go_simp
        (try with_reducible rfl)
      (try simp only [Act.put, List.getElem_toArray, List.getElem_cons_zero, List.getElem_cons_succ, List.setIfInBounds_toArray, List.set_cons_zero, List.set_cons_succ])
      refine wpAnyH_take (i := 27) (v := ?_) rfl (by decide +kernel) (by decide +kernel) (by decide +kernel) (fun _ _ _ h => h) (Or.inl ⟨by rfl, ?hy⟩) hcur ?_
      case hy =>
        intro w1 hSw
        replace hSw : Below W.heap.size W w1 := hSw
        obtain ⟨x0, x1, x2, x3, x4⟩ := hn.up hSw hz
        simp only [] at x0 x1 x2 x3 x4
        go_simp
        (try with_reducible rfl)
      (try simp only [Act.put, List.getElem_toArray, List.getElem_cons_zero, List.getElem_cons_succ, List.setIfInBounds_toArray, List.set_cons_zero, List.set_cons_succ])
      refine wpAnyH_take (i := 28) (v := ?_) rfl (by decide +kernel) (by decide +kernel) (by decide +kernel) (fun _ _ _ h => h) (Or.inl ⟨by rfl, ?hy⟩) hcur ?_
      case hy =>
        intro w1 hSw
        replace hSw : Below W.heap.size W w1 := hSw
        obtain ⟨x0, x1, x2, x3, x4⟩ := hn.up hSw hz
        simp only [] at x0 x1 x2 x3 x4
        go_simp
        (try with_reducible rfl)
      (try simp only [Act.put, List.getElem_toArray, List.getElem_cons_zero, List.getElem_cons_succ, List.setIfInBounds_toArray, List.set_cons_zero, List.set_cons_succ])
      refine wpAnyH_take (i := 29) (v := ?_) rfl (by decide +kernel) (by decide +kernel) (by decide +kernel) (fun _ _ _ h => h) (Or.inl ⟨by rfl, ?hy⟩) hcur ?_
      case hy =>
        intro w1 hSw
        replace hSw : Below W.heap.size W w1 := hSw
        obtain ⟨x0, x1, x2, x3, x4⟩ := hn.up hSw hz
        simp only [] at x0 x1 x2 x3 x4
        go_simp
        (try with_reducible rfl)
      (try simp only [Act.put, List.getElem_toArray, List.getElem_cons_zero, List.getElem_cons_succ, List.setIfInBounds_toArray, List.set_cons_zero, List.set_cons_succ])
      refine wpAnyH_take (i := 31) (v := ?_) rfl (by decide +kernel) (by decide +kernel) (by decide +kernel) (fun _ _ _ h => h) (Or.inl ⟨by rfl, ?hy⟩) hcur ?_
      case hy =>
        intro w1 hSw
        replace hSw : Below W.heap.size W w1 := hSw
        obtain ⟨x0, x1, x2, x3, x4⟩ := hn.up hSw hz
        simp only [] at x0 x1 x2 x3 x4
        go_simp
        (try with_reducible rfl)
      (try simp only [Act.put, List.getElem_toArray, List.getElem_cons_zero, List.getElem_cons_succ, List.setIfInBounds_toArray, List.set_cons_zero, List.set_cons_succ])
      refine wpAnyH_take (i := 32) (v := ?_) rfl (by decide +kernel) (by decide +kernel) (by decide +kernel) (fun _ _ _ h => h) (Or.inl ⟨by rfl, ?hy⟩) hcur ?_
      case hy =>
        intro w1 hSw
        replace hSw : Below W.heap.size W w1 := hSw
        obtain ⟨x0, x1, x2, x3, x4⟩ := hn.up hSw hz
        simp only [] at x0 x1 x2 x3 x4
        go_simp
        (try with_reducible rfl)
      (try simp only [Act.put, List.getElem_toArray, List.getElem_cons_zero, List.getElem_cons_succ, List.setIfInBounds_toArray, List.set_cons_zero, List.set_cons_succ])
      refine wpAnyH_ready (rs := [30]) (by decide +kernel) (by simp) ?_
      refine AllReadyH.cons rfl (fun K hK => ?_) AllReadyH.nil
      go_simp
      refine (opname_any _ _).mono ?_
      rintro e wn ⟨rfl, hbn⟩
      go_wp2_with fail
      refine hK.out _ _ (below_of hcur hbn) (fun _ => ?_)
      clear hK K
      replace hcur := below_of hcur hbn
      clear hbn
      (try simp only [Act.put, List.getElem_toArray, List.getElem_cons_zero, List.getElem_cons_succ, List.setIfInBounds_toArray, List.set_cons_zero, List.set_cons_succ])
      refine wpAnyH_ready (rs := [33]) (by decide +kernel) (by simp) ?_
      refine AllReadyH.cons rfl (fun K hK => ?_) AllReadyH.nil
      go_simp
      refine (refname_any _ _).mono ?_
      rintro e wn ⟨rfl, hbn⟩
      go_wp2_with fail
      refine hK.out _ _ (below_of hcur hbn) (fun _ => ?_)
      clear hK K
      replace hcur := below_of hcur hbn
      clear hbn
      (try simp only [Act.put, List.getElem_toArray, List.getElem_cons_zero, List.getElem_cons_succ, List.setIfInBounds_toArray, List.set_cons_zero, List.set_cons_succ])
      refine wpAnyH_take (i := 34) (v := ?_) rfl (by decide +kernel) (by decide +kernel) (by decide +kernel) (fun _ _ _ h => h) (Or.inl ⟨by rfl, ?hy⟩) hcur ?_
      case hy =>
        intro w1 hSw
        replace hSw : Below W.heap.size W w1 := hSw
        obtain ⟨x0, x1, x2, x3, x4⟩ := hn.up hSw hz
        simp only [] at x0 x1 x2 x3 x4
        go_simp
        (try with_reducible rfl)
      (try simp only [Act.put, List.getElem_toArray, List.getElem_cons_zero, List.getElem_cons_succ, List.setIfInBounds_toArray, List.set_cons_zero, List.set_cons_succ])
      refine wpAnyH_take (i := 35) (v := ?_) rfl (by decide +kernel) (by decide +kernel) (by decide +kernel) (fun _ _ _ h => h) (Or.inl ⟨by rfl, ?hy⟩) hcur ?_
      case hy =>
        intro w1 hSw
        replace hSw : Below W.heap.size W w1 := hSw
        obtain ⟨x0, x1, x2, x3, x4⟩ := hn.up hSw hz
        simp only [] at x0 x1 x2 x3 x4
        go_simp
        (try with_reducible rfl)
      (try simp only [Act.put, List.getElem_toArray, List.getElem_cons_zero, List.getElem_cons_succ, List.setIfInBounds_toArray, List.set_cons_zero, List.set_cons_succ])
      refine wpAnyH_take (i := 36) (v := ?_) rfl (by decide +kernel) (by decide +kernel) (by decide +kernel) (fun _ _ _ h => h) (Or.inl ⟨by rfl, ?hy⟩) hcur ?_
      case hy =>
        intro w1 hSw
        replace hSw : Below W.heap.size W w1 := hSw
        obtain ⟨x0, x1, x2, x3, x4⟩ := hn.up hSw hz
        simp only [] at x0 x1 x2 x3 x4
        go_simp
        (try with_reducible rfl)
      (try simp only [Act.put, List.getElem_toArray, List.getElem_cons_zero, List.getElem_cons_succ, List.setIfInBounds_toArray, List.set_cons_zero, List.set_cons_succ])
      refine wpAnyH_ready (rs := [37]) (by decide +kernel) (by simp) ?_
      refine AllReadyH.cons rfl (fun K hK => ?_) AllReadyH.nil
      go_simp
      refine (lives16_any _).mono ?_
      rintro e wn ⟨rfl, hbn⟩
      go_wp2_with fail
      refine hK.out _ _ (below_of hcur hbn) (fun _ => ?_)
      clear hK K
      replace hcur := below_of hcur hbn
      clear hbn
      (try simp only [Act.put, List.getElem_toArray, List.getElem_cons_zero, List.getElem_cons_succ, List.setIfInBounds_toArray, List.set_cons_zero, List.set_cons_succ])
      refine wpAnyH_take (i := 38) (v := ?_) rfl (by decide +kernel) (by decide +kernel) (by decide +kernel) (fun _ _ _ h => h) (Or.inl ⟨by rfl, ?hy⟩) hcur ?_
      case hy =>
        intro w1 hSw
        replace hSw : Below W.heap.size W w1 := hSw
        obtain ⟨x0, x1, x2, x3, x4⟩ := hn.up hSw hz
        simp only [] at x0 x1 x2 x3 x4
        go_simp
        (try with_reducible rfl)
      (try simp only [Act.put, List.getElem_toArray, List.getElem_cons_zero, List.getElem_cons_succ, List.setIfInBounds_toArray, List.set_cons_zero, List.set_cons_succ])
      refine wpAnyH_take (i := 39) (v := ?_) rfl (by decide +kernel) (by decide +kernel) (by decide +kernel) (fun _ _ _ h => h) (Or.inl ⟨by rfl, ?hy⟩) hcur ?_
      case hy =>
        intro w1 hSw
        replace hSw : Below W.heap.size W w1 := hSw
        obtain ⟨x0, x1, x2, x3, x4⟩ := hn.up hSw hz
        simp only [] at x0 x1 x2 x3 x4
        go_simp
        (try with_reducible rfl)
      (try simp only [Act.put, List.getElem_toArray, List.getElem_cons_zero, List.getElem_cons_succ, List.setIfInBounds_toArray, List.set_cons_zero, List.set_cons_succ])
      refine wpAnyH_done (by decide +kernel) ?_ _
      go_wp2_with fail
      go_ret
      exact ⟨rfl, below_of HB.out hcur⟩

end Go.Proofs.Ythbafbgnclpbpaa

namespace Go.Proofs.Ythbafbgnclpbpaa
open Go.RowKit

theorem wrongL_sub (l : List Nat) (f : Int) : ∃ k, wrongL l f = l.drop k := by
  unfold wrongL
  split
  · exact ⟨l.length, by simp⟩
  · exact ⟨0, rfl⟩
theorem sub_trans {l m n : List Nat} (h : ∃ k, m = l.drop k) (h2 : ∃ k, n = m.drop k) : ∃ k, n = l.drop k := by
  obtain ⟨k, rfl⟩ := h
  obtain ⟨j, rfl⟩ := h2
  exact ⟨k + j, by rw [List.drop_drop]⟩
theorem eyeTxt_sub (top : Int) (l : List Nat) (f : Int) : ∃ k, (eyeTxt top l f).2.1 = l.drop k := by
  unfold eyeTxt
  split
  · exact wrongL_sub l f
  · split
    · exact sub_trans (eyeUp_sub top.toNat l f) (wrongL_sub _ _)
    · exact sub_trans (eyeUp_sub top.toNat l f) ⟨_, rfl⟩
theorem eyeTxt_size (top : Int) (l : List Nat) (f : Int) : (eyeTxt top l f).1.size ≤ l.length := by
  unfold eyeTxt
  split
  · exact Nat.zero_le _
  · split
    · exact Nat.zero_le _
    · have h := drop_le (eyeUp_sub top.toNat l f)
      show (bstr _).size ≤ _
      rw [show ∀ m : List Nat, (bstr m).size = m.length from fun m => by simp [bstr, ByteArray.size], List.length_take]
      omega
theorem eyeUp_le (top : Nat) (l : List Nat) (f : Int) : (eyeUp top l f).1 ≤ top := by
  unfold eyeUp
  split
  · split
    · exact Nat.zero_le _
    · simp only []; omega
  · exact Nat.zero_le _

/-- What is read of the parts of an operation. -/
def rdNum (top : Nat) (u : Bool) (l : List Nat) (f : Int) : Nat × List Nat × Int := if u = true then eyeUp top l f else (0, l, f)
def rdTxt (u : Bool) (l : List Nat) (f : Int) : ByteArray × List Nat × Int := if u = true then eyeTxt 64 l f else (⟨#[]⟩, l, f)
def raw4 (tu : Bool) (k : Nat) (a b : ByteArray) (c : Nat) (l : List Nat) (f : Int) : OpD × List Nat × Int :=
  (⟨k, a, b, c, (rdNum 4096 tu l f).1⟩, (rdNum 4096 tu l f).2)
def raw3 (tu vu : Bool) (k : Nat) (a b : ByteArray) (l : List Nat) (f : Int) : OpD × List Nat × Int :=
  raw4 tu k a b (rdNum 18446744073709551615 vu l f).1 (rdNum 18446744073709551615 vu l f).2.1 (rdNum 18446744073709551615 vu l f).2.2
def raw2 (tu vu : Bool) (k : Nat) (a : ByteArray) (l : List Nat) (f : Int) : OpD × List Nat × Int :=
  raw3 tu vu k a (rdTxt tu l f).1 (rdTxt tu l f).2.1 (rdTxt tu l f).2.2
def raw1 (ku tu vu : Bool) (k : Nat) (l : List Nat) (f : Int) : OpD × List Nat × Int :=
  raw2 tu vu k (rdTxt ku l f).1 (rdTxt ku l f).2.1 (rdTxt ku l f).2.2
def raw0 (r : Nat × List Nat × Int) : OpD × List Nat × Int := raw1 (usesKey r.1) (usesTo r.1) (usesVal r.1) r.1 r.2.1 r.2.2
def opZero : OpD := ⟨0, ⟨#[]⟩, ⟨#[]⟩, 0, 0⟩
def opFin (r : OpD × List Nat × Int) : Bool × OpD × List Nat × Int :=
  if r.2.2 = 0 then (if opB r.1 = true then (true, r.1, r.2.1, 0) else (false, opZero, [], 10)) else (false, opZero, r.2.1, r.2.2)
/-- What is read as an operation: whether it is one, it, what is left, the fault. -/
def opRd (l : List Nat) (f : Int) : Bool × OpD × List Nat × Int := opFin (raw0 (eyeUp 10 l f))

theorem uses_kinds (k : Int) : (usesKey k = false ∧ usesTo k = false ∧ usesVal k = false) ∨ (usesKey k = true ∧ usesTo k = false ∧ usesVal k = false) ∨ (usesKey k = true ∧ usesTo k = false ∧ usesVal k = true) ∨ (usesKey k = true ∧ usesTo k = true ∧ usesVal k = false) := by
  unfold usesKey usesTo usesVal
  simp only [decide_eq_true_iff, decide_eq_false_iff_not]
  omega

/-- An eye that reads an operation: the eye, the result's variable, the operation's, what it uses. -/
structure Rs (w X : World) (ep : Nat) (sb : Option Nat) (l : List Nat) (f : Int) (g4 g5 : Nat) (o : OpD) (a b c : Bool) : Prop where
  eye : EyeAt X ep sb l f
  off : Off (fun k => k = ep) w X
  res : X.heap[w.heap.size]? = some (.cells opZ 58 (0, 0))
  box : X.heap[g4]? = some (.cells (opCells o) 58 (0, 0))
  used : X.heap[g5]? = some (.cells #[.bool a, .bool b, .bool c, .bool b] 110 (0, 0))
  n4 : w.heap.size < g4
  n5 : g4 < g5
  epw : ep < w.heap.size
  sbw : ∀ b, sb = some b → b < w.heap.size
  bytes : ∀ x ∈ l, x < 256
  len : l.length ≤ 1000000
  ok : OpOk o

theorem cells_set {w : World} {g i : Nat} {xs ys : Array Value} {T : TypeId} {v : Value} (h : w.heap[g]? = some (.cells xs T (0, 0))) (e : ys = xs.setIfInBounds i v) : (w.setCell ⟨g, i, none⟩ v).heap[g]? = some (.cells ys T (0, 0)) := by
  rw [e]
  simp [World.setCell, Array.getElem?_modify, h]
theorem cells_away {w : World} {g g' i : Nat} {v : Value} (h : g ≠ g') : (w.setCell ⟨g', i, none⟩ v).heap[g]? = w.heap[g]? := Below.heap_setCell w ⟨g', i, none⟩ v g (fun e => h e)

theorem Rs.step {w X X1 : World} {ep : Nat} {sb : Option Nat} {l l1 : List Nat} {f f1 : Int} {g4 g5 : Nat} {o o' : OpD} {a b c : Bool} (h : Rs w X ep sb l f g4 g5 o a b c)
    (hE : EyeAt X1 ep sb l1 f1) (hO : Off (fun k => k = ep) X X1) (hsub : ∃ k, l1 = l.drop k) (i : Nat) (v : Value) (ho : opCells o' = (opCells o).setIfInBounds i v) (hok : OpOk o') :
    Rs w (X1.setCell ⟨g4, i, none⟩ v) ep sb l1 f1 g4 g5 o' a b c := by
  have h4 : g4 < X.heap.size := (Array.getElem?_eq_some_iff.1 h.box).1
  have h5 : g5 < X.heap.size := (Array.getElem?_eq_some_iff.1 h.used).1
  have hn4 := h.n4
  have hn5 := h.n5
  have hep := h.epw
  have hs := Off.of_setCell X1 ⟨g4, i, none⟩ v
  refine ⟨hE.off hs (fun e => by simp only [] at e; omega) (fun b hb e => by have := h.sbw b hb; simp only [] at e; omega), (h.off.trans hO (fun _ _ e => e)).trans hs (fun j hj e => by simp only [] at e; omega), ?_, ?_, ?_, hn4, hn5, hep, h.sbw, drop_lt h.bytes hsub, Nat.le_trans (drop_le hsub) h.len, hok⟩
  · rw [cells_away (by omega)]
    exact (hO.block _ (by omega) (by omega)).trans h.res
  · exact cells_set ((hO.block _ h4 (by omega)).trans h.box) ho
  · rw [cells_away (by omega)]
    exact (hO.block _ h5 (by omega)).trans h.used

theorem uses_facts {w : World} {g : Nat} {a b c : Bool} (h : w.heap[g]? = some (.cells #[.bool a, .bool b, .bool c, .bool b] 110 (0, 0))) :
    w.cell? ⟨g, 0, none⟩ = some (.bool a) ∧ w.cell? ⟨g, 1, none⟩ = some (.bool b) ∧ w.cell? ⟨g, 2, none⟩ = some (.bool c) ∧ w.cell? ⟨g, 3, none⟩ = some (.bool b) := by
  simp [World.cell?, h]

/-- The result is laid into its variable. -/
theorem Rs.fin {w X W : World} {ep : Nat} {sb : Option Nat} {l l1 : List Nat} {f f1 : Int} {g4 g5 : Nat} {o : OpD} {a b c : Bool} (h : Rs w X ep sb l f g4 g5 o a b c) (hO : Off (fun k => k = ep) X W) (hE : EyeAt W ep sb l1 f1) (v0 v1 v2 v3 v4 : Value) :
    EyeAt (((((W.setCell ⟨w.heap.size, 0, none⟩ v0).setCell ⟨w.heap.size, 1, none⟩ v1).setCell ⟨w.heap.size, 2, none⟩ v2).setCell ⟨w.heap.size, 3, none⟩ v3).setCell ⟨w.heap.size, 4, none⟩ v4) ep sb l1 f1 ∧
    Off (fun k => k = ep) w (((((W.setCell ⟨w.heap.size, 0, none⟩ v0).setCell ⟨w.heap.size, 1, none⟩ v1).setCell ⟨w.heap.size, 2, none⟩ v2).setCell ⟨w.heap.size, 3, none⟩ v3).setCell ⟨w.heap.size, 4, none⟩ v4) := by
  have hep := h.epw
  have k := ((((Off.of_setCell W ⟨w.heap.size, 0, none⟩ v0).trans (Off.of_setCell _ ⟨w.heap.size, 1, none⟩ v1) (fun _ _ e => e)).trans (Off.of_setCell _ ⟨w.heap.size, 2, none⟩ v2) (fun _ _ e => e)).trans (Off.of_setCell _ ⟨w.heap.size, 3, none⟩ v3) (fun _ _ e => e)).trans (Off.of_setCell _ ⟨w.heap.size, 4, none⟩ v4) (fun _ _ e => e)
  exact ⟨hE.off k (fun e => by simp only [] at e; omega) (fun b hb e => by have := h.sbw b hb; simp only [] at e; omega), (h.off.trans hO (fun _ _ e => e)).trans k (fun j hj e => by simp only [] at e; omega)⟩

theorem Rs.at_ {w X X1 : World} {ep : Nat} {sb : Option Nat} {l : List Nat} {f : Int} {g4 g5 : Nat} {o : OpD} {a b c : Bool} (h : Rs w X ep sb l f g4 g5 o a b c) (hO : Off (fun k => k = ep) X X1) :
    X1.heap[w.heap.size]? = some (.cells opZ 58 (0, 0)) ∧ X1.heap[g4]? = some (.cells (opCells o) 58 (0, 0)) ∧ X1.heap[g5]? = some (.cells #[.bool a, .bool b, .bool c, .bool b] 110 (0, 0)) := by
  have h4 : g4 < X.heap.size := (Array.getElem?_eq_some_iff.1 h.box).1
  have h5 : g5 < X.heap.size := (Array.getElem?_eq_some_iff.1 h.used).1
  have hn4 := h.n4
  have hn5 := h.n5
  have hep := h.epw
  exact ⟨(hO.block _ (by omega) (by omega)).trans h.res, (hO.block _ h4 (by omega)).trans h.box, (hO.block _ h5 (by omega)).trans h.used⟩
theorem Rs.start {w X1 X3 : World} {ep : Nat} {sb : Option Nat} {l l1 : List Nat} {f1 : Int} {k : Nat} {a b c : Bool} (hn : (w.alloc (.cells opZ 58)).heap[w.heap.size]? = some (.cells opZ 58 (0, 0)))
    (hE : EyeAt X1 ep sb l1 f1) (hO : Off (fun k => k = ep) (w.alloc (.cells opZ 58)) X1) (hb : Below (X1.alloc (.cells (opCells ⟨k, ⟨#[]⟩, ⟨#[]⟩, 0, 0⟩) 58)).heap.size (X1.alloc (.cells (opCells ⟨k, ⟨#[]⟩, ⟨#[]⟩, 0, 0⟩) 58)) X3)
    (hep : ep < w.heap.size) (hsb : ∀ b, sb = some b → b < w.heap.size) (hx : ∀ x ∈ l, x < 256) (hl : l.length ≤ 1000000) (hsub : ∃ k, l1 = l.drop k) (hk : k ≤ 10) :
    Rs w (X3.alloc (.cells #[.bool a, .bool b, .bool c, .bool b] 110)) ep sb l1 f1 X1.heap.size X3.heap.size ⟨k, ⟨#[]⟩, ⟨#[]⟩, 0, 0⟩ a b c := by
  have s0 : (w.alloc (.cells opZ 58)).heap.size = w.heap.size + 1 := by simp
  have s1 : (X1.alloc (.cells (opCells ⟨k, ⟨#[]⟩, ⟨#[]⟩, 0, 0⟩) 58)).heap.size = X1.heap.size + 1 := by simp
  have s2 := hO.size
  have s3 := hb.size
  have b1 := below_alloc X1 (.cells (opCells ⟨k, ⟨#[]⟩, ⟨#[]⟩, 0, 0⟩) 58)
  have b3 := below_alloc X3 (.cells #[.bool a, .bool b, .bool c, .bool b] 110)
  have B := below_of (below_of b1 hb) b3
  refine ⟨hE.below B, ?_, ?_, ?_, heap_alloc_new X3 _, by omega, by omega, hep, hsb, drop_lt hx hsub, Nat.le_trans (drop_le hsub) hl, ⟨by simp only []; omega, Nat.zero_le _, Nat.zero_le _, by simp, by simp⟩⟩
  · exact ((Off.of_below (below_alloc w _) (fun k => k = ep)).trans hO (fun _ _ e => e)).trans (Off.of_below B (fun k => k = ep)) (fun _ _ e => e)
  · exact (B.block _ (by omega)).trans ((hO.block _ (by omega) (by omega)).trans hn)
  · exact (b3.block _ (by omega)).trans ((hb.block _ (by omega)).trans (heap_alloc_new X1 _))

theorem opFin_fault {o : OpD} {l : List Nat} {f : Int} (h : f ≠ 0) : opFin (o, l, f) = (false, opZero, l, f) := if_neg h
theorem opFin_bad {o : OpD} {l : List Nat} (h : opB o = false) : opFin (o, l, 0) = (false, opZero, [], 10) := (if_pos rfl).trans (if_neg (by rw [h]; exact Bool.false_ne_true))
theorem opFin_good {o : OpD} {l : List Nat} (h : opB o = true) : opFin (o, l, 0) = (true, o, l, 0) := (if_pos rfl).trans (if_pos h)

theorem spoil_any (ep : Nat) (sb : Option Nat) (l : List Nat) (f : Int) (w : World) (h : EyeAt w ep sb l f) (hx : ∀ x ∈ l, x < 256) (hl : l.length ≤ 1000000) :
    Calls Try.prog 95 #[.pointer (some ⟨ep, 0, none⟩)] w (EyeTo (.tuple #[]) w ep sb (wrongL l f) (wrongF f 10)) := by
  have Hup := Lib.hid (eyetext_any ep sb l f (-1) w h hx hl (by omega))
  have e : eyeTxt (-1) l f = (ByteArray.empty, wrongL l f, wrongF f 10) := if_pos (by omega)
  rw [e] at Hup
  clear e
  go_enter Try.func95, Try.ntmps95
  go_wp2_with fail
  refine Hup.out.mono ?_
  rintro e w1 ⟨rfl, hE⟩
  have HE := Lib.hid hE
  clear hE
  go_wp2_with fail
  first | go_end0 | refine bodyPost_ret (results_none rfl _ _ _) rfl ?_
  exact ⟨rfl, HE.out⟩

end Go.Proofs.Ythbafbgnclpbpaa

namespace Go.Proofs.Ythbafbgnclpbpaa
open Go.RowKit

def rawL (k : Nat) (a b : ByteArray) (d : Nat) (l : List Nat) (f : Int) : OpD × List Nat × Int := (⟨k, a, b, 0, d⟩, l, f)

set_option maxRecDepth 100000 in
set_option maxHeartbeats 16000000 in
theorem opread_any (ep : Nat) (sb : Option Nat) (l : List Nat) (f : Int) (w : World) (h : EyeAt w ep sb l f) (hx : ∀ x ∈ l, x < 256) (hl : l.length ≤ 1000000) (hsb : ∀ b, sb = some b → b < w.heap.size) :
    Calls Try.prog 61 #[.pointer (some ⟨ep, 0, none⟩)] w (EyeTo (.tuple #[.agg (opCells (opRd l f).2.1), .bool (opRd l f).1]) w ep sb (opRd l f).2.2.1 (opRd l f).2.2.2) := by
  have hrd : opRd l f = opFin (raw0 (eyeUp 10 l f)) := rfl
  generalize opRd l f = q at hrd ⊢
  have hb0 := below_alloc w (.cells opZ 58)
  have hn0 : (w.alloc (.cells opZ 58)).heap[w.heap.size]? = some (.cells opZ 58 (0, 0)) := heap_alloc_new w _
  have hnum := eyenum_any ep sb l f 10 (w.alloc (.cells opZ 58)) (h.below hb0) hx hl
  have hsub := eyeUp_sub 10 l f
  have hle := eyeUp_le 10 l f
  generalize eyeUp 10 l f = r at hrd hnum hsub hle
  obtain ⟨k, l1, f1⟩ := r
  simp only [] at hnum hsub hle
  have H0 := Lib.hid (And.intro hn0 (And.intro h.lt (And.intro hsb (And.intro hx (And.intro hl hsub)))))
  have HN := Lib.hid hnum
  have hw : IntKind.i64.wrap (k : Int) = (k : Int) := IntWalk.i64_in _ (by omega)
  replace hrd : q = opFin (raw1 (usesKey (k : Int)) (usesTo (k : Int)) (usesVal (k : Int)) k l1 f1) := hrd
  have hu := used_any (k : Int)
  have hk := uses_kinds (k : Int)
  simp only [usesV] at hu
  generalize usesKey (k : Int) = ku at hrd hu hk
  generalize usesTo (k : Int) = tu at hrd hu hk
  generalize usesVal (k : Int) = vu at hrd hu hk
  have HU := Lib.hid hu
  have HQ := Lib.hid hrd
  clear hrd hb0 hn0 hnum hsub h hsb hx hl hu
  simp only [opZ] at HN
  rcases hk with ⟨rfl, rfl, rfl⟩ | ⟨rfl, rfl, rfl⟩ | ⟨rfl, rfl, rfl⟩ | ⟨rfl, rfl, rfl⟩
  · go_enter Try.func61, Try.ntmps61
    go_wp2_with fail
    refine HN.out.mono ?_
    rintro e X1 ⟨rfl, hE, hO⟩
    have HE := Lib.hid (And.intro hE hO)
    clear hE hO HN
    go_wp2_with fail
    refine (HU.out _).mono ?_
    rintro e X3 ⟨rfl, hb3⟩
    have HB3 := Lib.hid hb3
    clear hb3
    go_upto_region 3 with fail
    have HS := Lib.hid (Rs.start (k := k) H0.out.1 HE.out.1 HE.out.2 HB3.out H0.out.2.1 H0.out.2.2.1 H0.out.2.2.2.1 H0.out.2.2.2.2.1 H0.out.2.2.2.2.2 hle : Rs w (X3.alloc (.cells #[.bool false, .bool false, .bool false, .bool false] 110)) ep sb l1 f1 X1.heap.size X3.heap.size ⟨k, ⟨#[]⟩, ⟨#[]⟩, 0, 0⟩ false false false)
    clear HE HB3 H0 hw
    generalize X3.alloc _ = X at HS ⊢
    generalize X3.heap.size = g5 at HS ⊢
    generalize X1.heap.size = g4 at HS ⊢
    replace HQ := Lib.hid (show q = opFin (⟨k, ⟨#[]⟩, ⟨#[]⟩, 0, 0⟩, l1, f1) from HQ.out)
    obtain ⟨u0, u1, u2, u3⟩ := uses_facts HS.out.used
    obtain ⟨c0, c1, c2, c3, c4, y0, y1, y2, y3, y4⟩ := op_facts HS.out.box
    obtain ⟨r0, r1, r2, r3, r4, q0, q1, q2, q3, q4⟩ := op_zero HS.out.res
    simp only [] at c0 c1 c2 c3 c4
    go_wp2_with fail
    refine (eyefault_any ep sb l1 f1 _ HS.out.eye).mono ?_
    rintro e Xf ⟨rfl, rfl⟩
    by_cases hf : f1 = 0
    · subst hf
      have HC := Lib.hid (fun W => opcheck_any (⟨k, ⟨#[]⟩, ⟨#[]⟩, 0, 0⟩) W HS.out.ok)
      have e := HQ.out
      rcases (show opB (⟨k, ⟨#[]⟩, ⟨#[]⟩, 0, 0⟩) = true ∨ opB (⟨k, ⟨#[]⟩, ⟨#[]⟩, 0, 0⟩) = false by cases opB (⟨k, ⟨#[]⟩, ⟨#[]⟩, 0, 0⟩) <;> simp) with hB | hB
      · rw [opFin_good hB] at e
        subst e
        have HC0 := Lib.hid (fun W => Calls.to (HC.out W) (congrArg (Value.int .i64) (if_pos hB)))
        clear HC hB HQ
        simp only [opCells] at HC0
        go_wp2_with fail
        refine (HC0.out _).mono ?_
        rintro e Xc ⟨rfl, hb⟩
        have hA := HS.out.at_ (Off.of_below hb (fun k => k = ep))
        have HF := Lib.hid (HS.out.fin (Off.of_below hb (fun k => k = ep)) (HS.out.eye.below hb))
        clear u0 u1 u2 u3 c0 c1 c2 c3 c4 y0 y1 y2 y3 y4 r0 r1 r2 r3 r4 q0 q1 q2 q3 q4 HC0 hb
        obtain ⟨c0, c1, c2, c3, c4, y0, y1, y2, y3, y4⟩ := op_facts hA.2.1
        obtain ⟨r0, r1, r2, r3, r4, q0, q1, q2, q3, q4⟩ := op_zero hA.1
        simp only [] at c0 c1 c2 c3 c4
        clear hA
        go_wp2_with fail
        exact bodyPost_ret (v := .tuple #[.agg (opCells (⟨k, ⟨#[]⟩, ⟨#[]⟩, 0, 0⟩)), .bool true]) (by simp [results, Try.results61, go_sem, opCells, *]) rfl ⟨rfl, HF.out _ _ _ _ _⟩
      · rw [opFin_bad hB] at e
        subst e
        have HC0 := Lib.hid (fun W => Calls.to (HC.out W) (congrArg (Value.int .i64) (if_neg (by rw [hB]; exact Bool.false_ne_true))))
        clear HC hB HQ
        simp only [opCells] at HC0
        go_wp2_with fail
        refine (HC0.out _).mono ?_
        rintro e Xc ⟨rfl, hb⟩
        have HB := Lib.hid hb
        clear u0 u1 u2 u3 c0 c1 c2 c3 c4 y0 y1 y2 y3 y4 r0 r1 r2 r3 r4 q0 q1 q2 q3 q4 HC0 hb
        go_wp2_with fail
        refine (spoil_any ep sb l1 0 _ (HS.out.eye.below HB.out) HS.out.bytes HS.out.len).mono ?_
        rintro e Xs ⟨rfl, hE, hO⟩
        rw [show wrongL l1 0 = [] from if_pos rfl, show wrongF 0 10 = 10 from if_pos rfl] at hE
        have hO2 := (Off.of_below HB.out (fun k => k = ep)).trans hO (fun _ _ e => e)
        have hA := HS.out.at_ hO2
        have HF := Lib.hid (HS.out.fin hO2 hE)
        clear HB hE hO hO2
        obtain ⟨r0, r1, r2, r3, r4, q0, q1, q2, q3, q4⟩ := op_zero hA.1
        clear hA
        go_wp2_with fail
        exact bodyPost_ret (v := .tuple #[.agg #[.int .i64 0, .string ⟨#[]⟩, .string ⟨#[]⟩, .int .u64 0, .int .i64 0], .bool false]) (by simp [results, Try.results61, go_sem, *]) rfl ⟨rfl, HF.out _ _ _ _ _⟩
    · have hfb : (f1 == (0 : Int)) = false := by simp [hf]
      have e := HQ.out
      rw [opFin_fault hf] at e
      subst e
      have HF := Lib.hid (HS.out.fin (Off.refl _ _) HS.out.eye (.int .i64 0) (.string ⟨#[]⟩) (.string ⟨#[]⟩) (.int .u64 0) (.int .i64 0))
      go_wp2_with fail
      exact bodyPost_ret (v := .tuple #[.agg #[.int .i64 0, .string ⟨#[]⟩, .string ⟨#[]⟩, .int .u64 0, .int .i64 0], .bool false]) (by simp [results, Try.results61, go_sem, *]) rfl ⟨rfl, HF.out⟩
  · go_enter Try.func61, Try.ntmps61
    go_wp2_with fail
    refine HN.out.mono ?_
    rintro e X1 ⟨rfl, hE, hO⟩
    have HE := Lib.hid (And.intro hE hO)
    clear hE hO HN
    go_wp2_with fail
    refine (HU.out _).mono ?_
    rintro e X3 ⟨rfl, hb3⟩
    have HB3 := Lib.hid hb3
    clear hb3
    go_upto_region 3 with fail
    have HS := Lib.hid (Rs.start (k := k) H0.out.1 HE.out.1 HE.out.2 HB3.out H0.out.2.1 H0.out.2.2.1 H0.out.2.2.2.1 H0.out.2.2.2.2.1 H0.out.2.2.2.2.2 hle : Rs w (X3.alloc (.cells #[.bool true, .bool false, .bool false, .bool false] 110)) ep sb l1 f1 X1.heap.size X3.heap.size ⟨k, ⟨#[]⟩, ⟨#[]⟩, 0, 0⟩ true false false)
    clear HE HB3 H0 hw
    generalize X3.alloc _ = X at HS ⊢
    generalize X3.heap.size = g5 at HS ⊢
    generalize X1.heap.size = g4 at HS ⊢
    obtain ⟨u0, u1, u2, u3⟩ := uses_facts HS.out.used
    go_wp2_with fail
    have HT := Lib.hid (eyetext_any ep sb l1 f1 64 _ HS.out.eye HS.out.bytes HS.out.len (by decide))
    have hsub := eyeTxt_sub 64 l1 f1
    have hsz := Nat.le_trans (eyeTxt_size 64 l1 f1) (Nat.le_trans HS.out.len (show 1000000 ≤ maxLen by decide))
    replace HQ := Lib.hid (show q = opFin (raw2 false false k (eyeTxt 64 l1 f1).1 (eyeTxt 64 l1 f1).2.1 (eyeTxt 64 l1 f1).2.2) from HQ.out)
    generalize eyeTxt 64 l1 f1 = r at HT HQ hsub hsz
    have HG := Lib.hid (And.intro hsub hsz)
    clear hsub hsz u0 u1 u2 u3
    refine HT.out.mono ?_
    rintro e X1 ⟨rfl, hE, hO⟩
    have HE := Lib.hid (And.intro hE hO)
    clear hE hO HT
    obtain ⟨t, l1, f1⟩ := r
    simp only [] at HQ
    obtain ⟨c0, c1, c2, c3, c4, y0, y1, y2, y3, y4⟩ := op_facts (HS.out.at_ HE.out.2).2.1
    simp only [] at c0 c1 c2 c3 c4
    go_upto_region 5 with fail
    have hsz := HG.out.2
    replace HS := Lib.hid (HS.out.step (o' := ⟨k, t, ⟨#[]⟩, 0, 0⟩) HE.out.1 HE.out.2 HG.out.1 1 (.string t) rfl ⟨HS.out.ok.kind, hsz, HS.out.ok.upto, HS.out.ok.val, HS.out.ok.limit⟩)
    clear c0 c1 c2 c3 c4 y0 y1 y2 y3 y4 HE HG hsz
    generalize World.setCell _ _ _ = X at HS ⊢
    replace HQ := Lib.hid (show q = opFin (⟨k, t, ⟨#[]⟩, 0, 0⟩, l1, f1) from HQ.out)
    obtain ⟨u0, u1, u2, u3⟩ := uses_facts HS.out.used
    obtain ⟨c0, c1, c2, c3, c4, y0, y1, y2, y3, y4⟩ := op_facts HS.out.box
    obtain ⟨r0, r1, r2, r3, r4, q0, q1, q2, q3, q4⟩ := op_zero HS.out.res
    simp only [] at c0 c1 c2 c3 c4
    go_wp2_with fail
    refine (eyefault_any ep sb l1 f1 _ HS.out.eye).mono ?_
    rintro e Xf ⟨rfl, rfl⟩
    by_cases hf : f1 = 0
    · subst hf
      have HC := Lib.hid (fun W => opcheck_any (⟨k, t, ⟨#[]⟩, 0, 0⟩) W HS.out.ok)
      have e := HQ.out
      rcases (show opB (⟨k, t, ⟨#[]⟩, 0, 0⟩) = true ∨ opB (⟨k, t, ⟨#[]⟩, 0, 0⟩) = false by cases opB (⟨k, t, ⟨#[]⟩, 0, 0⟩) <;> simp) with hB | hB
      · rw [opFin_good hB] at e
        subst e
        have HC0 := Lib.hid (fun W => Calls.to (HC.out W) (congrArg (Value.int .i64) (if_pos hB)))
        clear HC hB HQ
        simp only [opCells] at HC0
        go_wp2_with fail
        refine (HC0.out _).mono ?_
        rintro e Xc ⟨rfl, hb⟩
        have hA := HS.out.at_ (Off.of_below hb (fun k => k = ep))
        have HF := Lib.hid (HS.out.fin (Off.of_below hb (fun k => k = ep)) (HS.out.eye.below hb))
        clear u0 u1 u2 u3 c0 c1 c2 c3 c4 y0 y1 y2 y3 y4 r0 r1 r2 r3 r4 q0 q1 q2 q3 q4 HC0 hb
        obtain ⟨c0, c1, c2, c3, c4, y0, y1, y2, y3, y4⟩ := op_facts hA.2.1
        obtain ⟨r0, r1, r2, r3, r4, q0, q1, q2, q3, q4⟩ := op_zero hA.1
        simp only [] at c0 c1 c2 c3 c4
        clear hA
        go_wp2_with fail
        exact bodyPost_ret (v := .tuple #[.agg (opCells (⟨k, t, ⟨#[]⟩, 0, 0⟩)), .bool true]) (by simp [results, Try.results61, go_sem, opCells, *]) rfl ⟨rfl, HF.out _ _ _ _ _⟩
      · rw [opFin_bad hB] at e
        subst e
        have HC0 := Lib.hid (fun W => Calls.to (HC.out W) (congrArg (Value.int .i64) (if_neg (by rw [hB]; exact Bool.false_ne_true))))
        clear HC hB HQ
        simp only [opCells] at HC0
        go_wp2_with fail
        refine (HC0.out _).mono ?_
        rintro e Xc ⟨rfl, hb⟩
        have HB := Lib.hid hb
        clear u0 u1 u2 u3 c0 c1 c2 c3 c4 y0 y1 y2 y3 y4 r0 r1 r2 r3 r4 q0 q1 q2 q3 q4 HC0 hb
        go_wp2_with fail
        refine (spoil_any ep sb l1 0 _ (HS.out.eye.below HB.out) HS.out.bytes HS.out.len).mono ?_
        rintro e Xs ⟨rfl, hE, hO⟩
        rw [show wrongL l1 0 = [] from if_pos rfl, show wrongF 0 10 = 10 from if_pos rfl] at hE
        have hO2 := (Off.of_below HB.out (fun k => k = ep)).trans hO (fun _ _ e => e)
        have hA := HS.out.at_ hO2
        have HF := Lib.hid (HS.out.fin hO2 hE)
        clear HB hE hO hO2
        obtain ⟨r0, r1, r2, r3, r4, q0, q1, q2, q3, q4⟩ := op_zero hA.1
        clear hA
        go_wp2_with fail
        exact bodyPost_ret (v := .tuple #[.agg #[.int .i64 0, .string ⟨#[]⟩, .string ⟨#[]⟩, .int .u64 0, .int .i64 0], .bool false]) (by simp [results, Try.results61, go_sem, *]) rfl ⟨rfl, HF.out _ _ _ _ _⟩
    · have hfb : (f1 == (0 : Int)) = false := by simp [hf]
      have e := HQ.out
      rw [opFin_fault hf] at e
      subst e
      have HF := Lib.hid (HS.out.fin (Off.refl _ _) HS.out.eye (.int .i64 0) (.string ⟨#[]⟩) (.string ⟨#[]⟩) (.int .u64 0) (.int .i64 0))
      go_wp2_with fail
      exact bodyPost_ret (v := .tuple #[.agg #[.int .i64 0, .string ⟨#[]⟩, .string ⟨#[]⟩, .int .u64 0, .int .i64 0], .bool false]) (by simp [results, Try.results61, go_sem, *]) rfl ⟨rfl, HF.out⟩
  · go_enter Try.func61, Try.ntmps61
    go_wp2_with fail
    refine HN.out.mono ?_
    rintro e X1 ⟨rfl, hE, hO⟩
    have HE := Lib.hid (And.intro hE hO)
    clear hE hO HN
    go_wp2_with fail
    refine (HU.out _).mono ?_
    rintro e X3 ⟨rfl, hb3⟩
    have HB3 := Lib.hid hb3
    clear hb3
    go_upto_region 3 with fail
    have HS := Lib.hid (Rs.start (k := k) H0.out.1 HE.out.1 HE.out.2 HB3.out H0.out.2.1 H0.out.2.2.1 H0.out.2.2.2.1 H0.out.2.2.2.2.1 H0.out.2.2.2.2.2 hle : Rs w (X3.alloc (.cells #[.bool true, .bool false, .bool true, .bool false] 110)) ep sb l1 f1 X1.heap.size X3.heap.size ⟨k, ⟨#[]⟩, ⟨#[]⟩, 0, 0⟩ true false true)
    clear HE HB3 H0 hw
    generalize X3.alloc _ = X at HS ⊢
    generalize X3.heap.size = g5 at HS ⊢
    generalize X1.heap.size = g4 at HS ⊢
    obtain ⟨u0, u1, u2, u3⟩ := uses_facts HS.out.used
    go_wp2_with fail
    have HT := Lib.hid (eyetext_any ep sb l1 f1 64 _ HS.out.eye HS.out.bytes HS.out.len (by decide))
    have hsub := eyeTxt_sub 64 l1 f1
    have hsz := Nat.le_trans (eyeTxt_size 64 l1 f1) (Nat.le_trans HS.out.len (show 1000000 ≤ maxLen by decide))
    replace HQ := Lib.hid (show q = opFin (raw2 false true k (eyeTxt 64 l1 f1).1 (eyeTxt 64 l1 f1).2.1 (eyeTxt 64 l1 f1).2.2) from HQ.out)
    generalize eyeTxt 64 l1 f1 = r at HT HQ hsub hsz
    have HG := Lib.hid (And.intro hsub hsz)
    clear hsub hsz u0 u1 u2 u3
    refine HT.out.mono ?_
    rintro e X1 ⟨rfl, hE, hO⟩
    have HE := Lib.hid (And.intro hE hO)
    clear hE hO HT
    obtain ⟨t, l1, f1⟩ := r
    simp only [] at HQ
    obtain ⟨c0, c1, c2, c3, c4, y0, y1, y2, y3, y4⟩ := op_facts (HS.out.at_ HE.out.2).2.1
    simp only [] at c0 c1 c2 c3 c4
    go_upto_region 5 with fail
    have hsz := HG.out.2
    replace HS := Lib.hid (HS.out.step (o' := ⟨k, t, ⟨#[]⟩, 0, 0⟩) HE.out.1 HE.out.2 HG.out.1 1 (.string t) rfl ⟨HS.out.ok.kind, hsz, HS.out.ok.upto, HS.out.ok.val, HS.out.ok.limit⟩)
    clear c0 c1 c2 c3 c4 y0 y1 y2 y3 y4 HE HG hsz
    generalize World.setCell _ _ _ = X at HS ⊢
    obtain ⟨u0, u1, u2, u3⟩ := uses_facts HS.out.used
    go_wp2_with fail
    have HT := Lib.hid (eyenum_any ep sb l1 f1 18446744073709551615 _ HS.out.eye HS.out.bytes HS.out.len)
    have hsub := eyeUp_sub 18446744073709551615 l1 f1
    have hsz := eyeUp_le 18446744073709551615 l1 f1
    replace HQ := Lib.hid (show q = opFin (raw4 false k t ⟨#[]⟩ (eyeUp 18446744073709551615 l1 f1).1 (eyeUp 18446744073709551615 l1 f1).2.1 (eyeUp 18446744073709551615 l1 f1).2.2) from HQ.out)
    generalize eyeUp 18446744073709551615 l1 f1 = r at HT HQ hsub hsz
    have HG := Lib.hid (And.intro hsub hsz)
    clear hsub hsz u0 u1 u2 u3
    refine HT.out.mono ?_
    rintro e X1 ⟨rfl, hE, hO⟩
    have HE := Lib.hid (And.intro hE hO)
    clear hE hO HT
    obtain ⟨n, l1, f1⟩ := r
    simp only [] at HQ
    obtain ⟨c0, c1, c2, c3, c4, y0, y1, y2, y3, y4⟩ := op_facts (HS.out.at_ HE.out.2).2.1
    simp only [] at c0 c1 c2 c3 c4
    have hsz : n ≤ 18446744073709551615 := HG.out.2
    have hwn := True.intro
    go_upto_region 9 with fail
    replace HS := Lib.hid (HS.out.step (o' := ⟨k, t, ⟨#[]⟩, n, 0⟩) HE.out.1 HE.out.2 HG.out.1 3 (.int .u64 (n : Int)) rfl ⟨HS.out.ok.kind, HS.out.ok.key, HS.out.ok.upto, (show n < 18446744073709551616 by omega), HS.out.ok.limit⟩)
    clear c0 c1 c2 c3 c4 y0 y1 y2 y3 y4 HE HG hsz hwn
    generalize World.setCell _ _ _ = X at HS ⊢
    replace HQ := Lib.hid (show q = opFin (⟨k, t, ⟨#[]⟩, n, 0⟩, l1, f1) from HQ.out)
    obtain ⟨u0, u1, u2, u3⟩ := uses_facts HS.out.used
    obtain ⟨c0, c1, c2, c3, c4, y0, y1, y2, y3, y4⟩ := op_facts HS.out.box
    obtain ⟨r0, r1, r2, r3, r4, q0, q1, q2, q3, q4⟩ := op_zero HS.out.res
    simp only [] at c0 c1 c2 c3 c4
    go_wp2_with fail
    refine (eyefault_any ep sb l1 f1 _ HS.out.eye).mono ?_
    rintro e Xf ⟨rfl, rfl⟩
    by_cases hf : f1 = 0
    · subst hf
      have HC := Lib.hid (fun W => opcheck_any (⟨k, t, ⟨#[]⟩, n, 0⟩) W HS.out.ok)
      have e := HQ.out
      rcases (show opB (⟨k, t, ⟨#[]⟩, n, 0⟩) = true ∨ opB (⟨k, t, ⟨#[]⟩, n, 0⟩) = false by cases opB (⟨k, t, ⟨#[]⟩, n, 0⟩) <;> simp) with hB | hB
      · rw [opFin_good hB] at e
        subst e
        have HC0 := Lib.hid (fun W => Calls.to (HC.out W) (congrArg (Value.int .i64) (if_pos hB)))
        clear HC hB HQ
        simp only [opCells] at HC0
        go_wp2_with fail
        refine (HC0.out _).mono ?_
        rintro e Xc ⟨rfl, hb⟩
        have hA := HS.out.at_ (Off.of_below hb (fun k => k = ep))
        have HF := Lib.hid (HS.out.fin (Off.of_below hb (fun k => k = ep)) (HS.out.eye.below hb))
        clear u0 u1 u2 u3 c0 c1 c2 c3 c4 y0 y1 y2 y3 y4 r0 r1 r2 r3 r4 q0 q1 q2 q3 q4 HC0 hb
        obtain ⟨c0, c1, c2, c3, c4, y0, y1, y2, y3, y4⟩ := op_facts hA.2.1
        obtain ⟨r0, r1, r2, r3, r4, q0, q1, q2, q3, q4⟩ := op_zero hA.1
        simp only [] at c0 c1 c2 c3 c4
        clear hA
        go_wp2_with fail
        exact bodyPost_ret (v := .tuple #[.agg (opCells (⟨k, t, ⟨#[]⟩, n, 0⟩)), .bool true]) (by simp [results, Try.results61, go_sem, opCells, *]) rfl ⟨rfl, HF.out _ _ _ _ _⟩
      · rw [opFin_bad hB] at e
        subst e
        have HC0 := Lib.hid (fun W => Calls.to (HC.out W) (congrArg (Value.int .i64) (if_neg (by rw [hB]; exact Bool.false_ne_true))))
        clear HC hB HQ
        simp only [opCells] at HC0
        go_wp2_with fail
        refine (HC0.out _).mono ?_
        rintro e Xc ⟨rfl, hb⟩
        have HB := Lib.hid hb
        clear u0 u1 u2 u3 c0 c1 c2 c3 c4 y0 y1 y2 y3 y4 r0 r1 r2 r3 r4 q0 q1 q2 q3 q4 HC0 hb
        go_wp2_with fail
        refine (spoil_any ep sb l1 0 _ (HS.out.eye.below HB.out) HS.out.bytes HS.out.len).mono ?_
        rintro e Xs ⟨rfl, hE, hO⟩
        rw [show wrongL l1 0 = [] from if_pos rfl, show wrongF 0 10 = 10 from if_pos rfl] at hE
        have hO2 := (Off.of_below HB.out (fun k => k = ep)).trans hO (fun _ _ e => e)
        have hA := HS.out.at_ hO2
        have HF := Lib.hid (HS.out.fin hO2 hE)
        clear HB hE hO hO2
        obtain ⟨r0, r1, r2, r3, r4, q0, q1, q2, q3, q4⟩ := op_zero hA.1
        clear hA
        go_wp2_with fail
        exact bodyPost_ret (v := .tuple #[.agg #[.int .i64 0, .string ⟨#[]⟩, .string ⟨#[]⟩, .int .u64 0, .int .i64 0], .bool false]) (by simp [results, Try.results61, go_sem, *]) rfl ⟨rfl, HF.out _ _ _ _ _⟩
    · have hfb : (f1 == (0 : Int)) = false := by simp [hf]
      have e := HQ.out
      rw [opFin_fault hf] at e
      subst e
      have HF := Lib.hid (HS.out.fin (Off.refl _ _) HS.out.eye (.int .i64 0) (.string ⟨#[]⟩) (.string ⟨#[]⟩) (.int .u64 0) (.int .i64 0))
      go_wp2_with fail
      exact bodyPost_ret (v := .tuple #[.agg #[.int .i64 0, .string ⟨#[]⟩, .string ⟨#[]⟩, .int .u64 0, .int .i64 0], .bool false]) (by simp [results, Try.results61, go_sem, *]) rfl ⟨rfl, HF.out⟩
  · go_enter Try.func61, Try.ntmps61
    go_wp2_with fail
    refine HN.out.mono ?_
    rintro e X1 ⟨rfl, hE, hO⟩
    have HE := Lib.hid (And.intro hE hO)
    clear hE hO HN
    go_wp2_with fail
    refine (HU.out _).mono ?_
    rintro e X3 ⟨rfl, hb3⟩
    have HB3 := Lib.hid hb3
    clear hb3
    go_upto_region 3 with fail
    have HS := Lib.hid (Rs.start (k := k) H0.out.1 HE.out.1 HE.out.2 HB3.out H0.out.2.1 H0.out.2.2.1 H0.out.2.2.2.1 H0.out.2.2.2.2.1 H0.out.2.2.2.2.2 hle : Rs w (X3.alloc (.cells #[.bool true, .bool true, .bool false, .bool true] 110)) ep sb l1 f1 X1.heap.size X3.heap.size ⟨k, ⟨#[]⟩, ⟨#[]⟩, 0, 0⟩ true true false)
    clear HE HB3 H0 hw
    generalize X3.alloc _ = X at HS ⊢
    generalize X3.heap.size = g5 at HS ⊢
    generalize X1.heap.size = g4 at HS ⊢
    obtain ⟨u0, u1, u2, u3⟩ := uses_facts HS.out.used
    go_wp2_with fail
    have HT := Lib.hid (eyetext_any ep sb l1 f1 64 _ HS.out.eye HS.out.bytes HS.out.len (by decide))
    have hsub := eyeTxt_sub 64 l1 f1
    have hsz := Nat.le_trans (eyeTxt_size 64 l1 f1) (Nat.le_trans HS.out.len (show 1000000 ≤ maxLen by decide))
    replace HQ := Lib.hid (show q = opFin (raw2 true false k (eyeTxt 64 l1 f1).1 (eyeTxt 64 l1 f1).2.1 (eyeTxt 64 l1 f1).2.2) from HQ.out)
    generalize eyeTxt 64 l1 f1 = r at HT HQ hsub hsz
    have HG := Lib.hid (And.intro hsub hsz)
    clear hsub hsz u0 u1 u2 u3
    refine HT.out.mono ?_
    rintro e X1 ⟨rfl, hE, hO⟩
    have HE := Lib.hid (And.intro hE hO)
    clear hE hO HT
    obtain ⟨t, l1, f1⟩ := r
    simp only [] at HQ
    obtain ⟨c0, c1, c2, c3, c4, y0, y1, y2, y3, y4⟩ := op_facts (HS.out.at_ HE.out.2).2.1
    simp only [] at c0 c1 c2 c3 c4
    go_upto_region 5 with fail
    have hsz := HG.out.2
    replace HS := Lib.hid (HS.out.step (o' := ⟨k, t, ⟨#[]⟩, 0, 0⟩) HE.out.1 HE.out.2 HG.out.1 1 (.string t) rfl ⟨HS.out.ok.kind, hsz, HS.out.ok.upto, HS.out.ok.val, HS.out.ok.limit⟩)
    clear c0 c1 c2 c3 c4 y0 y1 y2 y3 y4 HE HG hsz
    generalize World.setCell _ _ _ = X at HS ⊢
    generalize hkt : t = t0 at HQ HS
    clear hkt t
    obtain ⟨u0, u1, u2, u3⟩ := uses_facts HS.out.used
    go_wp2_with fail
    have HT := Lib.hid (eyetext_any ep sb l1 f1 64 _ HS.out.eye HS.out.bytes HS.out.len (by decide))
    have hsub := eyeTxt_sub 64 l1 f1
    have hsz := Nat.le_trans (eyeTxt_size 64 l1 f1) (Nat.le_trans HS.out.len (show 1000000 ≤ maxLen by decide))
    replace HQ := Lib.hid (show q = opFin (raw3 true false k t0 (eyeTxt 64 l1 f1).1 (eyeTxt 64 l1 f1).2.1 (eyeTxt 64 l1 f1).2.2) from HQ.out)
    generalize eyeTxt 64 l1 f1 = r at HT HQ hsub hsz
    have HG := Lib.hid (And.intro hsub hsz)
    clear hsub hsz u0 u1 u2 u3
    refine HT.out.mono ?_
    rintro e X1 ⟨rfl, hE, hO⟩
    have HE := Lib.hid (And.intro hE hO)
    clear hE hO HT
    obtain ⟨t, l1, f1⟩ := r
    simp only [] at HQ
    obtain ⟨c0, c1, c2, c3, c4, y0, y1, y2, y3, y4⟩ := op_facts (HS.out.at_ HE.out.2).2.1
    simp only [] at c0 c1 c2 c3 c4
    go_upto_region 7 with fail
    have hsz := HG.out.2
    replace HS := Lib.hid (HS.out.step (o' := ⟨k, t0, t, 0, 0⟩) HE.out.1 HE.out.2 HG.out.1 2 (.string t) rfl ⟨HS.out.ok.kind, HS.out.ok.key, hsz, HS.out.ok.val, HS.out.ok.limit⟩)
    clear c0 c1 c2 c3 c4 y0 y1 y2 y3 y4 HE HG hsz
    generalize World.setCell _ _ _ = X at HS ⊢
    obtain ⟨u0, u1, u2, u3⟩ := uses_facts HS.out.used
    go_wp2_with fail
    have HT := Lib.hid (eyenum_any ep sb l1 f1 4096 _ HS.out.eye HS.out.bytes HS.out.len)
    have hsub := eyeUp_sub 4096 l1 f1
    have hsz := eyeUp_le 4096 l1 f1
    replace HQ := Lib.hid (show q = opFin (rawL k t0 t (eyeUp 4096 l1 f1).1 (eyeUp 4096 l1 f1).2.1 (eyeUp 4096 l1 f1).2.2) from HQ.out)
    generalize eyeUp 4096 l1 f1 = r at HT HQ hsub hsz
    have HG := Lib.hid (And.intro hsub hsz)
    clear hsub hsz u0 u1 u2 u3
    refine HT.out.mono ?_
    rintro e X1 ⟨rfl, hE, hO⟩
    have HE := Lib.hid (And.intro hE hO)
    clear hE hO HT
    obtain ⟨n, l1, f1⟩ := r
    simp only [] at HQ
    obtain ⟨c0, c1, c2, c3, c4, y0, y1, y2, y3, y4⟩ := op_facts (HS.out.at_ HE.out.2).2.1
    simp only [] at c0 c1 c2 c3 c4
    have hsz : n ≤ 4096 := HG.out.2
    have hwn := IntWalk.i64_in (n : Int) (by omega)
    go_upto_region 11 with fail
    replace HS := Lib.hid (HS.out.step (o' := ⟨k, t0, t, 0, n⟩) HE.out.1 HE.out.2 HG.out.1 4 (.int .i64 (n : Int)) rfl ⟨HS.out.ok.kind, HS.out.ok.key, HS.out.ok.upto, HS.out.ok.val, (show -9223372036854775808 ≤ (n : Int) ∧ (n : Int) ≤ 9223372036854775807 by omega)⟩)
    clear c0 c1 c2 c3 c4 y0 y1 y2 y3 y4 HE HG hsz hwn
    generalize World.setCell _ _ _ = X at HS ⊢
    replace HQ := Lib.hid (show q = opFin (⟨k, t0, t, 0, n⟩, l1, f1) from HQ.out)
    obtain ⟨u0, u1, u2, u3⟩ := uses_facts HS.out.used
    obtain ⟨c0, c1, c2, c3, c4, y0, y1, y2, y3, y4⟩ := op_facts HS.out.box
    obtain ⟨r0, r1, r2, r3, r4, q0, q1, q2, q3, q4⟩ := op_zero HS.out.res
    simp only [] at c0 c1 c2 c3 c4
    go_wp2_with fail
    refine (eyefault_any ep sb l1 f1 _ HS.out.eye).mono ?_
    rintro e Xf ⟨rfl, rfl⟩
    by_cases hf : f1 = 0
    · subst hf
      have HC := Lib.hid (fun W => opcheck_any (⟨k, t0, t, 0, n⟩) W HS.out.ok)
      have e := HQ.out
      rcases (show opB (⟨k, t0, t, 0, n⟩) = true ∨ opB (⟨k, t0, t, 0, n⟩) = false by cases opB (⟨k, t0, t, 0, n⟩) <;> simp) with hB | hB
      · rw [opFin_good hB] at e
        subst e
        have HC0 := Lib.hid (fun W => Calls.to (HC.out W) (congrArg (Value.int .i64) (if_pos hB)))
        clear HC hB HQ
        simp only [opCells] at HC0
        go_wp2_with fail
        refine (HC0.out _).mono ?_
        rintro e Xc ⟨rfl, hb⟩
        have hA := HS.out.at_ (Off.of_below hb (fun k => k = ep))
        have HF := Lib.hid (HS.out.fin (Off.of_below hb (fun k => k = ep)) (HS.out.eye.below hb))
        clear u0 u1 u2 u3 c0 c1 c2 c3 c4 y0 y1 y2 y3 y4 r0 r1 r2 r3 r4 q0 q1 q2 q3 q4 HC0 hb
        obtain ⟨c0, c1, c2, c3, c4, y0, y1, y2, y3, y4⟩ := op_facts hA.2.1
        obtain ⟨r0, r1, r2, r3, r4, q0, q1, q2, q3, q4⟩ := op_zero hA.1
        simp only [] at c0 c1 c2 c3 c4
        clear hA
        go_wp2_with fail
        exact bodyPost_ret (v := .tuple #[.agg (opCells (⟨k, t0, t, 0, n⟩)), .bool true]) (by simp [results, Try.results61, go_sem, opCells, *]) rfl ⟨rfl, HF.out _ _ _ _ _⟩
      · rw [opFin_bad hB] at e
        subst e
        have HC0 := Lib.hid (fun W => Calls.to (HC.out W) (congrArg (Value.int .i64) (if_neg (by rw [hB]; exact Bool.false_ne_true))))
        clear HC hB HQ
        simp only [opCells] at HC0
        go_wp2_with fail
        refine (HC0.out _).mono ?_
        rintro e Xc ⟨rfl, hb⟩
        have HB := Lib.hid hb
        clear u0 u1 u2 u3 c0 c1 c2 c3 c4 y0 y1 y2 y3 y4 r0 r1 r2 r3 r4 q0 q1 q2 q3 q4 HC0 hb
        go_wp2_with fail
        refine (spoil_any ep sb l1 0 _ (HS.out.eye.below HB.out) HS.out.bytes HS.out.len).mono ?_
        rintro e Xs ⟨rfl, hE, hO⟩
        rw [show wrongL l1 0 = [] from if_pos rfl, show wrongF 0 10 = 10 from if_pos rfl] at hE
        have hO2 := (Off.of_below HB.out (fun k => k = ep)).trans hO (fun _ _ e => e)
        have hA := HS.out.at_ hO2
        have HF := Lib.hid (HS.out.fin hO2 hE)
        clear HB hE hO hO2
        obtain ⟨r0, r1, r2, r3, r4, q0, q1, q2, q3, q4⟩ := op_zero hA.1
        clear hA
        go_wp2_with fail
        exact bodyPost_ret (v := .tuple #[.agg #[.int .i64 0, .string ⟨#[]⟩, .string ⟨#[]⟩, .int .u64 0, .int .i64 0], .bool false]) (by simp [results, Try.results61, go_sem, *]) rfl ⟨rfl, HF.out _ _ _ _ _⟩
    · have hfb : (f1 == (0 : Int)) = false := by simp [hf]
      have e := HQ.out
      rw [opFin_fault hf] at e
      subst e
      have HF := Lib.hid (HS.out.fin (Off.refl _ _) HS.out.eye (.int .i64 0) (.string ⟨#[]⟩) (.string ⟨#[]⟩) (.int .u64 0) (.int .i64 0))
      go_wp2_with fail
      exact bodyPost_ret (v := .tuple #[.agg #[.int .i64 0, .string ⟨#[]⟩, .string ⟨#[]⟩, .int .u64 0, .int .i64 0], .bool false]) (by simp [results, Try.results61, go_sem, *]) rfl ⟨rfl, HF.out⟩

end Go.Proofs.Ythbafbgnclpbpaa

namespace Go.Proofs.Ythbafbgnclpbpaa
open Go.RowKit

theorem owns_mono {w : World} {B B' : Nat} {e : TypeId} {s n : Nat} {v : Value} {xs : List Value} (h : w.ownsRow B e s v n xs) (hb : B' ≤ B) : w.ownsRow B' e s v n xs := by
  refine ⟨h.1, ?_⟩
  rcases h.2 with hn | ⟨g, cap, cur, rfl, hbg, rest⟩
  · exact .inl hn
  · exact .inr ⟨g, cap, cur, rfl, Nat.le_trans hb hbg, rest⟩

theorem txt_pos (s : ByteArray) : 0 < (dig s.size ++ tb s).length := by rw [List.length_append]; have := dig_pos s.size; omega

/-- The bytes of what a letter stands for. -/
def letB (o : OpD) (c : Nat) : List Nat :=
  if c = 107 then dig o.key.size ++ tb o.key else if c = 116 then dig o.upto.size ++ tb o.upto else if c = 118 then dig o.val else if c = 108 then dig o.limit.toNat else []
theorem opBytes_bad {o : OpD} (h : opB o = false) : opBytes o = [0] := by
  unfold opBytes
  rw [h]
  exact if_neg Bool.false_ne_true
theorem opBytes_let {o : OpD} (h : opB o = true) : opBytes o = dig o.kind.toNat ++ (tb (usesS o.kind)).flatMap (letB o) := by
  have hk := opB_kind h
  unfold opBytes
  rw [if_pos h]
  congr 1
  obtain ⟨kind, key, upto, val, limit⟩ := o
  simp only [] at hk
  clear h
  rcases kind_cases kind with rfl | rfl | rfl | rfl | rfl | rfl | rfl | rfl | rfl | rfl | h
  case inr.inr.inr.inr.inr.inr.inr.inr.inr.inr => omega
  all_goals simp [usesKey, usesTo, usesVal, usesS, tb, letB]

set_option maxRecDepth 100000 in
set_option maxHeartbeats 8000000 in
theorem refbytes16_any (o : OpD) (w : World) (ho : OpOk o) (hks : o.key.size ≤ 1000) (hts : o.upto.size ≤ 1000) :
    Calls Try.prog 64 #[.agg (opCells o)] w (Made (opBytes o) w) := by
  have hn := OpAt.new w o 58
  have hb := below_alloc w (.cells (opCells o) 58)
  have hz : w.heap.size < (w.alloc (.cells (opCells o) 58)).heap.size := by simp
  have HC := Lib.hid (fun W => refsound16_any o W ho)
  have HU := Lib.hid (refuses0_any o.kind)
  cases hB : opB o
  · rw [opBytes_bad hB]
    have HC0 := Lib.hid (fun W => Calls.to (HC.out W) (congrArg Value.bool hB))
    clear hB HC HU
    obtain ⟨kind, key, upto, val, limit⟩ := o
    simp only [opCells] at hn hb hz HC0 ⊢
    go_enter Try.func64, Try.ntmps64
    go_wp2_with fail
    generalize w.alloc _ = W1 at hn hb hz ⊢
    refine (HC0.out _).mono ?_
    rintro e W ⟨rfl, hbn⟩
    replace hb := below_of hb hbn
    replace hn := hn.up hbn hz
    replace hz := Nat.lt_of_lt_of_le hz hbn.size
    clear hbn
    obtain ⟨x0, x1, x2, x3, x4⟩ := id hn
    simp only [] at x0 x1 x2 x3 x4
    go_wp2_with fail
    refine (refnum_any 0 _ (by omega)).mono ?_
    rintro e W3 ⟨A, c, rfl, hown, hb3⟩
    rw [dig_small (show 0 < 128 by omega)] at hown
    have HE := Lib.hid (And.intro (owns_mono hown hb.size) (below_of hb hb3))
    clear hown hb3
    rw [dig_small (show 0 < 128 by omega)]
    go_wp2_with fail
    go_ret
    exact ⟨A, c, rfl, HE.out⟩
  · rw [opBytes_let hB]
    have HC0 := Lib.hid (fun W => Calls.to (HC.out W) (congrArg Value.bool hB))
    have hkd := opB_kind hB
    have HLm := Lib.hid (fun hm : 108 ∈ tb (usesS o.kind) => opB_limit hB ((uses_l o.kind).symm.trans (decide_eq_true hm)))
    have hsz := usesS_size o.kind
    have HV := Lib.hid ho.val
    generalize usesS o.kind = s at HU HLm hsz ⊢
    clear hB HC
    obtain ⟨kind, key, upto, val, limit⟩ := o
    simp only [opCells] at hn hb hz HC0 HU HLm HV hkd hks hts ⊢
    have hlt0 : ∀ c, letB ⟨kind, key, upto, val, limit⟩ c = if c = 107 then dig key.size ++ tb key else if c = 116 then dig upto.size ++ tb upto else if c = 118 then dig val else if c = 108 then dig limit.toNat else [] := fun _ => rfl
    generalize letB ⟨kind, key, upto, val, limit⟩ = lf at hlt0 ⊢
    have HLT := Lib.hid hlt0
    clear hlt0
    obtain ⟨kn, rfl⟩ := Int.eq_ofNat_of_zero_le (show 0 ≤ kind by omega)
    have hkn : kn ≤ 10 := by omega
    have hw : IntKind.u64.wrap (kn : Int) = (kn : Int) := by rw [IntKind.wrap_u64]; omega
    rw [Int.toNat_natCast]
    go_enter Try.func64, Try.ntmps64
    go_wp2_with fail
    generalize w.alloc _ = W1 at hn hb hz ⊢
    refine (HC0.out _).mono ?_
    rintro e W ⟨rfl, hbn⟩
    replace hb := below_of hb hbn
    replace hn := hn.up hbn hz
    replace hz := Nat.lt_of_lt_of_le hz hbn.size
    clear hbn
    obtain ⟨x0, x1, x2, x3, x4⟩ := id hn
    simp only [] at x0 x1 x2 x3 x4
    go_wp2_with fail
    refine (refnum_any kn _ (by omega)).mono ?_
    rintro e W3 ⟨A, c, rfl, hown, hb3⟩
    have hdl := dig_len kn
    have h3 := hn.up hb3 hz
    obtain ⟨x0, x1, x2, x3, x4⟩ := id h3
    simp only [] at x0 x1 x2 x3 x4
    have H3 := Lib.hid (And.intro hown (And.intro hb3 (And.intro hn (And.intro hz hb))))
    clear hown hb3 h3 hkd
    go_wp2_with fail
    refine (HU.out _).mono ?_
    rintro e W4 ⟨rfl, hb4⟩
    have H4 := Lib.hid (And.intro (owns_off H3.out.1 (Off.of_below hb4 (fun _ => False)) (fun _ _ q => q)) (below_of H3.out.2.1 hb4))
    clear x0 x1 x2 x3 x4 hb4
    generalize hL0 : dig kn = L0 at H4 hdl ⊢
    have HL0 := Lib.hid hL0
    clear hL0
    have hs2 : s.size ≤ 9223372036854775807 := by omega
    have hl := tb_length s
    go_wp2_with fail
    go_loopw [3, 5] (fun v i wr => ∃ (j : Nat) (V : Option Addr) (cv : Nat) (L : List Nat), i = .int .i64 j ∧ v = .slice V L.length cv ∧ Hid (j ≤ s.size ∧ L = L0 ++ ((tb s).take j).flatMap lf ∧ wr.ownsRow W.heap.size 5 1 (.slice V L.length cv) L.length (u8s L) ∧ Below W.heap.size W wr ∧ L.length ≤ 11 + 1011 * j)) (fun _ i _ => s.size - (intOf i).toNat)
    case atStart => exact ⟨0, A, c, L0, rfl, rfl, Nat.zero_le _, by simp, H4.out.1, H4.out.2, by omega⟩
    case round =>
      obtain ⟨j, V, cv, L, rfl, rfl, H⟩ := hrel
      by_cases hlt : j < s.size
      · have hat : (tb s)[j]'(by omega) = s[j].toNat := by simp [tb]; rfl
        have hT : ((tb s).take (j + 1)).flatMap lf = ((tb s).take j).flatMap lf ++ lf s[j].toNat := by rw [← hat]; exact flat_take lf (tb s) j (by omega)
        have hmem : s[j].toNat ∈ tb s := by rw [← hat]; exact List.getElem_mem _
        have HT := Lib.hid (And.intro hT hmem)
        obtain ⟨x0, x1, x2, x3, x4⟩ := id (H3.out.2.2.1.up H.out.2.2.2.1 H3.out.2.2.2.1)
        simp only [] at x0 x1 x2 x3 x4
        clear hT hmem hat
        by_cases h1 : s[j].toNat = 107
        · have t1 : ((s[j].toNat : Int) == 107) = true := by rw [beq_iff_eq]; omega
          have HL := Lib.hid ((HLT.out s[j].toNat).trans (if_pos h1))
          have H1 := Lib.hid h1
          clear h1
          go_wp2_with fail
          refine (reftext_any key _ (by omega)).mono ?_
          rintro e W5 ⟨A2, c2, rfl, hown2, hb5⟩
          have hlen5 := txt_len hks
          have hm0 := txt_pos key
          rw [← HL.out] at hown2 hlen5 hm0 ⊢
          generalize lf s[j].toNat = m at hown2 hlen5 HT hm0 ⊢
          have hL := H.out.2.2.2.2
          have ho3 := owns_off H.out.2.2.1 (Off.of_below hb5 (fun _ => False)) (fun _ _ q => q)
          have hB5 : W.heap.size ≤ W5.heap.size := Nat.le_trans H.out.2.2.2.1.size hb5.size
          have hj3 : j < 3 := by omega
          obtain ⟨A', c', W6, hrun, h2, h3, h5⟩ := want_push (c2 := c2) ho3 hB5 (Rd.of_own hown2) hm0 (by omega) 38
          have Hrun := Lib.hid hrun
          have HN := Lib.hid (And.intro h2 ((H.out.2.2.2.1.trans (hb5.mono H.out.2.2.2.1.size)).grown h3 hB5 (fun q hq => (ho3.lt q hq).1)))
          have HLn := Lib.hid (And.intro hlen5 hL)
          clear hrun h2 h3 h5 ho3 hB5 hown2 hb5 hlen5 hL hm0
          go_wp2_with (at_builtin; refine wpList_append_run rfl (.tmp 28) (.tmp 31) 38 rfl rfl rfl Hrun.out ?_)
          have hl2 : L.length + m.length = (L ++ m).length := by rw [List.length_append]
          rw [hl2]
          go_roundw
          case rel =>
            refine ⟨j + 1, A', c', L ++ m, by go_num, rfl, by omega, ?_, HN.out.1, HN.out.2, by rw [List.length_append]; have := HLn.out; omega⟩
            rw [HT.out.1, H.out.2.1, List.append_assoc]
          case measure => simp [intOf]; omega
        · have t1 : ((s[j].toNat : Int) == 107) = false := by rw [beq_eq_false_iff_ne]; omega
          by_cases h2 : s[j].toNat = 116
          · have t2 : ((s[j].toNat : Int) == 116) = true := by rw [beq_iff_eq]; omega
            have HL := Lib.hid ((HLT.out s[j].toNat).trans ((if_neg h1).trans (if_pos h2)))
            clear h1 h2
            go_wp2_with fail
            refine (reftext_any upto _ (by omega)).mono ?_
            rintro e W5 ⟨A2, c2, rfl, hown2, hb5⟩
            have hlen5 := txt_len hts
            have hm0 := txt_pos upto
            rw [← HL.out] at hown2 hlen5 hm0 ⊢
            generalize lf s[j].toNat = m at hown2 hlen5 HT hm0 ⊢
            have hL := H.out.2.2.2.2
            have ho3 := owns_off H.out.2.2.1 (Off.of_below hb5 (fun _ => False)) (fun _ _ q => q)
            have hB5 : W.heap.size ≤ W5.heap.size := Nat.le_trans H.out.2.2.2.1.size hb5.size
            have hj3 : j < 3 := by omega
            obtain ⟨A', c', W6, hrun, h2, h3, h5⟩ := want_push (c2 := c2) ho3 hB5 (Rd.of_own hown2) hm0 (by omega) 38
            have Hrun := Lib.hid hrun
            have HN := Lib.hid (And.intro h2 ((H.out.2.2.2.1.trans (hb5.mono H.out.2.2.2.1.size)).grown h3 hB5 (fun q hq => (ho3.lt q hq).1)))
            have HLn := Lib.hid (And.intro hlen5 hL)
            clear hrun h2 h3 h5 ho3 hB5 hown2 hb5 hlen5 hL hm0
            go_wp2_with (at_builtin; refine wpList_append_run rfl (.tmp 35) (.tmp 38) 38 rfl rfl rfl Hrun.out ?_)
            have hl2 : L.length + m.length = (L ++ m).length := by rw [List.length_append]
            rw [hl2]
            go_roundw
            case rel =>
              refine ⟨j + 1, A', c', L ++ m, by go_num, rfl, by omega, ?_, HN.out.1, HN.out.2, by rw [List.length_append]; have := HLn.out; omega⟩
              rw [HT.out.1, H.out.2.1, List.append_assoc]
            case measure => simp [intOf]; omega
          · have t2 : ((s[j].toNat : Int) == 116) = false := by rw [beq_eq_false_iff_ne]; omega
            by_cases h3 : s[j].toNat = 118
            · have t3 : ((s[j].toNat : Int) == 118) = true := by rw [beq_iff_eq]; omega
              have HL := Lib.hid ((HLT.out s[j].toNat).trans ((if_neg h1).trans ((if_neg h2).trans (if_pos h3))))
              clear h1 h2 h3
              go_wp2_with fail
              refine (refnum_any val _ HV.out).mono ?_
              rintro e W5 ⟨A2, c2, rfl, hown2, hb5⟩
              have hlen5 := Nat.le_trans (dig_len val) (show 11 ≤ 1011 by omega)
              have hm0 := dig_pos val
              rw [← HL.out] at hown2 hlen5 hm0 ⊢
              generalize lf s[j].toNat = m at hown2 hlen5 HT hm0 ⊢
              have hL := H.out.2.2.2.2
              have ho3 := owns_off H.out.2.2.1 (Off.of_below hb5 (fun _ => False)) (fun _ _ q => q)
              have hB5 : W.heap.size ≤ W5.heap.size := Nat.le_trans H.out.2.2.2.1.size hb5.size
              have hj3 : j < 3 := by omega
              obtain ⟨A', c', W6, hrun, h2, h3, h5⟩ := want_push (c2 := c2) ho3 hB5 (Rd.of_own hown2) hm0 (by omega) 38
              have Hrun := Lib.hid hrun
              have HN := Lib.hid (And.intro h2 ((H.out.2.2.2.1.trans (hb5.mono H.out.2.2.2.1.size)).grown h3 hB5 (fun q hq => (ho3.lt q hq).1)))
              have HLn := Lib.hid (And.intro hlen5 hL)
              clear hrun h2 h3 h5 ho3 hB5 hown2 hb5 hlen5 hL hm0
              go_wp2_with (at_builtin; refine wpList_append_run rfl (.tmp 42) (.tmp 45) 38 rfl rfl rfl Hrun.out ?_)
              have hl2 : L.length + m.length = (L ++ m).length := by rw [List.length_append]
              rw [hl2]
              go_roundw
              case rel =>
                refine ⟨j + 1, A', c', L ++ m, by go_num, rfl, by omega, ?_, HN.out.1, HN.out.2, by rw [List.length_append]; have := HLn.out; omega⟩
                rw [HT.out.1, H.out.2.1, List.append_assoc]
              case measure => simp [intOf]; omega
            · have t3 : ((s[j].toNat : Int) == 118) = false := by rw [beq_eq_false_iff_ne]; omega
              by_cases h4 : s[j].toNat = 108
              · have t4 : ((s[j].toNat : Int) == 108) = true := by rw [beq_iff_eq]; omega
                have HL := Lib.hid ((HLT.out s[j].toNat).trans ((if_neg h1).trans ((if_neg h2).trans ((if_neg h3).trans (if_pos h4)))))
                have hlm := HLm.out (by rw [← h4]; exact HT.out.2)
                obtain ⟨ln, rfl⟩ := Int.eq_ofNat_of_zero_le hlm.1
                have hln : ln ≤ 4096 := by omega
                have hw2 : IntKind.u64.wrap (ln : Int) = (ln : Int) := by rw [IntKind.wrap_u64]; omega
                rw [Int.toNat_natCast] at HL
                clear h1 h2 h3 h4 hlm
                go_wp2_with fail
                refine (refnum_any ln _ (by omega)).mono ?_
                rintro e W5 ⟨A2, c2, rfl, hown2, hb5⟩
                have hlen5 := Nat.le_trans (dig_len ln) (show 11 ≤ 1011 by omega)
                have hm0 := dig_pos ln
                rw [← HL.out] at hown2 hlen5 hm0 ⊢
                generalize lf s[j].toNat = m at hown2 hlen5 HT hm0 ⊢
                have hL := H.out.2.2.2.2
                have ho3 := owns_off H.out.2.2.1 (Off.of_below hb5 (fun _ => False)) (fun _ _ q => q)
                have hB5 : W.heap.size ≤ W5.heap.size := Nat.le_trans H.out.2.2.2.1.size hb5.size
                have hj3 : j < 3 := by omega
                obtain ⟨A', c', W6, hrun, h2, h3, h5⟩ := want_push (c2 := c2) ho3 hB5 (Rd.of_own hown2) hm0 (by omega) 38
                have Hrun := Lib.hid hrun
                have HN := Lib.hid (And.intro h2 ((H.out.2.2.2.1.trans (hb5.mono H.out.2.2.2.1.size)).grown h3 hB5 (fun q hq => (ho3.lt q hq).1)))
                have HLn := Lib.hid (And.intro hlen5 hL)
                clear hrun h2 h3 h5 ho3 hB5 hown2 hb5 hlen5 hL hm0
                go_wp2_with (at_builtin; refine wpList_append_run rfl (.tmp 49) (.tmp 53) 38 rfl rfl rfl Hrun.out ?_)
                have hl2 : L.length + m.length = (L ++ m).length := by rw [List.length_append]
                rw [hl2]
                go_roundw
                case rel =>
                  refine ⟨j + 1, A', c', L ++ m, by go_num, rfl, by omega, ?_, HN.out.1, HN.out.2, by rw [List.length_append]; have := HLn.out; omega⟩
                  rw [HT.out.1, H.out.2.1, List.append_assoc]
                case measure => simp [intOf]; omega
              · have t4 : ((s[j].toNat : Int) == 108) = false := by rw [beq_eq_false_iff_ne]; omega
                have HL := Lib.hid ((HLT.out s[j].toNat).trans ((if_neg h1).trans ((if_neg h2).trans ((if_neg h3).trans (if_neg h4)))))
                clear h1 h2 h3 h4
                go_wp2_with fail
                go_roundw
                case rel =>
                  refine ⟨j + 1, V, cv, L, by go_num, rfl, by omega, ?_, H.out.2.2.1, H.out.2.2.2.1, by have := H.out.2.2.2.2; omega⟩
                  rw [HT.out.1, HL.out, List.append_nil]
                  exact H.out.2.1
                case measure => simp [intOf]; omega
      · have hj : j = s.size := by have := H.out.1; omega
        have hH := H.out
        rw [hj, List.take_of_length_le (by omega)] at hH
        have H' := Lib.hid hH
        clear hH H
        go_wp2_with fail
        go_ret
        rw [HL0.out, ← H'.out.2.1]
        exact ⟨V, cv, rfl, owns_mono H'.out.2.2.1 H3.out.2.2.2.2.size, H3.out.2.2.2.2.trans (H'.out.2.2.2.1.mono H3.out.2.2.2.2.size)⟩

end Go.Proofs.Ythbafbgnclpbpaa

namespace Go.Proofs.Ythbafbgnclpbpaa
open Go.RowKit

theorem eyeTxt_top {s : ByteArray} {top : Int} (h : s.size ≤ 100000) (ht : (s.size : Int) ≤ top) (r : List Nat) : eyeTxt top (dig s.size ++ tb s ++ r) 0 = (s, r, 0) := by
  have e : eyeUp top.toNat (dig s.size ++ tb s ++ r) 0 = (s.size, tb s ++ r, 0) := by
    rw [List.append_assoc]
    exact eyeUp_dig (by omega) (by omega) _
  have h1 : (tb s).length = s.size := tb_length s
  unfold eyeTxt
  rw [e, if_neg (by omega), if_neg (by simp only [List.length_append]; omega)]
  simp only []
  rw [← h1, List.take_left, List.drop_left, bstr_tb]

theorem opB_key {o : OpD} (h : opB o = true) (hu : usesKey o.kind = true) : o.key.size ≤ 64 := by
  unfold opB at h
  rw [hu] at h
  simp only [Bool.and_eq_true, Bool.not_true, Bool.false_or] at h
  exact (of_decide_eq_true h.2.1).2
theorem opB_upto {o : OpD} (h : opB o = true) (hu : usesTo o.kind = true) : o.upto.size ≤ 64 := by
  unfold opB at h
  rw [hu] at h
  simp only [Bool.and_eq_true, Bool.not_true, Bool.false_or] at h
  exact (of_decide_eq_true h.2.2.1.1).2
theorem opB_plain {o : OpD} (h : opB o = true) : opB (plainO o) = true := by
  have hk : isKind o.kind = true := by unfold opB at h; simp only [Bool.and_eq_true] at h; exact h.1
  have e : plainO o = ⟨o.kind, if usesKey o.kind = true then o.key else ⟨#[]⟩, if usesTo o.kind = true then o.upto else ⟨#[]⟩, if usesVal o.kind = true then o.val else 0, if usesTo o.kind = true then o.limit else 0⟩ := by
    unfold plainO plainV
    rw [if_pos hk]
  rw [e]
  unfold opB at h ⊢
  simp only []
  have hs := uses_kinds o.kind
  rcases hs with ⟨e1, e2, e3⟩ | ⟨e1, e2, e3⟩ | ⟨e1, e2, e3⟩ | ⟨e1, e2, e3⟩
  all_goals
    rw [e1, e2] at h ⊢
    simpa using h

theorem opRd_good {o : OpD} (h : opB o = true) (ho : OpOk o) (R : List Nat) : opRd (opBytes o ++ R) 0 = (true, plainO o, R, 0) := by
  have hb := opB_kind h
  have hk : isKind o.kind = true := by unfold opB at h; simp only [Bool.and_eq_true] at h; exact h.1
  have hp := opB_plain h
  have hlim := opB_limit h
  have hkey := opB_key h
  have hupto := opB_upto h
  have hval := ho.val
  have e : plainO o = ⟨o.kind, if usesKey o.kind = true then o.key else ⟨#[]⟩, if usesTo o.kind = true then o.upto else ⟨#[]⟩, if usesVal o.kind = true then o.val else 0, if usesTo o.kind = true then o.limit else 0⟩ := by
    unfold plainO plainV
    rw [if_pos hk]
  rw [e] at hp ⊢
  have hby : opBytes o = dig o.kind.toNat ++ ((if usesKey o.kind = true then dig o.key.size ++ tb o.key else []) ++ ((if usesTo o.kind = true then dig o.upto.size ++ tb o.upto else []) ++ ((if usesVal o.kind = true then dig o.val else []) ++ (if usesTo o.kind = true then dig o.limit.toNat else [])))) := by
    unfold opBytes
    rw [if_pos h]
  rw [hby]
  clear hby e h hk ho
  obtain ⟨kind, key, upto, val, limit⟩ := o
  simp only [] at hp hlim hkey hupto hval hb ⊢
  obtain ⟨kn, rfl⟩ := Int.eq_ofNat_of_zero_le (show 0 ≤ kind by omega)
  have hk10 : kn ≤ 10 := by omega
  rw [Int.toNat_natCast, List.append_assoc]
  unfold opRd
  rw [eyeUp_dig (by omega) hk10]
  have hr : ∀ L : List Nat, raw0 (kn, L, 0) = raw1 (usesKey (kn : Int)) (usesTo (kn : Int)) (usesVal (kn : Int)) kn L 0 := fun _ => rfl
  rw [hr]
  have hs := uses_kinds (kn : Int)
  generalize usesKey (kn : Int) = ku at hs hp hkey ⊢
  generalize usesTo (kn : Int) = tu at hs hp hupto hlim ⊢
  generalize usesVal (kn : Int) = vu at hs hp ⊢
  rcases hs with ⟨rfl, rfl, rfl⟩ | ⟨rfl, rfl, rfl⟩ | ⟨rfl, rfl, rfl⟩ | ⟨rfl, rfl, rfl⟩
  · rw [show ((if false = true then dig key.size ++ tb key else []) ++ ((if false = true then dig upto.size ++ tb upto else []) ++ ((if false = true then dig val else []) ++ (if false = true then dig limit.toNat else []))) ++ R) = R from by simp]
    exact opFin_good (o := ⟨kn, ⟨#[]⟩, ⟨#[]⟩, 0, 0⟩) hp
  · have hks := hkey rfl
    rw [show ((if true = true then dig key.size ++ tb key else []) ++ ((if false = true then dig upto.size ++ tb upto else []) ++ ((if false = true then dig val else []) ++ (if false = true then dig limit.toNat else []))) ++ R) = dig key.size ++ tb key ++ R from by simp]
    show opFin (raw2 false false kn (eyeTxt 64 (dig key.size ++ tb key ++ R) 0).1 (eyeTxt 64 (dig key.size ++ tb key ++ R) 0).2.1 (eyeTxt 64 (dig key.size ++ tb key ++ R) 0).2.2) = _
    rw [eyeTxt_top (by omega) (by omega)]
    exact opFin_good (o := ⟨kn, key, ⟨#[]⟩, 0, 0⟩) hp
  · have hks := hkey rfl
    rw [show ((if true = true then dig key.size ++ tb key else []) ++ ((if false = true then dig upto.size ++ tb upto else []) ++ ((if true = true then dig val else []) ++ (if false = true then dig limit.toNat else []))) ++ R) = dig key.size ++ tb key ++ (dig val ++ R) from by simp]
    show opFin (raw2 false true kn (eyeTxt 64 (dig key.size ++ tb key ++ (dig val ++ R)) 0).1 (eyeTxt 64 (dig key.size ++ tb key ++ (dig val ++ R)) 0).2.1 (eyeTxt 64 (dig key.size ++ tb key ++ (dig val ++ R)) 0).2.2) = _
    rw [eyeTxt_top (by omega) (by omega)]
    show opFin (raw4 false kn key ⟨#[]⟩ (eyeUp 18446744073709551615 (dig val ++ R) 0).1 (eyeUp 18446744073709551615 (dig val ++ R) 0).2.1 (eyeUp 18446744073709551615 (dig val ++ R) 0).2.2) = _
    rw [eyeUp_dig hval (by omega)]
    exact opFin_good (o := ⟨kn, key, ⟨#[]⟩, val, 0⟩) hp
  · have hks := hkey rfl
    have hus := hupto rfl
    have hll := hlim rfl
    obtain ⟨ln, rfl⟩ := Int.eq_ofNat_of_zero_le hll.1
    have hln : ln ≤ 4096 := by omega
    rw [Int.toNat_natCast]
    rw [show ((if true = true then dig key.size ++ tb key else []) ++ ((if true = true then dig upto.size ++ tb upto else []) ++ ((if false = true then dig val else []) ++ (if true = true then dig ln else []))) ++ R) = dig key.size ++ tb key ++ (dig upto.size ++ tb upto ++ (dig ln ++ R)) from by simp]
    show opFin (raw2 true false kn (eyeTxt 64 (dig key.size ++ tb key ++ (dig upto.size ++ tb upto ++ (dig ln ++ R))) 0).1 (eyeTxt 64 (dig key.size ++ tb key ++ (dig upto.size ++ tb upto ++ (dig ln ++ R))) 0).2.1 (eyeTxt 64 (dig key.size ++ tb key ++ (dig upto.size ++ tb upto ++ (dig ln ++ R))) 0).2.2) = _
    rw [eyeTxt_top (by omega) (by omega)]
    show opFin (raw3 true false kn key (eyeTxt 64 (dig upto.size ++ tb upto ++ (dig ln ++ R)) 0).1 (eyeTxt 64 (dig upto.size ++ tb upto ++ (dig ln ++ R)) 0).2.1 (eyeTxt 64 (dig upto.size ++ tb upto ++ (dig ln ++ R)) 0).2.2) = _
    rw [eyeTxt_top (by omega) (by omega)]
    show opFin (⟨kn, key, upto, 0, ((eyeUp 4096 (dig ln ++ R) 0).1 : Int)⟩, (eyeUp 4096 (dig ln ++ R) 0).2) = _
    rw [eyeUp_dig (by omega) hln]
    exact opFin_good (o := ⟨kn, key, upto, 0, ln⟩) hp
theorem opRd_bad {o : OpD} (h : opB o = false) (R : List Nat) : opRd (opBytes o ++ R) 0 = (false, opZero, [], 10) := by
  rw [opBytes_bad h]
  unfold opRd
  have e := eyeUp_dig (n := 0) (top := 10) (by omega) (by omega) R
  rw [dig_small (by omega)] at e
  rw [e]
  show opFin ((⟨0, ⟨#[]⟩, ⟨#[]⟩, 0, 0⟩ : OpD), R, 0) = _
  exact opFin_bad (by decide +kernel)

end Go.Proofs.Ythbafbgnclpbpaa
