/- Contracts of package leafs: Next, Prev; of bowerref11: Leaf, Pairs, More. -/
import Derived.Test.YtcoiadncennhpaaLeafTl
namespace Go.Proofs.Ytcoiadncennhpaa
open Go.RowKit

theorem leaf_len {d : Nd} (h : leafB d = true) : d.keys.length ≤ 64 ∧ d.vals.length = d.keys.length ∧ Pl.rises d.keys = true := by
  have := (leafB_iff d).1 h
  exact ⟨this.2.2.1, this.2.2.2.2.2.1, this.2.2.2.1⟩
set_option maxRecDepth 100000 in
set_option maxHeartbeats 4000000 in
theorem leafnext_no (d : Nd) (k : ByteArray) (A B C : Option Addr) (ca cb cc : Nat) (w : World) (h : Lies w d A B C ca cb cc) (hleaf : leafB d = false) :
    Calls Try.prog 37 #[.agg (ndCells d A B C ca cb cc), .string k] w (Ret (pairV none) w) := by
  have H00 := Lib.hid h
  have HLf := Lib.hid (fun W hW => Ret.to (leaf_any d A B C ca cb cc W hW) (congrArg Value.bool hleaf))
  have hS := Lib.hid (Sx.start2 w (.cells (ndCells d A B C ca cb cc) 26) (.cells (prCells Pl.zeroP) 48))
  clear h hleaf
  unfold pairV
  obtain ⟨level, low, high, last, next, keys, vals, kids⟩ := d
  simp only [ndCells, prCells, Pl.zeroP, Option.getD_none, Option.isSome_none] at hS HLf ⊢
  go_enter Try.func37, Try.ntmps37
  go_upto_region 1 with fail
  generalize (w.alloc _).alloc _ = W at hS ⊢
  obtain ⟨x0, x1, x2, x3, x4, x5, x6, x7, f0, f1, f2, f3, f4, f5, f6, f7⟩ := nd_facts (hS.out.has 0 _ _ rfl).1
  clear f0 f1 f2 f3 f4 f5 f6 f7
  go_wp2_with fail
  refine (HLf.out _ (H00.out.up hS.out.below)).mono ?_
  rintro e wn ⟨rfl, hbn⟩
  clear x0 x1 x2 x3 x4 x5 x6 x7
  replace hS := Lib.hid (hS.out.call hbn)
  clear hbn
  obtain ⟨y0, y1, q0, q1⟩ := pr_facts (hS.out.has 1 _ _ rfl).1
  have HZ := Lib.hid ((hS.out.setc 1 rfl 0 (.string ⟨#[]⟩)).setc 1 rfl 1 (.int .u64 0)).below
  go_wp2_with fail
  exact bodyPost_ret (v := .tuple #[.agg #[.string ⟨#[]⟩, .int .u64 0], .bool false]) (by simp [results, Try.results37, go_sem, *]) rfl ⟨rfl, HZ.out⟩
set_option maxRecDepth 100000 in
set_option maxHeartbeats 4000000 in
theorem leafprev_no (d : Nd) (k : ByteArray) (all : Bool) (A B C : Option Addr) (ca cb cc : Nat) (w : World) (h : Lies w d A B C ca cb cc) (hleaf : leafB d = false) :
    Calls Try.prog 38 #[.agg (ndCells d A B C ca cb cc), .string k, .bool all] w (Ret (pairV none) w) := by
  have H00 := Lib.hid h
  have HLf := Lib.hid (fun W hW => Ret.to (leaf_any d A B C ca cb cc W hW) (congrArg Value.bool hleaf))
  have hS := Lib.hid (Sx.start2 w (.cells (ndCells d A B C ca cb cc) 26) (.cells (prCells Pl.zeroP) 48))
  clear h hleaf
  unfold pairV
  obtain ⟨level, low, high, last, next, keys, vals, kids⟩ := d
  simp only [ndCells, prCells, Pl.zeroP, Option.getD_none, Option.isSome_none] at hS HLf ⊢
  go_enter Try.func38, Try.ntmps38
  go_upto_region 1 with fail
  generalize (w.alloc _).alloc _ = W at hS ⊢
  obtain ⟨x0, x1, x2, x3, x4, x5, x6, x7, f0, f1, f2, f3, f4, f5, f6, f7⟩ := nd_facts (hS.out.has 0 _ _ rfl).1
  clear f0 f1 f2 f3 f4 f5 f6 f7
  go_wp2_with fail
  refine (HLf.out _ (H00.out.up hS.out.below)).mono ?_
  rintro e wn ⟨rfl, hbn⟩
  clear x0 x1 x2 x3 x4 x5 x6 x7
  replace hS := Lib.hid (hS.out.call hbn)
  clear hbn
  obtain ⟨y0, y1, q0, q1⟩ := pr_facts (hS.out.has 1 _ _ rfl).1
  have HZ := Lib.hid ((hS.out.setc 1 rfl 0 (.string ⟨#[]⟩)).setc 1 rfl 1 (.int .u64 0)).below
  go_wp2_with fail
  exact bodyPost_ret (v := .tuple #[.agg #[.string ⟨#[]⟩, .int .u64 0], .bool false]) (by simp [results, Try.results38, go_sem, *]) rfl ⟨rfl, HZ.out⟩
set_option maxRecDepth 100000 in
set_option maxHeartbeats 4000000 in
theorem leafnext_yes (d : Nd) (k : ByteArray) (A B C : Option Addr) (ca cb cc : Nat) (w : World) (h : Lies w d A B C ca cb cc) (hk : k.size ≤ maxLen) (hleaf : leafB d = true) :
    Calls Try.prog 37 #[.agg (ndCells d A B C ca cb cc), .string k] w (Ret (pairV (atO (Pl.zipP d.keys d.vals) (Pl.overAt d.keys k.data.toList : Nat))) w) := by
  have H00 := Lib.hid h
  have HLf := Lib.hid (fun W hW => Ret.to (leaf_any d A B C ca cb cc W hW) (congrArg Value.bool hleaf))
  have hS := Lib.hid (Sx.start2 w (.cells (ndCells d A B C ca cb cc) 26) (.cells (prCells Pl.zeroP) 48))
  have HFl := Lib.hid (fun W (hW : Lies W d A B C ca cb cc) => floor_any A d.keys.length ca d.keys k W hW.keys hW.fit hk hW.la)
  have HAt := Lib.hid (fun W hW => leafat_any d ((Pl.overAt d.keys k.data.toList : Nat) : Int) A B C ca cb cc W hW)
  have hxl : Pl.overAt d.keys k.data.toList ≤ 64 := by have := Pl.overAt_le d.keys k.data.toList; have := leaf_len hleaf; omega
  clear h hleaf
  unfold pairV at HAt ⊢
  generalize Pl.overAt d.keys k.data.toList = x at HFl HAt hxl ⊢
  generalize atO (Pl.zipP d.keys d.vals) (x : Int) = o at HAt ⊢
  generalize o.getD Pl.zeroP = p at HAt ⊢
  generalize o.isSome = ob at HAt ⊢
  obtain ⟨level, low, high, last, next, keys, vals, kids⟩ := d
  simp only [ndCells, prCells, Pl.zeroP] at hS HLf HAt ⊢
  simp only [] at HFl
  go_enter Try.func37, Try.ntmps37
  go_upto_region 1 with fail
  generalize (w.alloc _).alloc _ = W at hS ⊢
  obtain ⟨x0, x1, x2, x3, x4, x5, x6, x7, f0, f1, f2, f3, f4, f5, f6, f7⟩ := nd_facts (hS.out.has 0 _ _ rfl).1
  clear f0 f1 f2 f3 f4 f5 f6 f7
  go_wp2_with fail
  refine (HLf.out _ (H00.out.up hS.out.below)).mono ?_
  rintro e wn ⟨rfl, hbn⟩
  clear x0 x1 x2 x3 x4 x5 x6 x7
  replace hS := Lib.hid (hS.out.call hbn)
  clear hbn
  have hi2 : IntKind.i64.wrap (x : Int) = (x : Int) := IntWalk.i64_in _ (by omega)
  go_upto_region 3 with fail
  generalize wn = W3 at hS ⊢
  have hd := Below.drew (Below.refl W3.heap.size W3)
  replace hS := Lib.hid (hS.out.call hd)
  clear hd
  refine wp_region_held_drew (S := fun w' => Sx w.heap.size w w' [(w.heap.size, .cells #[.int .i64 level, .string low, .string high, .bool last, .int .i64 next, .slice A keys.length ca, .slice B vals.length cb, .slice C kids.length cc] 26)]) (by kernel_rfl) (hS.out.top 1) (fun hcur => ?_)
  (try dsimp only at hcur)
  generalize W3.drew = X at hS hcur ⊢
  refine wpAnyH_take (i := 0) (v := ?_) rfl (by decide +kernel) (by decide +kernel) (by decide +kernel) (fun _ _ _ h => h) (Or.inl ⟨by rfl, ?hy⟩) hcur ?_
  case hy =>
    intro w1 hSw
    (try dsimp only at hSw)
    obtain ⟨x0, x1, x2, x3, x4, x5, x6, x7, -, -, -, -, -, -, -, -⟩ := nd_facts (hSw.has 0 _ _ rfl).1
    go_simp
    (try with_reducible rfl)
  (try simp only [Act.put, List.getElem_toArray, List.getElem_cons_zero, List.getElem_cons_succ, List.setIfInBounds_toArray, List.set_cons_zero, List.set_cons_succ])
  refine wpAnyH_take (i := 1) (v := ?_) rfl (by decide +kernel) (by decide +kernel) (by decide +kernel) (fun _ _ _ h => h) (Or.inl ⟨by rfl, ?hy⟩) hcur ?_
  case hy =>
    intro w1 hSw
    (try dsimp only at hSw)
    obtain ⟨x0, x1, x2, x3, x4, x5, x6, x7, -, -, -, -, -, -, -, -⟩ := nd_facts (hSw.has 0 _ _ rfl).1
    go_simp
    (try with_reducible rfl)
  (try simp only [Act.put, List.getElem_toArray, List.getElem_cons_zero, List.getElem_cons_succ, List.setIfInBounds_toArray, List.set_cons_zero, List.set_cons_succ])
  refine wpAnyH_take (i := 2) (v := ?_) rfl (by decide +kernel) (by decide +kernel) (by decide +kernel) (fun _ _ _ h => h) (Or.inl ⟨by rfl, ?hy⟩) hcur ?_
  case hy =>
    intro w1 hSw
    (try dsimp only at hSw)
    obtain ⟨x0, x1, x2, x3, x4, x5, x6, x7, -, -, -, -, -, -, -, -⟩ := nd_facts (hSw.has 0 _ _ rfl).1
    go_simp
    (try with_reducible rfl)
  (try simp only [Act.put, List.getElem_toArray, List.getElem_cons_zero, List.getElem_cons_succ, List.setIfInBounds_toArray, List.set_cons_zero, List.set_cons_succ])
  refine wpAnyH_take (i := 3) (v := ?_) rfl (by decide +kernel) (by decide +kernel) (by decide +kernel) (fun _ _ _ h => h) (Or.inl ⟨by rfl, ?hy⟩) hcur ?_
  case hy =>
    intro w1 hSw
    (try dsimp only at hSw)
    obtain ⟨x0, x1, x2, x3, x4, x5, x6, x7, -, -, -, -, -, -, -, -⟩ := nd_facts (hSw.has 0 _ _ rfl).1
    go_simp
    (try with_reducible rfl)
  (try simp only [Act.put, List.getElem_toArray, List.getElem_cons_zero, List.getElem_cons_succ, List.setIfInBounds_toArray, List.set_cons_zero, List.set_cons_succ])
  refine wpAnyH_ready (rs := [4]) (by decide +kernel) (by simp) ?_
  refine AllReadyH.cons rfl (fun K hK => ?_) AllReadyH.nil
  go_simp
  refine (HFl.out _ (H00.out.up hS.out.below)).mono ?_
  rintro e X1 ⟨rfl, hbn⟩
  replace hS := Lib.hid (hS.out.call hbn)
  clear hbn
  go_wp2_with fail
  refine hK.out _ _ (hS.out.top 1) (fun hcur2 => ?_)
  clear hK K
  replace hcur := hcur2
  (try dsimp only at hcur)
  clear hcur2
  (try simp only [Act.put, List.getElem_toArray, List.getElem_cons_zero, List.getElem_cons_succ, List.setIfInBounds_toArray, List.set_cons_zero, List.set_cons_succ])
  refine wpAnyH_take (i := 5) (v := .int .i64 (x : Int)) rfl (by decide +kernel) (by decide +kernel) (by decide +kernel) (fun _ _ _ h => h) (Or.inl ⟨by rfl, ?hy⟩) hcur ?_
  case hy =>
    intro w1 hSw
    (try dsimp only at hSw)
    obtain ⟨x0, x1, x2, x3, x4, x5, x6, x7, -, -, -, -, -, -, -, -⟩ := nd_facts (hSw.has 0 _ _ rfl).1
    go_simp
    (try with_reducible rfl)
  (try simp only [Act.put, List.getElem_toArray, List.getElem_cons_zero, List.getElem_cons_succ, List.setIfInBounds_toArray, List.set_cons_zero, List.set_cons_succ])
  refine wpAnyH_ready (rs := [6]) (by decide +kernel) (by simp) ?_
  refine AllReadyH.cons rfl (fun K hK => ?_) AllReadyH.nil
  go_simp
  refine (HAt.out _ (H00.out.up hS.out.below)).mono ?_
  rintro e X2 ⟨rfl, hbn⟩
  replace hS := Lib.hid (hS.out.call hbn)
  clear hbn
  go_wp2_with fail
  refine hK.out _ _ (hS.out.top 1) (fun hcur2 => ?_)
  clear hK K
  replace hcur := hcur2
  (try dsimp only at hcur)
  clear hcur2
  (try simp only [Act.put, List.getElem_toArray, List.getElem_cons_zero, List.getElem_cons_succ, List.setIfInBounds_toArray, List.set_cons_zero, List.set_cons_succ])
  refine wpAnyH_take (i := 7) (v := ?_) rfl (by decide +kernel) (by decide +kernel) (by decide +kernel) (fun _ _ _ h => h) (Or.inl ⟨by rfl, ?hy⟩) hcur ?_
  case hy =>
    intro w1 hSw
    (try dsimp only at hSw)
    obtain ⟨x0, x1, x2, x3, x4, x5, x6, x7, -, -, -, -, -, -, -, -⟩ := nd_facts (hSw.has 0 _ _ rfl).1
    go_simp
    (try with_reducible rfl)
  (try simp only [Act.put, List.getElem_toArray, List.getElem_cons_zero, List.getElem_cons_succ, List.setIfInBounds_toArray, List.set_cons_zero, List.set_cons_succ])
  refine wpAnyH_take (i := 8) (v := ?_) rfl (by decide +kernel) (by decide +kernel) (by decide +kernel) (fun _ _ _ h => h) (Or.inl ⟨by rfl, ?hy⟩) hcur ?_
  case hy =>
    intro w1 hSw
    (try dsimp only at hSw)
    obtain ⟨x0, x1, x2, x3, x4, x5, x6, x7, -, -, -, -, -, -, -, -⟩ := nd_facts (hSw.has 0 _ _ rfl).1
    go_simp
    (try with_reducible rfl)
  (try simp only [Act.put, List.getElem_toArray, List.getElem_cons_zero, List.getElem_cons_succ, List.setIfInBounds_toArray, List.set_cons_zero, List.set_cons_succ])
  refine wpAnyH_ready (rs := [9]) (by decide +kernel) (by simp) ?_
  refine AllReadyH.cons rfl (fun K hK => ?_) AllReadyH.nil
  obtain ⟨y0, y1, q0, q1⟩ := pr_facts (hS.out.has 1 _ _ rfl).1
  go_simp
  have hZ := (hS.out.setc 1 rfl 0 (.string p.key)).setc 1 rfl 1 (.int .u64 p.val)
  simp only [List.set_cons_zero, List.set_cons_succ] at hZ
  clear y0 y1 q0 q1
  replace hS := Lib.hid hZ
  clear hZ
  refine hK.out _ _ (hS.out.top 1) (fun hcur2 => ?_)
  clear hK K
  replace hcur := hcur2
  (try dsimp only at hcur)
  clear hcur2
  (try simp only [Act.put, List.getElem_toArray, List.getElem_cons_zero, List.getElem_cons_succ, List.setIfInBounds_toArray, List.set_cons_zero, List.set_cons_succ])
  refine wpAnyH_take (i := 10) (v := ?_) rfl (by decide +kernel) (by decide +kernel) (by decide +kernel) (fun _ _ _ h => h) (Or.inl ⟨by rfl, ?hy⟩) hcur ?_
  case hy =>
    intro w1 hSw
    (try dsimp only at hSw)
    obtain ⟨x0, x1, x2, x3, x4, x5, x6, x7, -, -, -, -, -, -, -, -⟩ := nd_facts (hSw.has 0 _ _ rfl).1
    go_simp
    (try with_reducible rfl)
  (try simp only [Act.put, List.getElem_toArray, List.getElem_cons_zero, List.getElem_cons_succ, List.setIfInBounds_toArray, List.set_cons_zero, List.set_cons_succ])
  refine wpAnyH_done (by decide +kernel) ?_ _
  clear hcur
  generalize World.setCell _ _ _ = X4 at hS ⊢
  obtain ⟨y0, y1, q0, q1⟩ := pr_facts (hS.out.has 1 _ _ rfl).1
  go_wp2_with fail
  exact bodyPost_ret (v := .tuple #[.agg #[.string p.key, .int .u64 p.val], .bool ob]) (by simp [results, Try.results37, go_sem, *]) rfl ⟨rfl, hS.out.below⟩
set_option maxRecDepth 100000 in
set_option maxHeartbeats 4000000 in
theorem leafprev_yes (d : Nd) (k : ByteArray) (A B C : Option Addr) (ca cb cc : Nat) (w : World) (h : Lies w d A B C ca cb cc) (hk : k.size ≤ maxLen) (hleaf : leafB d = true) :
    Calls Try.prog 38 #[.agg (ndCells d A B C ca cb cc), .string k, .bool false] w (Ret (pairV (atO (Pl.zipP d.keys d.vals) ((Pl.findAt d.keys k.data.toList : Nat) - 1 : Int))) w) := by
  have H00 := Lib.hid h
  have HLf := Lib.hid (fun W hW => Ret.to (leaf_any d A B C ca cb cc W hW) (congrArg Value.bool hleaf))
  have hS := Lib.hid (Sx.start2 w (.cells (ndCells d A B C ca cb cc) 26) (.cells (prCells Pl.zeroP) 48))
  have HFl := Lib.hid (fun W (hW : Lies W d A B C ca cb cc) => below_any A d.keys.length ca d.keys k W hW.keys hW.fit hk hW.la)
  have HAt := Lib.hid (fun W hW => leafat_any d ((Pl.findAt d.keys k.data.toList : Nat) - 1 : Int) A B C ca cb cc W hW)
  have hxl : Pl.findAt d.keys k.data.toList ≤ 64 := by have := Pl.findAt_le d.keys k.data.toList; have := leaf_len hleaf; omega
  clear h hleaf
  unfold pairV at HAt ⊢
  generalize Pl.findAt d.keys k.data.toList = x at HFl HAt hxl ⊢
  generalize atO (Pl.zipP d.keys d.vals) ((x : Int) - 1) = o at HAt ⊢
  generalize o.getD Pl.zeroP = p at HAt ⊢
  generalize o.isSome = ob at HAt ⊢
  obtain ⟨level, low, high, last, next, keys, vals, kids⟩ := d
  simp only [ndCells, prCells, Pl.zeroP] at hS HLf HAt ⊢
  simp only [] at HFl
  go_enter Try.func38, Try.ntmps38
  go_upto_region 1 with fail
  generalize (w.alloc _).alloc _ = W at hS ⊢
  obtain ⟨x0, x1, x2, x3, x4, x5, x6, x7, f0, f1, f2, f3, f4, f5, f6, f7⟩ := nd_facts (hS.out.has 0 _ _ rfl).1
  clear f0 f1 f2 f3 f4 f5 f6 f7
  go_wp2_with fail
  refine (HLf.out _ (H00.out.up hS.out.below)).mono ?_
  rintro e wn ⟨rfl, hbn⟩
  clear x0 x1 x2 x3 x4 x5 x6 x7
  replace hS := Lib.hid (hS.out.call hbn)
  clear hbn
  go_upto_region 5 with fail
  generalize wn = W3 at hS ⊢
  have hd := Below.drew (Below.refl W3.heap.size W3)
  replace hS := Lib.hid (hS.out.call hd)
  clear hd
  refine wp_region_held_drew (S := fun w' => Sx w.heap.size w w' [(w.heap.size, .cells #[.int .i64 level, .string low, .string high, .bool last, .int .i64 next, .slice A keys.length ca, .slice B vals.length cb, .slice C kids.length cc] 26)]) (by kernel_rfl) (hS.out.top 1) (fun hcur => ?_)
  (try dsimp only at hcur)
  generalize W3.drew = X at hS hcur ⊢
  refine wpAnyH_take (i := 0) (v := ?_) rfl (by decide +kernel) (by decide +kernel) (by decide +kernel) (fun _ _ _ h => h) (Or.inl ⟨by rfl, ?hy⟩) hcur ?_
  case hy =>
    intro w1 hSw
    (try dsimp only at hSw)
    obtain ⟨x0, x1, x2, x3, x4, x5, x6, x7, -, -, -, -, -, -, -, -⟩ := nd_facts (hSw.has 0 _ _ rfl).1
    go_simp
    (try with_reducible rfl)
  (try simp only [Act.put, List.getElem_toArray, List.getElem_cons_zero, List.getElem_cons_succ, List.setIfInBounds_toArray, List.set_cons_zero, List.set_cons_succ])
  refine wpAnyH_take (i := 1) (v := ?_) rfl (by decide +kernel) (by decide +kernel) (by decide +kernel) (fun _ _ _ h => h) (Or.inl ⟨by rfl, ?hy⟩) hcur ?_
  case hy =>
    intro w1 hSw
    (try dsimp only at hSw)
    obtain ⟨x0, x1, x2, x3, x4, x5, x6, x7, -, -, -, -, -, -, -, -⟩ := nd_facts (hSw.has 0 _ _ rfl).1
    go_simp
    (try with_reducible rfl)
  (try simp only [Act.put, List.getElem_toArray, List.getElem_cons_zero, List.getElem_cons_succ, List.setIfInBounds_toArray, List.set_cons_zero, List.set_cons_succ])
  refine wpAnyH_take (i := 2) (v := ?_) rfl (by decide +kernel) (by decide +kernel) (by decide +kernel) (fun _ _ _ h => h) (Or.inl ⟨by rfl, ?hy⟩) hcur ?_
  case hy =>
    intro w1 hSw
    (try dsimp only at hSw)
    obtain ⟨x0, x1, x2, x3, x4, x5, x6, x7, -, -, -, -, -, -, -, -⟩ := nd_facts (hSw.has 0 _ _ rfl).1
    go_simp
    (try with_reducible rfl)
  (try simp only [Act.put, List.getElem_toArray, List.getElem_cons_zero, List.getElem_cons_succ, List.setIfInBounds_toArray, List.set_cons_zero, List.set_cons_succ])
  refine wpAnyH_take (i := 3) (v := ?_) rfl (by decide +kernel) (by decide +kernel) (by decide +kernel) (fun _ _ _ h => h) (Or.inl ⟨by rfl, ?hy⟩) hcur ?_
  case hy =>
    intro w1 hSw
    (try dsimp only at hSw)
    obtain ⟨x0, x1, x2, x3, x4, x5, x6, x7, -, -, -, -, -, -, -, -⟩ := nd_facts (hSw.has 0 _ _ rfl).1
    go_simp
    (try with_reducible rfl)
  (try simp only [Act.put, List.getElem_toArray, List.getElem_cons_zero, List.getElem_cons_succ, List.setIfInBounds_toArray, List.set_cons_zero, List.set_cons_succ])
  refine wpAnyH_ready (rs := [4]) (by decide +kernel) (by simp) ?_
  refine AllReadyH.cons rfl (fun K hK => ?_) AllReadyH.nil
  go_simp
  refine (HFl.out _ (H00.out.up hS.out.below)).mono ?_
  rintro e X1 ⟨rfl, hbn⟩
  replace hS := Lib.hid (hS.out.call hbn)
  clear hbn
  go_wp2_with fail
  refine hK.out _ _ (hS.out.top 1) (fun hcur2 => ?_)
  clear hK K
  replace hcur := hcur2
  (try dsimp only at hcur)
  clear hcur2
  (try simp only [Act.put, List.getElem_toArray, List.getElem_cons_zero, List.getElem_cons_succ, List.setIfInBounds_toArray, List.set_cons_zero, List.set_cons_succ])
  refine wpAnyH_ready (rs := [5]) (by decide +kernel) (by simp) ?_
  refine AllReadyH.cons rfl (fun K hK => ?_) AllReadyH.nil
  go_simp
  refine (HAt.out _ (H00.out.up hS.out.below)).mono ?_
  rintro e X2 ⟨rfl, hbn⟩
  replace hS := Lib.hid (hS.out.call hbn)
  clear hbn
  go_wp2_with fail
  refine hK.out _ _ (hS.out.top 1) (fun hcur2 => ?_)
  clear hK K
  replace hcur := hcur2
  (try dsimp only at hcur)
  clear hcur2
  (try simp only [Act.put, List.getElem_toArray, List.getElem_cons_zero, List.getElem_cons_succ, List.setIfInBounds_toArray, List.set_cons_zero, List.set_cons_succ])
  refine wpAnyH_take (i := 6) (v := ?_) rfl (by decide +kernel) (by decide +kernel) (by decide +kernel) (fun _ _ _ h => h) (Or.inl ⟨by rfl, ?hy⟩) hcur ?_
  case hy =>
    intro w1 hSw
    (try dsimp only at hSw)
    obtain ⟨x0, x1, x2, x3, x4, x5, x6, x7, -, -, -, -, -, -, -, -⟩ := nd_facts (hSw.has 0 _ _ rfl).1
    go_simp
    (try with_reducible rfl)
  (try simp only [Act.put, List.getElem_toArray, List.getElem_cons_zero, List.getElem_cons_succ, List.setIfInBounds_toArray, List.set_cons_zero, List.set_cons_succ])
  refine wpAnyH_take (i := 7) (v := ?_) rfl (by decide +kernel) (by decide +kernel) (by decide +kernel) (fun _ _ _ h => h) (Or.inl ⟨by rfl, ?hy⟩) hcur ?_
  case hy =>
    intro w1 hSw
    (try dsimp only at hSw)
    obtain ⟨x0, x1, x2, x3, x4, x5, x6, x7, -, -, -, -, -, -, -, -⟩ := nd_facts (hSw.has 0 _ _ rfl).1
    go_simp
    (try with_reducible rfl)
  (try simp only [Act.put, List.getElem_toArray, List.getElem_cons_zero, List.getElem_cons_succ, List.setIfInBounds_toArray, List.set_cons_zero, List.set_cons_succ])
  refine wpAnyH_ready (rs := [8]) (by decide +kernel) (by simp) ?_
  refine AllReadyH.cons rfl (fun K hK => ?_) AllReadyH.nil
  obtain ⟨y0, y1, q0, q1⟩ := pr_facts (hS.out.has 1 _ _ rfl).1
  go_simp
  have hZ := (hS.out.setc 1 rfl 0 (.string p.key)).setc 1 rfl 1 (.int .u64 p.val)
  simp only [List.set_cons_zero, List.set_cons_succ] at hZ
  clear y0 y1 q0 q1
  replace hS := Lib.hid hZ
  clear hZ
  refine hK.out _ _ (hS.out.top 1) (fun hcur2 => ?_)
  clear hK K
  replace hcur := hcur2
  (try dsimp only at hcur)
  clear hcur2
  (try simp only [Act.put, List.getElem_toArray, List.getElem_cons_zero, List.getElem_cons_succ, List.setIfInBounds_toArray, List.set_cons_zero, List.set_cons_succ])
  refine wpAnyH_take (i := 9) (v := ?_) rfl (by decide +kernel) (by decide +kernel) (by decide +kernel) (fun _ _ _ h => h) (Or.inl ⟨by rfl, ?hy⟩) hcur ?_
  case hy =>
    intro w1 hSw
    (try dsimp only at hSw)
    obtain ⟨x0, x1, x2, x3, x4, x5, x6, x7, -, -, -, -, -, -, -, -⟩ := nd_facts (hSw.has 0 _ _ rfl).1
    go_simp
    (try with_reducible rfl)
  (try simp only [Act.put, List.getElem_toArray, List.getElem_cons_zero, List.getElem_cons_succ, List.setIfInBounds_toArray, List.set_cons_zero, List.set_cons_succ])
  refine wpAnyH_done (by decide +kernel) ?_ _
  clear hcur
  generalize World.setCell _ _ _ = X4 at hS ⊢
  obtain ⟨y0, y1, q0, q1⟩ := pr_facts (hS.out.has 1 _ _ rfl).1
  go_wp2_with fail
  exact bodyPost_ret (v := .tuple #[.agg #[.string p.key, .int .u64 p.val], .bool ob]) (by simp [results, Try.results38, go_sem, *]) rfl ⟨rfl, hS.out.below⟩
set_option maxRecDepth 100000 in
set_option maxHeartbeats 4000000 in
theorem leaflast_yes (d : Nd) (k : ByteArray) (A B C : Option Addr) (ca cb cc : Nat) (w : World) (h : Lies w d A B C ca cb cc) (hleaf : leafB d = true) :
    Calls Try.prog 38 #[.agg (ndCells d A B C ca cb cc), .string k, .bool true] w (Ret (pairV (atO (Pl.zipP d.keys d.vals) ((d.keys.length : Nat) - 1 : Int))) w) := by
  have H00 := Lib.hid h
  have HLf := Lib.hid (fun W hW => Ret.to (leaf_any d A B C ca cb cc W hW) (congrArg Value.bool hleaf))
  have hS := Lib.hid (Sx.start2 w (.cells (ndCells d A B C ca cb cc) 26) (.cells (prCells Pl.zeroP) 48))
  have HAt := Lib.hid (fun W hW => leafat_any d ((d.keys.length : Nat) - 1 : Int) A B C ca cb cc W hW)
  have hxl : d.keys.length ≤ 64 := (leaf_len hleaf).1
  clear h hleaf
  unfold pairV at HAt ⊢
  generalize atO (Pl.zipP d.keys d.vals) ((d.keys.length : Int) - 1) = o at HAt ⊢
  generalize o.getD Pl.zeroP = p at HAt ⊢
  generalize o.isSome = ob at HAt ⊢
  obtain ⟨level, low, high, last, next, keys, vals, kids⟩ := d
  simp only [ndCells, prCells, Pl.zeroP] at hS HLf HAt ⊢
  simp only [] at hxl
  go_enter Try.func38, Try.ntmps38
  go_upto_region 1 with fail
  generalize (w.alloc _).alloc _ = W at hS ⊢
  obtain ⟨x0, x1, x2, x3, x4, x5, x6, x7, f0, f1, f2, f3, f4, f5, f6, f7⟩ := nd_facts (hS.out.has 0 _ _ rfl).1
  clear f0 f1 f2 f3 f4 f5 f6 f7
  go_wp2_with fail
  refine (HLf.out _ (H00.out.up hS.out.below)).mono ?_
  rintro e wn ⟨rfl, hbn⟩
  clear x0 x1 x2 x3 x4 x5 x6 x7
  replace hS := Lib.hid (hS.out.call hbn)
  clear hbn
  obtain ⟨x0, x1, x2, x3, x4, x5, x6, x7, f0, f1, f2, f3, f4, f5, f6, f7⟩ := nd_facts (hS.out.has 0 _ _ rfl).1
  clear f0 f1 f2 f3 f4 f5 f6 f7
  go_wp2_with fail
  refine (HAt.out _ (H00.out.up hS.out.below)).mono ?_
  rintro e w2 ⟨rfl, hbn⟩
  clear x0 x1 x2 x3 x4 x5 x6 x7
  replace hS := Lib.hid (hS.out.call hbn)
  clear hbn
  obtain ⟨y0, y1, q0, q1⟩ := pr_facts (hS.out.has 1 _ _ rfl).1
  have HZ := Lib.hid ((hS.out.setc 1 rfl 0 (.string p.key)).setc 1 rfl 1 (.int .u64 p.val)).below
  go_wp2_with fail
  exact bodyPost_ret (v := .tuple #[.agg #[.string p.key, .int .u64 p.val], .bool ob]) (by simp [results, Try.results38, go_sem, *]) rfl ⟨rfl, HZ.out⟩

end Go.Proofs.Ytcoiadncennhpaa
