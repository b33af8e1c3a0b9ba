/- Contracts of package halve: both, Merge. -/
import Derived.Test.YtcoiadncennhpaaHal4
import Derived.Test.YtcoiadncennhpaaInPut
namespace Go.Proofs.Ytcoiadncennhpaa
open Go.RowKit

theorem fits_app {ss ts : List ByteArray} (h : Fits ss) (k : Fits ts) : Fits (ss ++ ts) := by
  intro j hj
  rcases List.mem_append.1 (List.getElem_mem hj) with hm | hm
  · obtain ⟨q, hq, e⟩ := List.getElem_of_mem hm
    rw [← e]; exact h q hq
  · obtain ⟨q, hq, e⟩ := List.getElem_of_mem hm
    rw [← e]; exact k q hq

set_option maxRecDepth 100000 in
set_option maxHeartbeats 16000000 in
theorem both_any (a b : Nd) (A B C A' B' C' : Option Addr) (ca cb cc ca' cb' cc' : Nat) (w : World) (h : Lies w a A B C ca cb cc) (k : Lies w b A' B' C' ca' cb' cc')
    (la : a.keys.length ≤ 1000 ∧ a.vals.length ≤ 1000 ∧ a.kids.length ≤ 1000) (lb : b.keys.length ≤ 1000 ∧ b.vals.length ≤ 1000 ∧ b.kids.length ≤ 1000) :
    Calls Try.prog 102 #[.agg (ndCells a A B C ca cb cc), .agg (ndCells b A' B' C' ca' cb' cc')] w (NOneF (bothN a b) w) := by
  have hS := Lib.hid (Sx.start3b w (.cells (ndCells a A B C ca cb cc) 26) (.cells (ndCells b A' B' C' ca' cb' cc') 26) (.cells #[.int .i64 0, .string ⟨#[]⟩, .string ⟨#[]⟩, .bool false, .int .i64 0, .slice none 0 0, .slice none 0 0, .slice none 0 0] 26))
  have HA := Lib.hid h
  have HB := Lib.hid k
  have hbn : bothN a b = ⟨a.level, a.low, b.high, b.last, b.next, a.keys ++ b.keys, a.vals ++ b.vals, a.kids ++ b.kids⟩ := rfl
  have f1 := fits_app h.fit k.fit
  have e1 : strs a.keys ++ strs b.keys = strs (a.keys ++ b.keys) := by simp [strs]
  have e2 : u64s a.vals ++ u64s b.vals = u64s (a.vals ++ b.vals) := by simp [u64s]
  have e3 : i64s a.kids ++ i64s b.kids = i64s (a.kids ++ b.kids) := by simp [i64s]
  have l1 : a.keys.length + b.keys.length = (a.keys ++ b.keys).length := by simp
  have l2 : a.vals.length + b.vals.length = (a.vals ++ b.vals).length := by simp
  have l3 : a.kids.length + b.kids.length = (a.kids ++ b.kids).length := by simp
  clear h k
  generalize bothN a b = o at hbn ⊢
  generalize a.keys ++ b.keys = KK at *
  generalize a.vals ++ b.vals = VV at *
  generalize a.kids ++ b.kids = CC at *
  have HW := Lib.hid (And.intro l1 (And.intro l2 (And.intro l3 (And.intro e1 (And.intro e2 (And.intro e3 f1))))))
  have HLN := Lib.hid (And.intro la lb)
  have HO := Lib.hid hbn
  clear l1 l2 l3 e1 e2 e3 f1 hbn la lb
  obtain ⟨level, nlow, high, last, next, keys, vals, kids⟩ := a
  obtain ⟨level', nlow', high', last', next', keys', vals', kids'⟩ := b
  simp only [] at HO HW HLN
  simp only [ndCells] at hS ⊢
  go_enter Try.func102, Try.ntmps102
  go_upto_region 1 with fail
  generalize ((w.alloc _).alloc _).alloc _ = W at hS ⊢
  obtain ⟨x0, x1, x2, x3, x4, x5, x6, x7, f0, f1, f2, f3, f4, f5, f6, f7⟩ := nd_facts (hS.out.has 0 _ _ rfl).1
  go_upto_region 2 with fail
  clear x0 x1 x2 x3 x4 x5 x6 x7 f0 f1 f2 f3 f4 f5 f6 f7
  replace hS := Lib.hid (hS.out.alloc (.cells #[.int .i64 level, .string nlow, .string high, .bool last, .int .i64 next, .slice A keys.length ca, .slice B vals.length cb, .slice C kids.length cc] 26))
  simp only [List.cons_append, List.nil_append, List.set_cons_zero, List.set_cons_succ] at hS
  generalize W.alloc _ = W2 at hS ⊢
  generalize W.heap.size = g3 at hS ⊢
  have hd := Below.drew (Below.refl W2.heap.size W2)
  replace hS := Lib.hid (hS.out.call hd)
  clear hd
  refine wp_region_held_drew (S := fun w' => Sx w.heap.size w w' [(w.heap.size, .cells #[.int .i64 level, .string nlow, .string high, .bool last, .int .i64 next, .slice A keys.length ca, .slice B vals.length cb, .slice C kids.length cc] 26), (w.heap.size + 1, .cells #[.int .i64 level', .string nlow', .string high', .bool last', .int .i64 next', .slice A' keys'.length ca', .slice B' vals'.length cb', .slice C' kids'.length cc'] 26), (w.heap.size + 1 + 1, .cells #[.int .i64 0, .string ⟨#[]⟩, .string ⟨#[]⟩, .bool false, .int .i64 0, .slice none 0 0, .slice none 0 0, .slice none 0 0] 26)]) (by kernel_rfl) (hS.out.top 3) (fun hcur => ?_)
  (try dsimp only at hcur)
  generalize W2.drew = X at hS hcur ⊢
  refine wpAnyH_take (i := 0) (v := ?_) rfl (by decide +kernel) (by decide +kernel) (by decide +kernel) (fun _ _ _ h => h) (Or.inl ⟨by rfl, ?hy⟩) hcur ?_
  case hy =>
    intro w1 hSw
    (try dsimp only at hSw)
    obtain ⟨x0, x1, x2, x3, x4, x5, x6, x7, -, -, -, -, -, -, -, -⟩ := nd_facts (hSw.has 0 _ _ rfl).1
    obtain ⟨y0, y1, y2, y3, y4, y5, y6, y7, -, -, -, -, -, -, -, -⟩ := nd_facts (hSw.has 1 _ _ rfl).1
    go_simp
    (try with_reducible rfl)
  (try simp only [Act.put, List.getElem_toArray, List.getElem_cons_zero, List.getElem_cons_succ, List.setIfInBounds_toArray, List.set_cons_zero, List.set_cons_succ])
  refine wpAnyH_take (i := 1) (v := ?_) rfl (by decide +kernel) (by decide +kernel) (by decide +kernel) (fun _ _ _ h => h) (Or.inl ⟨by rfl, ?hy⟩) hcur ?_
  case hy =>
    intro w1 hSw
    (try dsimp only at hSw)
    obtain ⟨x0, x1, x2, x3, x4, x5, x6, x7, -, -, -, -, -, -, -, -⟩ := nd_facts (hSw.has 0 _ _ rfl).1
    obtain ⟨y0, y1, y2, y3, y4, y5, y6, y7, -, -, -, -, -, -, -, -⟩ := nd_facts (hSw.has 1 _ _ rfl).1
    go_simp
    (try with_reducible rfl)
  (try simp only [Act.put, List.getElem_toArray, List.getElem_cons_zero, List.getElem_cons_succ, List.setIfInBounds_toArray, List.set_cons_zero, List.set_cons_succ])
  refine wpAnyH_take (i := 2) (v := ?_) rfl (by decide +kernel) (by decide +kernel) (by decide +kernel) (fun _ _ _ h => h) (Or.inl ⟨by rfl, ?hy⟩) hcur ?_
  case hy =>
    intro w1 hSw
    (try dsimp only at hSw)
    obtain ⟨x0, x1, x2, x3, x4, x5, x6, x7, -, -, -, -, -, -, -, -⟩ := nd_facts (hSw.has 0 _ _ rfl).1
    obtain ⟨y0, y1, y2, y3, y4, y5, y6, y7, -, -, -, -, -, -, -, -⟩ := nd_facts (hSw.has 1 _ _ rfl).1
    go_simp
    (try with_reducible rfl)
  (try simp only [Act.put, List.getElem_toArray, List.getElem_cons_zero, List.getElem_cons_succ, List.setIfInBounds_toArray, List.set_cons_zero, List.set_cons_succ])
  refine wpAnyH_take (i := 3) (v := ?_) rfl (by decide +kernel) (by decide +kernel) (by decide +kernel) (fun _ _ _ h => h) (Or.inl ⟨by rfl, ?hy⟩) hcur ?_
  case hy =>
    intro w1 hSw
    (try dsimp only at hSw)
    obtain ⟨x0, x1, x2, x3, x4, x5, x6, x7, -, -, -, -, -, -, -, -⟩ := nd_facts (hSw.has 0 _ _ rfl).1
    obtain ⟨y0, y1, y2, y3, y4, y5, y6, y7, -, -, -, -, -, -, -, -⟩ := nd_facts (hSw.has 1 _ _ rfl).1
    go_simp
    (try with_reducible rfl)
  (try simp only [Act.put, List.getElem_toArray, List.getElem_cons_zero, List.getElem_cons_succ, List.setIfInBounds_toArray, List.set_cons_zero, List.set_cons_succ])
  refine wpAnyH_take (i := 4) (v := ?_) rfl (by decide +kernel) (by decide +kernel) (by decide +kernel) (fun _ _ _ h => h) (Or.inl ⟨by rfl, ?hy⟩) hcur ?_
  case hy =>
    intro w1 hSw
    (try dsimp only at hSw)
    obtain ⟨x0, x1, x2, x3, x4, x5, x6, x7, -, -, -, -, -, -, -, -⟩ := nd_facts (hSw.has 0 _ _ rfl).1
    obtain ⟨y0, y1, y2, y3, y4, y5, y6, y7, -, -, -, -, -, -, -, -⟩ := nd_facts (hSw.has 1 _ _ rfl).1
    go_simp
    (try with_reducible rfl)
  (try simp only [Act.put, List.getElem_toArray, List.getElem_cons_zero, List.getElem_cons_succ, List.setIfInBounds_toArray, List.set_cons_zero, List.set_cons_succ])
  refine wpAnyH_take (i := 5) (v := ?_) rfl (by decide +kernel) (by decide +kernel) (by decide +kernel) (fun _ _ _ h => h) (Or.inl ⟨by rfl, ?hy⟩) hcur ?_
  case hy =>
    intro w1 hSw
    (try dsimp only at hSw)
    obtain ⟨x0, x1, x2, x3, x4, x5, x6, x7, -, -, -, -, -, -, -, -⟩ := nd_facts (hSw.has 0 _ _ rfl).1
    obtain ⟨y0, y1, y2, y3, y4, y5, y6, y7, -, -, -, -, -, -, -, -⟩ := nd_facts (hSw.has 1 _ _ rfl).1
    go_simp
    (try with_reducible rfl)
  (try simp only [Act.put, List.getElem_toArray, List.getElem_cons_zero, List.getElem_cons_succ, List.setIfInBounds_toArray, List.set_cons_zero, List.set_cons_succ])
  refine wpAnyH_take (i := 6) (v := ?_) rfl (by decide +kernel) (by decide +kernel) (by decide +kernel) (fun _ _ _ h => h) (Or.inl ⟨by rfl, ?hy⟩) hcur ?_
  case hy =>
    intro w1 hSw
    (try dsimp only at hSw)
    obtain ⟨x0, x1, x2, x3, x4, x5, x6, x7, -, -, -, -, -, -, -, -⟩ := nd_facts (hSw.has 0 _ _ rfl).1
    obtain ⟨y0, y1, y2, y3, y4, y5, y6, y7, -, -, -, -, -, -, -, -⟩ := nd_facts (hSw.has 1 _ _ rfl).1
    go_simp
    (try with_reducible rfl)
  (try simp only [Act.put, List.getElem_toArray, List.getElem_cons_zero, List.getElem_cons_succ, List.setIfInBounds_toArray, List.set_cons_zero, List.set_cons_succ])
  refine wpAnyH_ready (rs := [7]) (by decide +kernel) (by simp) ?_
  refine AllReadyH.cons rfl (fun K hK => ?_) AllReadyH.nil
  obtain ⟨y0, y1, y2, y3, y4, y5, y6, y7, q0, q1, q2, q3, q4, q5, q6, q7⟩ := nd_facts (hS.out.has 3 _ _ rfl).1
  go_simp
  replace hS := Lib.hid (hS.out.setc 3 rfl 2 (.string high'))
  simp only [List.cons_append, List.nil_append, List.set_cons_zero, List.set_cons_succ] at hS
  clear y0 y1 y2 y3 y4 y5 y6 y7 q0 q1 q2 q3 q4 q5 q6 q7
  refine hK.out _ _ (hS.out.top 3) (fun hcur2 => ?_)
  clear hK K
  replace hcur := hcur2
  (try dsimp only at hcur)
  clear hcur2
  (try simp only [Act.put, List.getElem_toArray, List.getElem_cons_zero, List.getElem_cons_succ, List.setIfInBounds_toArray, List.set_cons_zero, List.set_cons_succ])
  generalize World.setCell _ _ _ = X1 at hS hcur ⊢
  refine wpAnyH_take (i := 8) (v := ?_) rfl (by decide +kernel) (by decide +kernel) (by decide +kernel) (fun _ _ _ h => h) (Or.inl ⟨by rfl, ?hy⟩) hcur ?_
  case hy =>
    intro w1 hSw
    (try dsimp only at hSw)
    obtain ⟨x0, x1, x2, x3, x4, x5, x6, x7, -, -, -, -, -, -, -, -⟩ := nd_facts (hSw.has 0 _ _ rfl).1
    obtain ⟨y0, y1, y2, y3, y4, y5, y6, y7, -, -, -, -, -, -, -, -⟩ := nd_facts (hSw.has 1 _ _ rfl).1
    go_simp
    (try with_reducible rfl)
  (try simp only [Act.put, List.getElem_toArray, List.getElem_cons_zero, List.getElem_cons_succ, List.setIfInBounds_toArray, List.set_cons_zero, List.set_cons_succ])
  refine wpAnyH_ready (rs := [9]) (by decide +kernel) (by simp) ?_
  refine AllReadyH.cons rfl (fun K hK => ?_) AllReadyH.nil
  obtain ⟨y0, y1, y2, y3, y4, y5, y6, y7, q0, q1, q2, q3, q4, q5, q6, q7⟩ := nd_facts (hS.out.has 3 _ _ rfl).1
  go_simp
  replace hS := Lib.hid (hS.out.setc 3 rfl 3 (.bool last'))
  simp only [List.cons_append, List.nil_append, List.set_cons_zero, List.set_cons_succ] at hS
  clear y0 y1 y2 y3 y4 y5 y6 y7 q0 q1 q2 q3 q4 q5 q6 q7
  refine hK.out _ _ (hS.out.top 3) (fun hcur2 => ?_)
  clear hK K
  replace hcur := hcur2
  (try dsimp only at hcur)
  clear hcur2
  (try simp only [Act.put, List.getElem_toArray, List.getElem_cons_zero, List.getElem_cons_succ, List.setIfInBounds_toArray, List.set_cons_zero, List.set_cons_succ])
  generalize World.setCell _ _ _ = X2 at hS hcur ⊢
  refine wpAnyH_take (i := 10) (v := ?_) rfl (by decide +kernel) (by decide +kernel) (by decide +kernel) (fun _ _ _ h => h) (Or.inl ⟨by rfl, ?hy⟩) hcur ?_
  case hy =>
    intro w1 hSw
    (try dsimp only at hSw)
    obtain ⟨x0, x1, x2, x3, x4, x5, x6, x7, -, -, -, -, -, -, -, -⟩ := nd_facts (hSw.has 0 _ _ rfl).1
    obtain ⟨y0, y1, y2, y3, y4, y5, y6, y7, -, -, -, -, -, -, -, -⟩ := nd_facts (hSw.has 1 _ _ rfl).1
    go_simp
    (try with_reducible rfl)
  (try simp only [Act.put, List.getElem_toArray, List.getElem_cons_zero, List.getElem_cons_succ, List.setIfInBounds_toArray, List.set_cons_zero, List.set_cons_succ])
  refine wpAnyH_ready (rs := [11]) (by decide +kernel) (by simp) ?_
  refine AllReadyH.cons rfl (fun K hK => ?_) AllReadyH.nil
  obtain ⟨y0, y1, y2, y3, y4, y5, y6, y7, q0, q1, q2, q3, q4, q5, q6, q7⟩ := nd_facts (hS.out.has 3 _ _ rfl).1
  go_simp
  replace hS := Lib.hid (hS.out.setc 3 rfl 4 (.int .i64 next'))
  simp only [List.cons_append, List.nil_append, List.set_cons_zero, List.set_cons_succ] at hS
  clear y0 y1 y2 y3 y4 y5 y6 y7 q0 q1 q2 q3 q4 q5 q6 q7
  refine hK.out _ _ (hS.out.top 3) (fun hcur2 => ?_)
  clear hK K
  replace hcur := hcur2
  (try dsimp only at hcur)
  clear hcur2
  (try simp only [Act.put, List.getElem_toArray, List.getElem_cons_zero, List.getElem_cons_succ, List.setIfInBounds_toArray, List.set_cons_zero, List.set_cons_succ])
  generalize World.setCell _ _ _ = X3 at hS hcur ⊢
  refine wpAnyH_done (by decide +kernel) ?_ _
  clear hcur
  obtain ⟨x0, x1, x2, x3, x4, x5, x6, x7, f0, f1, f2, f3, f4, f5, f6, f7⟩ := nd_facts (hS.out.has 0 _ _ rfl).1
  go_upto_region 3 with fail
  clear x0 x1 x2 x3 x4 x5 x6 x7 f0 f1 f2 f3 f4 f5 f6 f7
  have hd := Below.drew (Below.refl X3.heap.size X3)
  replace hS := Lib.hid (hS.out.call hd)
  clear hd
  refine wp_region_held_drew (S := fun w' => Sx w.heap.size w w' [(w.heap.size, .cells #[.int .i64 level, .string nlow, .string high, .bool last, .int .i64 next, .slice A keys.length ca, .slice B vals.length cb, .slice C kids.length cc] 26), (w.heap.size + 1, .cells #[.int .i64 level', .string nlow', .string high', .bool last', .int .i64 next', .slice A' keys'.length ca', .slice B' vals'.length cb', .slice C' kids'.length cc'] 26), (w.heap.size + 1 + 1, .cells #[.int .i64 0, .string ⟨#[]⟩, .string ⟨#[]⟩, .bool false, .int .i64 0, .slice none 0 0, .slice none 0 0, .slice none 0 0] 26)]) (by kernel_rfl) (hS.out.top 3) (fun hcur => ?_)
  (try dsimp only at hcur)
  generalize X3.drew = X4 at hS hcur ⊢
  refine wpAnyH_take (i := 0) (v := ?_) rfl (by decide +kernel) (by decide +kernel) (by decide +kernel) (fun _ _ _ h => h) (Or.inl ⟨by rfl, ?hy⟩) hcur ?_
  case hy =>
    intro w1 hSw
    (try dsimp only at hSw)
    obtain ⟨x0, x1, x2, x3, x4, x5, x6, x7, -, -, -, -, -, -, -, -⟩ := nd_facts (hSw.has 0 _ _ rfl).1
    obtain ⟨y0, y1, y2, y3, y4, y5, y6, y7, -, -, -, -, -, -, -, -⟩ := nd_facts (hSw.has 1 _ _ rfl).1
    go_simp
    (try with_reducible rfl)
  (try simp only [Act.put, List.getElem_toArray, List.getElem_cons_zero, List.getElem_cons_succ, List.setIfInBounds_toArray, List.set_cons_zero, List.set_cons_succ])
  refine wpAnyH_take (i := 1) (v := ?_) rfl (by decide +kernel) (by decide +kernel) (by decide +kernel) (fun _ _ _ h => h) (Or.inl ⟨by rfl, ?hy⟩) hcur ?_
  case hy =>
    intro w1 hSw
    (try dsimp only at hSw)
    obtain ⟨x0, x1, x2, x3, x4, x5, x6, x7, -, -, -, -, -, -, -, -⟩ := nd_facts (hSw.has 0 _ _ rfl).1
    obtain ⟨y0, y1, y2, y3, y4, y5, y6, y7, -, -, -, -, -, -, -, -⟩ := nd_facts (hSw.has 1 _ _ rfl).1
    go_simp
    (try with_reducible rfl)
  (try simp only [Act.put, List.getElem_toArray, List.getElem_cons_zero, List.getElem_cons_succ, List.setIfInBounds_toArray, List.set_cons_zero, List.set_cons_succ])
  refine wpAnyH_take (i := 2) (v := ?_) rfl (by decide +kernel) (by decide +kernel) (by decide +kernel) (fun _ _ _ h => h) (Or.inl ⟨by rfl, ?hy⟩) hcur ?_
  case hy =>
    intro w1 hSw
    (try dsimp only at hSw)
    obtain ⟨x0, x1, x2, x3, x4, x5, x6, x7, -, -, -, -, -, -, -, -⟩ := nd_facts (hSw.has 0 _ _ rfl).1
    obtain ⟨y0, y1, y2, y3, y4, y5, y6, y7, -, -, -, -, -, -, -, -⟩ := nd_facts (hSw.has 1 _ _ rfl).1
    go_simp
    (try with_reducible rfl)
  (try simp only [Act.put, List.getElem_toArray, List.getElem_cons_zero, List.getElem_cons_succ, List.setIfInBounds_toArray, List.set_cons_zero, List.set_cons_succ])
  refine wpAnyH_take (i := 3) (v := ?_) rfl (by decide +kernel) (by decide +kernel) (by decide +kernel) (fun _ _ _ h => h) (Or.inl ⟨by rfl, ?hy⟩) hcur ?_
  case hy =>
    intro w1 hSw
    (try dsimp only at hSw)
    obtain ⟨x0, x1, x2, x3, x4, x5, x6, x7, -, -, -, -, -, -, -, -⟩ := nd_facts (hSw.has 0 _ _ rfl).1
    obtain ⟨y0, y1, y2, y3, y4, y5, y6, y7, -, -, -, -, -, -, -, -⟩ := nd_facts (hSw.has 1 _ _ rfl).1
    go_simp
    (try with_reducible rfl)
  (try simp only [Act.put, List.getElem_toArray, List.getElem_cons_zero, List.getElem_cons_succ, List.setIfInBounds_toArray, List.set_cons_zero, List.set_cons_succ])
  refine wpAnyH_take (i := 5) (v := ?_) rfl (by decide +kernel) (by decide +kernel) (by decide +kernel) (fun _ _ _ h => h) (Or.inl ⟨by rfl, ?hy⟩) hcur ?_
  case hy =>
    intro w1 hSw
    (try dsimp only at hSw)
    obtain ⟨x0, x1, x2, x3, x4, x5, x6, x7, -, -, -, -, -, -, -, -⟩ := nd_facts (hSw.has 0 _ _ rfl).1
    obtain ⟨y0, y1, y2, y3, y4, y5, y6, y7, -, -, -, -, -, -, -, -⟩ := nd_facts (hSw.has 1 _ _ rfl).1
    go_simp
    (try with_reducible rfl)
  (try simp only [Act.put, List.getElem_toArray, List.getElem_cons_zero, List.getElem_cons_succ, List.setIfInBounds_toArray, List.set_cons_zero, List.set_cons_succ])
  refine wpAnyH_take (i := 6) (v := ?_) rfl (by decide +kernel) (by decide +kernel) (by decide +kernel) (fun _ _ _ h => h) (Or.inl ⟨by rfl, ?hy⟩) hcur ?_
  case hy =>
    intro w1 hSw
    (try dsimp only at hSw)
    obtain ⟨x0, x1, x2, x3, x4, x5, x6, x7, -, -, -, -, -, -, -, -⟩ := nd_facts (hSw.has 0 _ _ rfl).1
    obtain ⟨y0, y1, y2, y3, y4, y5, y6, y7, -, -, -, -, -, -, -, -⟩ := nd_facts (hSw.has 1 _ _ rfl).1
    go_simp
    (try with_reducible rfl)
  (try simp only [Act.put, List.getElem_toArray, List.getElem_cons_zero, List.getElem_cons_succ, List.setIfInBounds_toArray, List.set_cons_zero, List.set_cons_succ])
  refine wpAnyH_take (i := 7) (v := ?_) rfl (by decide +kernel) (by decide +kernel) (by decide +kernel) (fun _ _ _ h => h) (Or.inl ⟨by rfl, ?hy⟩) hcur ?_
  case hy =>
    intro w1 hSw
    (try dsimp only at hSw)
    obtain ⟨x0, x1, x2, x3, x4, x5, x6, x7, -, -, -, -, -, -, -, -⟩ := nd_facts (hSw.has 0 _ _ rfl).1
    obtain ⟨y0, y1, y2, y3, y4, y5, y6, y7, -, -, -, -, -, -, -, -⟩ := nd_facts (hSw.has 1 _ _ rfl).1
    go_simp
    (try with_reducible rfl)
  (try simp only [Act.put, List.getElem_toArray, List.getElem_cons_zero, List.getElem_cons_succ, List.setIfInBounds_toArray, List.set_cons_zero, List.set_cons_succ])
  refine wpAnyH_take (i := 8) (v := ?_) rfl (by decide +kernel) (by decide +kernel) (by decide +kernel) (fun _ _ _ h => h) (Or.inl ⟨by rfl, ?hy⟩) hcur ?_
  case hy =>
    intro w1 hSw
    (try dsimp only at hSw)
    obtain ⟨x0, x1, x2, x3, x4, x5, x6, x7, -, -, -, -, -, -, -, -⟩ := nd_facts (hSw.has 0 _ _ rfl).1
    obtain ⟨y0, y1, y2, y3, y4, y5, y6, y7, -, -, -, -, -, -, -, -⟩ := nd_facts (hSw.has 1 _ _ rfl).1
    go_simp
    (try with_reducible rfl)
  (try simp only [Act.put, List.getElem_toArray, List.getElem_cons_zero, List.getElem_cons_succ, List.setIfInBounds_toArray, List.set_cons_zero, List.set_cons_succ])
  refine wpAnyH_take (i := 10) (v := ?_) rfl (by decide +kernel) (by decide +kernel) (by decide +kernel) (fun _ _ _ h => h) (Or.inl ⟨by rfl, ?hy⟩) hcur ?_
  case hy =>
    intro w1 hSw
    (try dsimp only at hSw)
    obtain ⟨x0, x1, x2, x3, x4, x5, x6, x7, -, -, -, -, -, -, -, -⟩ := nd_facts (hSw.has 0 _ _ rfl).1
    obtain ⟨y0, y1, y2, y3, y4, y5, y6, y7, -, -, -, -, -, -, -, -⟩ := nd_facts (hSw.has 1 _ _ rfl).1
    go_simp
    (try with_reducible rfl)
  (try simp only [Act.put, List.getElem_toArray, List.getElem_cons_zero, List.getElem_cons_succ, List.setIfInBounds_toArray, List.set_cons_zero, List.set_cons_succ])
  refine wpAnyH_take (i := 11) (v := ?_) rfl (by decide +kernel) (by decide +kernel) (by decide +kernel) (fun _ _ _ h => h) (Or.inl ⟨by rfl, ?hy⟩) hcur ?_
  case hy =>
    intro w1 hSw
    (try dsimp only at hSw)
    obtain ⟨x0, x1, x2, x3, x4, x5, x6, x7, -, -, -, -, -, -, -, -⟩ := nd_facts (hSw.has 0 _ _ rfl).1
    obtain ⟨y0, y1, y2, y3, y4, y5, y6, y7, -, -, -, -, -, -, -, -⟩ := nd_facts (hSw.has 1 _ _ rfl).1
    go_simp
    (try with_reducible rfl)
  (try simp only [Act.put, List.getElem_toArray, List.getElem_cons_zero, List.getElem_cons_succ, List.setIfInBounds_toArray, List.set_cons_zero, List.set_cons_succ])
  refine wpAnyH_take (i := 12) (v := ?_) rfl (by decide +kernel) (by decide +kernel) (by decide +kernel) (fun _ _ _ h => h) (Or.inl ⟨by rfl, ?hy⟩) hcur ?_
  case hy =>
    intro w1 hSw
    (try dsimp only at hSw)
    obtain ⟨x0, x1, x2, x3, x4, x5, x6, x7, -, -, -, -, -, -, -, -⟩ := nd_facts (hSw.has 0 _ _ rfl).1
    obtain ⟨y0, y1, y2, y3, y4, y5, y6, y7, -, -, -, -, -, -, -, -⟩ := nd_facts (hSw.has 1 _ _ rfl).1
    go_simp
    (try with_reducible rfl)
  (try simp only [Act.put, List.getElem_toArray, List.getElem_cons_zero, List.getElem_cons_succ, List.setIfInBounds_toArray, List.set_cons_zero, List.set_cons_succ])
  refine wpAnyH_take (i := 13) (v := ?_) rfl (by decide +kernel) (by decide +kernel) (by decide +kernel) (fun _ _ _ h => h) (Or.inl ⟨by rfl, ?hy⟩) hcur ?_
  case hy =>
    intro w1 hSw
    (try dsimp only at hSw)
    obtain ⟨x0, x1, x2, x3, x4, x5, x6, x7, -, -, -, -, -, -, -, -⟩ := nd_facts (hSw.has 0 _ _ rfl).1
    obtain ⟨y0, y1, y2, y3, y4, y5, y6, y7, -, -, -, -, -, -, -, -⟩ := nd_facts (hSw.has 1 _ _ rfl).1
    go_simp
    (try with_reducible rfl)
  (try simp only [Act.put, List.getElem_toArray, List.getElem_cons_zero, List.getElem_cons_succ, List.setIfInBounds_toArray, List.set_cons_zero, List.set_cons_succ])
  refine wpAnyH_ready (rs := [4]) (by decide +kernel) (by simp) ?_
  refine AllReadyH.cons rfl (fun K hK => ?_) AllReadyH.nil
  go_simp
  refine (joinS_any A A' keys.length ca keys'.length ca' (strs keys) (strs keys') _ (HA.out.up hS.out.below).keys (HB.out.up hS.out.below).keys (strs_one _) (strs_one _) (by have := HLN.out; omega) (by have := HLN.out; omega)).mono ?_
  rintro e Y1 ⟨rfl, hh, hb⟩
  rw [HW.out.1]
  rw [HW.out.2.2.2.1] at hh
  replace hS := Lib.hid (hS.out.call1 hb hh)
  simp only [List.cons_append, List.nil_append, List.set_cons_zero, List.set_cons_succ] at hS
  clear hh hb
  go_wp2_with fail
  refine hK.out _ _ (hS.out.top 3) (fun hcur2 => ?_)
  clear hK K
  replace hcur := hcur2
  (try dsimp only at hcur)
  clear hcur2
  (try simp only [Act.put, List.getElem_toArray, List.getElem_cons_zero, List.getElem_cons_succ, List.setIfInBounds_toArray, List.set_cons_zero, List.set_cons_succ])
  generalize X4.heap.size = p1 at hS ⊢
  refine wpAnyH_take (i := 15) (v := ?_) rfl (by decide +kernel) (by decide +kernel) (by decide +kernel) (fun _ _ _ h => h) (Or.inl ⟨by rfl, ?hy⟩) hcur ?_
  case hy =>
    intro w1 hSw
    (try dsimp only at hSw)
    obtain ⟨x0, x1, x2, x3, x4, x5, x6, x7, -, -, -, -, -, -, -, -⟩ := nd_facts (hSw.has 0 _ _ rfl).1
    obtain ⟨y0, y1, y2, y3, y4, y5, y6, y7, -, -, -, -, -, -, -, -⟩ := nd_facts (hSw.has 1 _ _ rfl).1
    go_simp
    (try with_reducible rfl)
  (try simp only [Act.put, List.getElem_toArray, List.getElem_cons_zero, List.getElem_cons_succ, List.setIfInBounds_toArray, List.set_cons_zero, List.set_cons_succ])
  refine wpAnyH_ready (rs := [9]) (by decide +kernel) (by simp) ?_
  refine AllReadyH.cons rfl (fun K hK => ?_) AllReadyH.nil
  go_simp
  refine (joinU_any B B' vals.length cb vals'.length cb' (u64s vals) (u64s vals') _ (HA.out.up hS.out.below).vals (HB.out.up hS.out.below).vals (u64s_one _) (u64s_one _) (by have := HLN.out; omega) (by have := HLN.out; omega)).mono ?_
  rintro e Y2 ⟨rfl, hh, hb⟩
  rw [HW.out.2.1]
  rw [HW.out.2.2.2.2.1] at hh
  replace hS := Lib.hid (hS.out.call1 hb hh)
  simp only [List.cons_append, List.nil_append, List.set_cons_zero, List.set_cons_succ] at hS
  clear hh hb
  go_wp2_with fail
  refine hK.out _ _ (hS.out.top 3) (fun hcur2 => ?_)
  clear hK K
  replace hcur := hcur2
  (try dsimp only at hcur)
  clear hcur2
  (try simp only [Act.put, List.getElem_toArray, List.getElem_cons_zero, List.getElem_cons_succ, List.setIfInBounds_toArray, List.set_cons_zero, List.set_cons_succ])
  generalize Y1.heap.size = p2 at hS ⊢
  refine wpAnyH_ready (rs := [14]) (by decide +kernel) (by simp) ?_
  refine AllReadyH.cons rfl (fun K hK => ?_) AllReadyH.nil
  go_simp
  refine (joinI_any C C' kids.length cc kids'.length cc' (i64s kids) (i64s kids') _ (HA.out.up hS.out.below).kids (HB.out.up hS.out.below).kids (i64s_one _) (i64s_one _) (by have := HLN.out; omega) (by have := HLN.out; omega)).mono ?_
  rintro e Y3 ⟨rfl, hh, hb⟩
  rw [HW.out.2.2.1]
  rw [HW.out.2.2.2.2.2.1] at hh
  replace hS := Lib.hid (hS.out.call1 hb hh)
  simp only [List.cons_append, List.nil_append, List.set_cons_zero, List.set_cons_succ] at hS
  clear hh hb
  go_wp2_with fail
  refine hK.out _ _ (hS.out.top 3) (fun hcur2 => ?_)
  clear hK K
  replace hcur := hcur2
  (try dsimp only at hcur)
  clear hcur2
  (try simp only [Act.put, List.getElem_toArray, List.getElem_cons_zero, List.getElem_cons_succ, List.setIfInBounds_toArray, List.set_cons_zero, List.set_cons_succ])
  generalize Y2.heap.size = p3 at hS ⊢
  refine wpAnyH_ready (rs := [16]) (by decide +kernel) (by simp) ?_
  refine AllReadyH.cons rfl (fun K hK => ?_) AllReadyH.nil
  obtain ⟨y0, y1, y2, y3, y4, y5, y6, y7, q0, q1, q2, q3, q4, q5, q6, q7⟩ := nd_facts (hS.out.has 3 _ _ rfl).1
  go_simp
  replace hS := Lib.hid (hS.out.setc 3 rfl 5 (.slice (some ⟨p1, 0, none⟩) KK.length KK.length))
  simp only [List.cons_append, List.nil_append, List.set_cons_zero, List.set_cons_succ] at hS
  clear y0 y1 y2 y3 y4 y5 y6 y7 q0 q1 q2 q3 q4 q5 q6 q7
  refine hK.out _ _ (hS.out.top 3) (fun hcur2 => ?_)
  clear hK K
  replace hcur := hcur2
  (try dsimp only at hcur)
  clear hcur2
  (try simp only [Act.put, List.getElem_toArray, List.getElem_cons_zero, List.getElem_cons_succ, List.setIfInBounds_toArray, List.set_cons_zero, List.set_cons_succ])
  generalize World.setCell _ _ _ = Z1 at hS hcur ⊢
  refine wpAnyH_take (i := 17) (v := ?_) rfl (by decide +kernel) (by decide +kernel) (by decide +kernel) (fun _ _ _ h => h) (Or.inl ⟨by rfl, ?hy⟩) hcur ?_
  case hy =>
    intro w1 hSw
    (try dsimp only at hSw)
    obtain ⟨x0, x1, x2, x3, x4, x5, x6, x7, -, -, -, -, -, -, -, -⟩ := nd_facts (hSw.has 0 _ _ rfl).1
    obtain ⟨y0, y1, y2, y3, y4, y5, y6, y7, -, -, -, -, -, -, -, -⟩ := nd_facts (hSw.has 1 _ _ rfl).1
    go_simp
    (try with_reducible rfl)
  (try simp only [Act.put, List.getElem_toArray, List.getElem_cons_zero, List.getElem_cons_succ, List.setIfInBounds_toArray, List.set_cons_zero, List.set_cons_succ])
  refine wpAnyH_ready (rs := [18]) (by decide +kernel) (by simp) ?_
  refine AllReadyH.cons rfl (fun K hK => ?_) AllReadyH.nil
  obtain ⟨y0, y1, y2, y3, y4, y5, y6, y7, q0, q1, q2, q3, q4, q5, q6, q7⟩ := nd_facts (hS.out.has 3 _ _ rfl).1
  go_simp
  replace hS := Lib.hid (hS.out.setc 3 rfl 6 (.slice (some ⟨p2, 0, none⟩) VV.length VV.length))
  simp only [List.cons_append, List.nil_append, List.set_cons_zero, List.set_cons_succ] at hS
  clear y0 y1 y2 y3 y4 y5 y6 y7 q0 q1 q2 q3 q4 q5 q6 q7
  refine hK.out _ _ (hS.out.top 3) (fun hcur2 => ?_)
  clear hK K
  replace hcur := hcur2
  (try dsimp only at hcur)
  clear hcur2
  (try simp only [Act.put, List.getElem_toArray, List.getElem_cons_zero, List.getElem_cons_succ, List.setIfInBounds_toArray, List.set_cons_zero, List.set_cons_succ])
  generalize World.setCell _ _ _ = Z2 at hS hcur ⊢
  refine wpAnyH_take (i := 19) (v := ?_) rfl (by decide +kernel) (by decide +kernel) (by decide +kernel) (fun _ _ _ h => h) (Or.inl ⟨by rfl, ?hy⟩) hcur ?_
  case hy =>
    intro w1 hSw
    (try dsimp only at hSw)
    obtain ⟨x0, x1, x2, x3, x4, x5, x6, x7, -, -, -, -, -, -, -, -⟩ := nd_facts (hSw.has 0 _ _ rfl).1
    obtain ⟨y0, y1, y2, y3, y4, y5, y6, y7, -, -, -, -, -, -, -, -⟩ := nd_facts (hSw.has 1 _ _ rfl).1
    go_simp
    (try with_reducible rfl)
  (try simp only [Act.put, List.getElem_toArray, List.getElem_cons_zero, List.getElem_cons_succ, List.setIfInBounds_toArray, List.set_cons_zero, List.set_cons_succ])
  refine wpAnyH_ready (rs := [20]) (by decide +kernel) (by simp) ?_
  refine AllReadyH.cons rfl (fun K hK => ?_) AllReadyH.nil
  obtain ⟨y0, y1, y2, y3, y4, y5, y6, y7, q0, q1, q2, q3, q4, q5, q6, q7⟩ := nd_facts (hS.out.has 3 _ _ rfl).1
  go_simp
  replace hS := Lib.hid (hS.out.setc 3 rfl 7 (.slice (some ⟨p3, 0, none⟩) CC.length CC.length))
  simp only [List.cons_append, List.nil_append, List.set_cons_zero, List.set_cons_succ] at hS
  clear y0 y1 y2 y3 y4 y5 y6 y7 q0 q1 q2 q3 q4 q5 q6 q7
  refine hK.out _ _ (hS.out.top 3) (fun hcur2 => ?_)
  clear hK K
  replace hcur := hcur2
  (try dsimp only at hcur)
  clear hcur2
  (try simp only [Act.put, List.getElem_toArray, List.getElem_cons_zero, List.getElem_cons_succ, List.setIfInBounds_toArray, List.set_cons_zero, List.set_cons_succ])
  generalize World.setCell _ _ _ = Z3 at hS hcur ⊢
  refine wpAnyH_done (by decide +kernel) ?_ _
  clear hcur
  obtain ⟨x0, x1, x2, x3, x4, x5, x6, x7, f0, f1, f2, f3, f4, f5, f6, f7⟩ := nd_facts (hS.out.has 3 _ _ rfl).1
  obtain ⟨y0, y1, y2, y3, y4, y5, y6, y7, q0, q1, q2, q3, q4, q5, q6, q7⟩ := nd_facts (hS.out.has 2 _ _ rfl).1
  have hZ := hS.out.store 2 rfl (.int .i64 level) (.string nlow) (.string high') (.bool last') (.int .i64 next') (.slice (some ⟨p1, 0, none⟩) KK.length KK.length) (.slice (some ⟨p2, 0, none⟩) VV.length VV.length) (.slice (some ⟨p3, 0, none⟩) CC.length CC.length)
  have hlies := lies_new (B := w.heap.size) (d := ⟨level, nlow, high', last', next', KK, VV, CC⟩) (A1 := some ⟨p1, 0, none⟩) (A2 := some ⟨p2, 0, none⟩) (A3 := some ⟨p3, 0, none⟩)
    (fun _ => ⟨_, rfl, (hZ.has 4 _ _ rfl).2, (hZ.has 4 _ _ rfl).1⟩) (fun _ => ⟨_, rfl, (hZ.has 5 _ _ rfl).2, (hZ.has 5 _ _ rfl).1⟩) (fun _ => ⟨_, rfl, (hZ.has 6 _ _ rfl).2, (hZ.has 6 _ _ rfl).1⟩) HA.out.low HB.out.high HW.out.2.2.2.2.2.2
    (by have := HLN.out; have := HW.out.1; simp only []; omega) (by have := HLN.out; have := HW.out.2.1; simp only []; omega) (by have := HLN.out; have := HW.out.2.2.1; simp only []; omega)
  have HFI := And.intro hZ.below hlies
  simp only [set8] at HFI
  replace HFI := Lib.hid HFI
  clear hZ hlies
  obtain rfl := HO.out
  go_wp2_with fail
  exact bodyPost_ret (v := .agg #[.int .i64 level, .string nlow, .string high', .bool last', .int .i64 next', .slice (some ⟨p1, 0, none⟩) KK.length KK.length, .slice (some ⟨p2, 0, none⟩) VV.length VV.length, .slice (some ⟨p3, 0, none⟩) CC.length CC.length]) (by simp [results, Try.results102, go_sem, *]) rfl ⟨_, _, _, _, _, _, by simp only [ndCells], HFI.out.2, HFI.out.1⟩

theorem mergeD_no {a b : Nd} {fan : Int} (h : mergeB a b fan = false) : mergeD a b fan = (false, zeroN) := if_neg (by rw [h]; exact Bool.false_ne_true)
theorem mergeD_yes {a b : Nd} {fan : Int} (h : mergeB a b fan = true) : mergeD a b fan = (true, bothN a b) := if_pos h
theorem neigh_lens {a b : Nd} (h : neighB a b = true) : (a.keys.length ≤ 1000 ∧ a.vals.length ≤ 1000 ∧ a.kids.length ≤ 1000) ∧ (b.keys.length ≤ 1000 ∧ b.vals.length ≤ 1000 ∧ b.kids.length ≤ 1000) := by
  unfold neighB at h
  simp only [Bool.and_eq_true] at h
  have h1 := snd_lens h.1 (by omega)
  have h2 := snd_lens h.2.1 (by omega)
  omega

set_option maxRecDepth 100000 in
set_option maxHeartbeats 16000000 in
theorem merge_any (a b : Nd) (fan : Int) (A B C A' B' C' : Option Addr) (ca cb cc ca' cb' cc' : Nat) (w : World) (h : Lies w a A B C ca cb cc) (k : Lies w b A' B' C' ca' cb' cc') :
    Calls Try.prog 49 #[.agg (ndCells a A B C ca cb cc), .agg (ndCells b A' B' C' ca' cb' cc'), .int .i64 fan] w (NRet (mergeD a b fan) w) := by
  have hS := Lib.hid (Sx.start3b w (.cells (ndCells a A B C ca cb cc) 26) (.cells (ndCells b A' B' C' ca' cb' cc') 26) (.cells #[.int .i64 0, .string ⟨#[]⟩, .string ⟨#[]⟩, .bool false, .int .i64 0, .slice none 0 0, .slice none 0 0, .slice none 0 0] 26))
  have HA := Lib.hid h
  have HB := Lib.hid k
  have HNb := Lib.hid (fun W hW kW => neighbours_any a b A B C A' B' C' ca cb cc ca' cb' cc' W hW kW)
  have HBo := Lib.hid (fun W hW kW (q : neighB a b = true) => both_any a b A B C A' B' C' ca cb cc ca' cb' cc' W hW kW (neigh_lens q).1 (neigh_lens q).2)
  have hpb : mergeB a b fan = (neighB a b && (decide (4 ≤ fan ∧ fan ≤ 64) && decide ((a.keys.length : Int) + b.keys.length ≤ fan))) := rfl
  have hno := Lib.hid (fun (q : mergeB a b fan = false) => mergeD_no q)
  have hyes := Lib.hid (fun (q : mergeB a b fan = true) => mergeD_yes q)
  have hln := Lib.hid (fun (q : neighB a b = true) => neigh_lens q)
  clear h k
  generalize hon : mergeD a b fan = o at hno hyes ⊢
  clear hon
  generalize mergeB a b fan = pb at hpb hno hyes
  generalize neighB a b = nb at hpb HNb HBo hln
  generalize bothN a b = bo at hyes HBo
  have HPB := Lib.hid hpb
  clear hpb
  obtain ⟨level, nlow, high, last, next, keys, vals, kids⟩ := a
  obtain ⟨level', nlow', high', last', next', keys', vals', kids'⟩ := b
  simp only [] at HPB hln
  simp only [ndCells] at hS HNb HBo ⊢
  go_enter Try.func49, Try.ntmps49
  go_upto_region 1 with fail
  generalize ((w.alloc _).alloc _).alloc _ = W at hS ⊢
  obtain ⟨x0, x1, x2, x3, x4, x5, x6, x7, f0, f1, f2, f3, f4, f5, f6, f7⟩ := nd_facts (hS.out.has 0 _ _ rfl).1
  obtain ⟨y0, y1, y2, y3, y4, y5, y6, y7, q0, q1, q2, q3, q4, q5, q6, q7⟩ := nd_facts (hS.out.has 1 _ _ rfl).1
  go_wp2_with fail
  refine (HNb.out _ (HA.out.up hS.out.below) (HB.out.up hS.out.below)).mono ?_
  rintro e wn ⟨rfl, hbn⟩
  clear x0 x1 x2 x3 x4 x5 x6 x7 f0 f1 f2 f3 f4 f5 f6 f7
  clear y0 y1 y2 y3 y4 y5 y6 y7 q0 q1 q2 q3 q4 q5 q6 q7
  replace hS := Lib.hid (hS.out.call hbn)
  clear hbn
  obtain ⟨x0, x1, x2, x3, x4, x5, x6, x7, f0, f1, f2, f3, f4, f5, f6, f7⟩ := nd_facts (hS.out.has 0 _ _ rfl).1
  obtain ⟨y0, y1, y2, y3, y4, y5, y6, y7, q0, q1, q2, q3, q4, q5, q6, q7⟩ := nd_facts (hS.out.has 1 _ _ rfl).1
  cases nb
  · obtain rfl : o = (false, zeroN) := hno.out (by rw [HPB.out]; rfl)
    obtain ⟨z0, z1, z2, z3, z4, z5, z6, z7, r0, r1, r2, r3, r4, r5, r6, r7⟩ := nd_facts (hS.out.has 2 _ _ rfl).1
    have hZ := (hS.out.store 2 rfl (.int .i64 0) (.string ⟨#[]⟩) (.string ⟨#[]⟩) (.bool false) (.int .i64 0) (.slice none 0 0) (.slice none 0 0) (.slice none 0 0)).below
    simp only [set8] at hZ
    have HZ := Lib.hid hZ
    clear hZ
    go_wp2_with fail
    exact bodyPost_ret (v := .tuple #[.agg #[.int .i64 0, .string ⟨#[]⟩, .string ⟨#[]⟩, .bool false, .int .i64 0, .slice none 0 0, .slice none 0 0, .slice none 0 0], .bool false]) (by simp [results, Try.results49, go_sem, *]) rfl ⟨none, none, none, 0, 0, 0, rfl, zero_lies _, HZ.out⟩
  · have hlk := hln.out (by trivial)
    by_cases h1 : fan < 4
    · obtain rfl : o = (false, zeroN) := hno.out (by rw [HPB.out, decide_eq_false (p := 4 ≤ fan ∧ fan ≤ 64) (by omega)]; rfl)
      have h1b : decide (fan < 4) = true := decide_eq_true h1
      clear hlk
      obtain ⟨z0, z1, z2, z3, z4, z5, z6, z7, r0, r1, r2, r3, r4, r5, r6, r7⟩ := nd_facts (hS.out.has 2 _ _ rfl).1
      have hZ := (hS.out.store 2 rfl (.int .i64 0) (.string ⟨#[]⟩) (.string ⟨#[]⟩) (.bool false) (.int .i64 0) (.slice none 0 0) (.slice none 0 0) (.slice none 0 0)).below
      simp only [set8] at hZ
      have HZ := Lib.hid hZ
      clear hZ
      go_wp2_with fail
      exact bodyPost_ret (v := .tuple #[.agg #[.int .i64 0, .string ⟨#[]⟩, .string ⟨#[]⟩, .bool false, .int .i64 0, .slice none 0 0, .slice none 0 0, .slice none 0 0], .bool false]) (by simp [results, Try.results49, go_sem, *]) rfl ⟨none, none, none, 0, 0, 0, rfl, zero_lies _, HZ.out⟩
    · have h1b : decide (fan < 4) = false := decide_eq_false h1
      by_cases h2 : 64 < fan
      · obtain rfl : o = (false, zeroN) := hno.out (by rw [HPB.out, decide_eq_false (p := 4 ≤ fan ∧ fan ≤ 64) (by omega)]; rfl)
        have h2b : decide (64 < fan) = true := decide_eq_true h2
        clear hlk
        obtain ⟨z0, z1, z2, z3, z4, z5, z6, z7, r0, r1, r2, r3, r4, r5, r6, r7⟩ := nd_facts (hS.out.has 2 _ _ rfl).1
        have hZ := (hS.out.store 2 rfl (.int .i64 0) (.string ⟨#[]⟩) (.string ⟨#[]⟩) (.bool false) (.int .i64 0) (.slice none 0 0) (.slice none 0 0) (.slice none 0 0)).below
        simp only [set8] at hZ
        have HZ := Lib.hid hZ
        clear hZ
        go_wp2_with fail
        exact bodyPost_ret (v := .tuple #[.agg #[.int .i64 0, .string ⟨#[]⟩, .string ⟨#[]⟩, .bool false, .int .i64 0, .slice none 0 0, .slice none 0 0, .slice none 0 0], .bool false]) (by simp [results, Try.results49, go_sem, *]) rfl ⟨none, none, none, 0, 0, 0, rfl, zero_lies _, HZ.out⟩
      · have h2b : decide (64 < fan) = false := decide_eq_false h2
        have hms : wrap64 ((keys.length : Int) + (keys'.length : Int)) = (keys.length : Int) + (keys'.length : Int) := by unfold wrap64; omega
        by_cases h3 : fan < (keys.length : Int) + (keys'.length : Int)
        · obtain rfl : o = (false, zeroN) := hno.out (by rw [HPB.out, decide_eq_false (p := (keys.length : Int) + keys'.length ≤ fan) (by omega)]; simp)
          have h3b : decide (fan < (keys.length : Int) + (keys'.length : Int)) = true := decide_eq_true h3
          clear hlk
          obtain ⟨z0, z1, z2, z3, z4, z5, z6, z7, r0, r1, r2, r3, r4, r5, r6, r7⟩ := nd_facts (hS.out.has 2 _ _ rfl).1
          have hZ := (hS.out.store 2 rfl (.int .i64 0) (.string ⟨#[]⟩) (.string ⟨#[]⟩) (.bool false) (.int .i64 0) (.slice none 0 0) (.slice none 0 0) (.slice none 0 0)).below
          simp only [set8] at hZ
          have HZ := Lib.hid hZ
          clear hZ
          go_wp2_with fail
          exact bodyPost_ret (v := .tuple #[.agg #[.int .i64 0, .string ⟨#[]⟩, .string ⟨#[]⟩, .bool false, .int .i64 0, .slice none 0 0, .slice none 0 0, .slice none 0 0], .bool false]) (by simp [results, Try.results49, go_sem, *]) rfl ⟨none, none, none, 0, 0, 0, rfl, zero_lies _, HZ.out⟩
        · have h3b : decide (fan < (keys.length : Int) + (keys'.length : Int)) = false := decide_eq_false h3
          have hpt : pb = true := by rw [HPB.out, decide_eq_true (p := 4 ≤ fan ∧ fan ≤ 64) (by omega), decide_eq_true (p := (keys.length : Int) + keys'.length ≤ fan) (by omega)]; rfl
          obtain rfl := hyes.out hpt
          clear hlk hpt
          go_wp2_with fail
          refine (HBo.out _ (HA.out.up hS.out.below) (HB.out.up hS.out.below) (by trivial)).mono ?_
          rintro e W1 ⟨A1, B1, C1, ca1, cb1, cc1, rfl, hl, hb⟩
          clear x0 x1 x2 x3 x4 x5 x6 x7 f0 f1 f2 f3 f4 f5 f6 f7
          clear y0 y1 y2 y3 y4 y5 y6 y7 q0 q1 q2 q3 q4 q5 q6 q7
          have HBW := Lib.hid (hS.out.lt (i := 2) rfl)
          replace hS := Lib.hid (hS.out.call hb)
          obtain ⟨y0, y1, y2, y3, y4, y5, y6, y7, q0, q1, q2, q3, q4, q5, q6, q7⟩ := nd_facts (hS.out.has 2 _ _ rfl).1
          obtain ⟨level1, nlow1, high1, last1, next1, keys1, vals1, kids1⟩ := bo
          simp only [ndCells] at hl ⊢
          have hZ := hS.out.store 2 rfl (.int .i64 level1) (.string nlow1) (.string high1) (.bool last1) (.int .i64 next1) (.slice A1 keys1.length ca1) (.slice B1 vals1.length cb1) (.slice C1 kids1.length cc1)
          have hlF := hl.off (set8_off W1 (w.heap.size + 1 + 1) (.int .i64 level1) (.string nlow1) (.string high1) (.bool last1) (.int .i64 next1) (.slice A1 keys1.length ca1) (.slice B1 vals1.length cb1) (.slice C1 kids1.length cc1)) (fun k q => by have := HBW.out; rw [q]; exact this)
          have HFI := And.intro hZ.below hlF.lies
          simp only [set8] at HFI
          replace HFI := Lib.hid HFI
          clear hZ hlF hl hb
          go_wp2_with fail
          exact bodyPost_ret (v := .tuple #[.agg #[.int .i64 level1, .string nlow1, .string high1, .bool last1, .int .i64 next1, .slice A1 keys1.length ca1, .slice B1 vals1.length cb1, .slice C1 kids1.length cc1], .bool true]) (by simp [results, Try.results49, go_sem, *]) rfl ⟨_, _, _, _, _, _, by simp [ndCells], HFI.out.2, HFI.out.1⟩


end Go.Proofs.Ytcoiadncennhpaa
