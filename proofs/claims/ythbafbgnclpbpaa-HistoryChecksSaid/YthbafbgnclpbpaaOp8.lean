/- Contracts of the reference of package op: Plain. -/
import Derived.Test.YthbafbgnclpbpaaOp7
namespace Go.Proofs.Ythbafbgnclpbpaa
open Go.RowKit

def opZ : Array Value := #[.int .i64 0, .string ⟨#[]⟩, .string ⟨#[]⟩, .int .u64 0, .int .i64 0]
/-- The operation in its variable, and the variable of the result behind it. -/
structure Two (w cur : World) (o : OpD) : Prop where
  box : cur.heap[w.heap.size]? = some (.cells (opCells o) 58 (0, 0))
  res : cur.heap[w.heap.size + 1]? = some (.cells opZ 58 (0, 0))
  below : Below w.heap.size w cur
theorem Two.lt {w cur : World} {o : OpD} (h : Two w cur o) : w.heap.size + 1 < cur.heap.size := (Array.getElem?_eq_some_iff.1 h.res).1
theorem Two.new (w : World) (o : OpD) : Two w ((w.alloc (.cells (opCells o) 58)).alloc (.cells opZ 58)) o := by
  have e : (w.alloc (.cells (opCells o) 58)).heap.size = w.heap.size + 1 := by simp
  refine ⟨(heap_alloc_old _ _ (by omega)).trans (heap_alloc_new w _), ?_, below_of (below_alloc _ _) (below_alloc _ _)⟩
  rw [← e]
  exact heap_alloc_new _ _
theorem Two.up {w cur wn : World} {o : OpD} (h : Two w cur o) (hb : Below cur.heap.size cur wn) : Two w wn o :=
  ⟨(hb.block _ (by have := h.lt; omega)).trans h.box, (hb.block _ h.lt).trans h.res, below_of h.below hb⟩
theorem Two.set {w cur : World} {o o' : OpD} (h : Two w cur o) (i : Nat) (v : Value) (ho : opCells o' = (opCells o).setIfInBounds i v) : Two w (cur.setCell ⟨w.heap.size, i, none⟩ v) o' := by
  refine ⟨?_, ?_, h.below.setCell (Nat.le_refl _) _⟩
  · rw [ho]
    simp [World.setCell, Array.getElem?_modify, h.box]
  · exact (Below.heap_setCell cur ⟨w.heap.size, i, none⟩ v _ (by simp)).trans h.res

theorem op_facts {w : World} {g : Nat} {o : OpD} (h : w.heap[g]? = some (.cells (opCells o) 58 (0, 0))) :
    w.cell? ⟨g, 0, none⟩ = some (.int .i64 o.kind) ∧ w.cell? ⟨g, 1, none⟩ = some (.string o.key) ∧ w.cell? ⟨g, 2, none⟩ = some (.string o.upto) ∧ w.cell? ⟨g, 3, none⟩ = some (.int .u64 (o.val : Int)) ∧ w.cell? ⟨g, 4, none⟩ = some (.int .i64 o.limit) ∧
    w.frozen? ⟨g, 0, none⟩ = false ∧ w.frozen? ⟨g, 1, none⟩ = false ∧ w.frozen? ⟨g, 2, none⟩ = false ∧ w.frozen? ⟨g, 3, none⟩ = false ∧ w.frozen? ⟨g, 4, none⟩ = false := by
  simp [World.cell?, World.frozen?, h, opCells]
theorem op_zero {w : World} {g : Nat} (h : w.heap[g]? = some (.cells opZ 58 (0, 0))) :
    w.cell? ⟨g, 0, none⟩ = some (.int .i64 0) ∧ w.cell? ⟨g, 1, none⟩ = some (.string ⟨#[]⟩) ∧ w.cell? ⟨g, 2, none⟩ = some (.string ⟨#[]⟩) ∧ w.cell? ⟨g, 3, none⟩ = some (.int .u64 0) ∧ w.cell? ⟨g, 4, none⟩ = some (.int .i64 0) ∧
    w.frozen? ⟨g, 0, none⟩ = false ∧ w.frozen? ⟨g, 1, none⟩ = false ∧ w.frozen? ⟨g, 2, none⟩ = false ∧ w.frozen? ⟨g, 3, none⟩ = false ∧ w.frozen? ⟨g, 4, none⟩ = false := by
  simp [World.cell?, World.frozen?, h, opZ]

set_option maxRecDepth 100000 in
set_option maxHeartbeats 16000000 in
theorem refplain_any (o : OpD) (w : World) : Calls Try.prog 44 #[.agg (opCells o)] w (Ret (.agg (opCells (plainO o))) w) := by
  have HT := Lib.hid (Two.new w o)
  have HU := Lib.hid (refuses0_any o.kind)
  have HUk := Lib.hid (fun W => Calls.to (refuses_any o.kind 107 W) (congrArg Value.bool (uses_k o.kind)))
  have HUt := Lib.hid (fun W => Calls.to (refuses_any o.kind 116 W) (congrArg Value.bool (uses_t o.kind)))
  have HUv := Lib.hid (fun W => Calls.to (refuses_any o.kind 118 W) (congrArg Value.bool (uses_v o.kind)))
  have HUl := Lib.hid (fun W => Calls.to (refuses_any o.kind 108 W) (congrArg Value.bool (uses_l o.kind)))
  have he := uses_none o.kind
  have hp : plainO o = plainV (isKind o.kind) (usesKey o.kind) (usesTo o.kind) (usesVal o.kind) o := rfl
  rw [hp]
  clear hp
  generalize isKind o.kind = ik at he ⊢
  generalize usesKey o.kind = ku at HUk ⊢
  generalize usesTo o.kind = tu at HUt HUl ⊢
  generalize usesVal o.kind = vu at HUv ⊢
  generalize usesS o.kind = us at he HU
  obtain ⟨kind, key, upto, val, limit⟩ := o
  simp only [] at HU HUk HUt HUv HUl
  simp only [opCells, opZ] at HT ⊢
  cases ik
  · simp only [Bool.not_false] at he
    simp only [plainV, if_neg Bool.false_ne_true]
    go_enter Try.func44, Try.ntmps44
    go_upto_region 1 with fail
    generalize (w.alloc _).alloc _ = W at HT ⊢
    obtain ⟨c0, c1, c2, c3, c4, y0, y1, y2, y3, y4⟩ := op_facts HT.out.box
    obtain ⟨r0, r1, r2, r3, r4, q0, q1, q2, q3, q4⟩ := op_zero HT.out.res
    simp only [] at c0 c1 c2 c3 c4
    go_wp2_with fail
    refine (HU.out _).mono ?_
    rintro e wn ⟨rfl, hbn⟩
    replace HT := Lib.hid (HT.out.up hbn)
    clear hbn
    clear c0 c1 c2 c3 c4 y0 y1 y2 y3 y4 r0 r1 r2 r3 r4 q0 q1 q2 q3 q4
    obtain ⟨c0, c1, c2, c3, c4, y0, y1, y2, y3, y4⟩ := op_facts HT.out.box
    obtain ⟨r0, r1, r2, r3, r4, q0, q1, q2, q3, q4⟩ := op_zero HT.out.res
    simp only [] at c0 c1 c2 c3 c4
    go_wp2_with fail
    all_goals
      exact bodyPost_ret (v := .agg #[.int .i64 0, .string ⟨#[]⟩, .string ⟨#[]⟩, .int .u64 0, .int .i64 0]) (by simp [results, Try.results44, go_sem, *]) rfl ⟨rfl, five_set HT.out.below w.heap.size _ _ _ _ _ (Nat.le_succ _)⟩
  · simp only [Bool.not_true] at he
    cases ku <;> cases tu <;> cases vu
    · simp only [plainV, if_pos rfl, if_neg Bool.false_ne_true]
      go_enter Try.func44, Try.ntmps44
      go_upto_region 1 with fail
      generalize (w.alloc _).alloc _ = W at HT ⊢
      obtain ⟨c0, c1, c2, c3, c4, y0, y1, y2, y3, y4⟩ := op_facts HT.out.box
      obtain ⟨r0, r1, r2, r3, r4, q0, q1, q2, q3, q4⟩ := op_zero HT.out.res
      simp only [] at c0 c1 c2 c3 c4
      go_wp2_with fail
      refine (HU.out _).mono ?_
      rintro e wn ⟨rfl, hbn⟩
      replace HT := Lib.hid (HT.out.up hbn)
      clear hbn
      clear c0 c1 c2 c3 c4 y0 y1 y2 y3 y4 r0 r1 r2 r3 r4 q0 q1 q2 q3 q4
      obtain ⟨c0, c1, c2, c3, c4, y0, y1, y2, y3, y4⟩ := op_facts HT.out.box
      obtain ⟨r0, r1, r2, r3, r4, q0, q1, q2, q3, q4⟩ := op_zero HT.out.res
      simp only [] at c0 c1 c2 c3 c4
      go_wp2_with fail
      refine (HUk.out _).mono ?_
      rintro e wn ⟨rfl, hbn⟩
      replace HT := Lib.hid (HT.out.up hbn)
      clear hbn
      clear c0 c1 c2 c3 c4 y0 y1 y2 y3 y4 r0 r1 r2 r3 r4 q0 q1 q2 q3 q4
      obtain ⟨c0, c1, c2, c3, c4, y0, y1, y2, y3, y4⟩ := op_facts HT.out.box
      obtain ⟨r0, r1, r2, r3, r4, q0, q1, q2, q3, q4⟩ := op_zero HT.out.res
      simp only [] at c0 c1 c2 c3 c4
      go_wp2_with fail
      replace HT := Lib.hid (HT.out.set (o' := ⟨kind, ⟨#[]⟩, upto, val, limit⟩) 1 (.string ⟨#[]⟩) rfl)
      generalize World.setCell _ _ _ = W5 at HT ⊢
      refine (HUt.out _).mono ?_
      rintro e wn ⟨rfl, hbn⟩
      replace HT := Lib.hid (HT.out.up hbn)
      clear hbn
      clear c0 c1 c2 c3 c4 y0 y1 y2 y3 y4 r0 r1 r2 r3 r4 q0 q1 q2 q3 q4
      obtain ⟨c0, c1, c2, c3, c4, y0, y1, y2, y3, y4⟩ := op_facts HT.out.box
      obtain ⟨r0, r1, r2, r3, r4, q0, q1, q2, q3, q4⟩ := op_zero HT.out.res
      simp only [] at c0 c1 c2 c3 c4
      go_wp2_with fail
      replace HT := Lib.hid (HT.out.set (o' := ⟨kind, ⟨#[]⟩, ⟨#[]⟩, val, limit⟩) 2 (.string ⟨#[]⟩) rfl)
      generalize World.setCell _ _ _ = W5 at HT ⊢
      refine (HUv.out _).mono ?_
      rintro e wn ⟨rfl, hbn⟩
      replace HT := Lib.hid (HT.out.up hbn)
      clear hbn
      clear c0 c1 c2 c3 c4 y0 y1 y2 y3 y4 r0 r1 r2 r3 r4 q0 q1 q2 q3 q4
      obtain ⟨c0, c1, c2, c3, c4, y0, y1, y2, y3, y4⟩ := op_facts HT.out.box
      obtain ⟨r0, r1, r2, r3, r4, q0, q1, q2, q3, q4⟩ := op_zero HT.out.res
      simp only [] at c0 c1 c2 c3 c4
      go_wp2_with fail
      replace HT := Lib.hid (HT.out.set (o' := ⟨kind, ⟨#[]⟩, ⟨#[]⟩, 0, limit⟩) 3 (.int .u64 0) rfl)
      generalize World.setCell _ _ _ = W5 at HT ⊢
      refine (HUl.out _).mono ?_
      rintro e wn ⟨rfl, hbn⟩
      replace HT := Lib.hid (HT.out.up hbn)
      clear hbn
      clear c0 c1 c2 c3 c4 y0 y1 y2 y3 y4 r0 r1 r2 r3 r4 q0 q1 q2 q3 q4
      obtain ⟨c0, c1, c2, c3, c4, y0, y1, y2, y3, y4⟩ := op_facts HT.out.box
      obtain ⟨r0, r1, r2, r3, r4, q0, q1, q2, q3, q4⟩ := op_zero HT.out.res
      simp only [] at c0 c1 c2 c3 c4
      go_wp2_with fail
      all_goals
        exact bodyPost_ret (v := .agg #[.int .i64 kind, .string ⟨#[]⟩, .string ⟨#[]⟩, .int .u64 0, .int .i64 0]) (by simp [results, Try.results44, go_sem, *]) rfl ⟨rfl, five_set (HT.out.below.setCell (p := ⟨w.heap.size, 4, none⟩) (Nat.le_refl _) _) w.heap.size _ _ _ _ _ (Nat.le_succ _)⟩
    · simp only [plainV, if_pos rfl, if_neg Bool.false_ne_true]
      go_enter Try.func44, Try.ntmps44
      go_upto_region 1 with fail
      generalize (w.alloc _).alloc _ = W at HT ⊢
      obtain ⟨c0, c1, c2, c3, c4, y0, y1, y2, y3, y4⟩ := op_facts HT.out.box
      obtain ⟨r0, r1, r2, r3, r4, q0, q1, q2, q3, q4⟩ := op_zero HT.out.res
      simp only [] at c0 c1 c2 c3 c4
      go_wp2_with fail
      refine (HU.out _).mono ?_
      rintro e wn ⟨rfl, hbn⟩
      replace HT := Lib.hid (HT.out.up hbn)
      clear hbn
      clear c0 c1 c2 c3 c4 y0 y1 y2 y3 y4 r0 r1 r2 r3 r4 q0 q1 q2 q3 q4
      obtain ⟨c0, c1, c2, c3, c4, y0, y1, y2, y3, y4⟩ := op_facts HT.out.box
      obtain ⟨r0, r1, r2, r3, r4, q0, q1, q2, q3, q4⟩ := op_zero HT.out.res
      simp only [] at c0 c1 c2 c3 c4
      go_wp2_with fail
      refine (HUk.out _).mono ?_
      rintro e wn ⟨rfl, hbn⟩
      replace HT := Lib.hid (HT.out.up hbn)
      clear hbn
      clear c0 c1 c2 c3 c4 y0 y1 y2 y3 y4 r0 r1 r2 r3 r4 q0 q1 q2 q3 q4
      obtain ⟨c0, c1, c2, c3, c4, y0, y1, y2, y3, y4⟩ := op_facts HT.out.box
      obtain ⟨r0, r1, r2, r3, r4, q0, q1, q2, q3, q4⟩ := op_zero HT.out.res
      simp only [] at c0 c1 c2 c3 c4
      go_wp2_with fail
      replace HT := Lib.hid (HT.out.set (o' := ⟨kind, ⟨#[]⟩, upto, val, limit⟩) 1 (.string ⟨#[]⟩) rfl)
      generalize World.setCell _ _ _ = W5 at HT ⊢
      refine (HUt.out _).mono ?_
      rintro e wn ⟨rfl, hbn⟩
      replace HT := Lib.hid (HT.out.up hbn)
      clear hbn
      clear c0 c1 c2 c3 c4 y0 y1 y2 y3 y4 r0 r1 r2 r3 r4 q0 q1 q2 q3 q4
      obtain ⟨c0, c1, c2, c3, c4, y0, y1, y2, y3, y4⟩ := op_facts HT.out.box
      obtain ⟨r0, r1, r2, r3, r4, q0, q1, q2, q3, q4⟩ := op_zero HT.out.res
      simp only [] at c0 c1 c2 c3 c4
      go_wp2_with fail
      replace HT := Lib.hid (HT.out.set (o' := ⟨kind, ⟨#[]⟩, ⟨#[]⟩, val, limit⟩) 2 (.string ⟨#[]⟩) rfl)
      generalize World.setCell _ _ _ = W5 at HT ⊢
      refine (HUv.out _).mono ?_
      rintro e wn ⟨rfl, hbn⟩
      replace HT := Lib.hid (HT.out.up hbn)
      clear hbn
      clear c0 c1 c2 c3 c4 y0 y1 y2 y3 y4 r0 r1 r2 r3 r4 q0 q1 q2 q3 q4
      obtain ⟨c0, c1, c2, c3, c4, y0, y1, y2, y3, y4⟩ := op_facts HT.out.box
      obtain ⟨r0, r1, r2, r3, r4, q0, q1, q2, q3, q4⟩ := op_zero HT.out.res
      simp only [] at c0 c1 c2 c3 c4
      go_wp2_with fail
      refine (HUl.out _).mono ?_
      rintro e wn ⟨rfl, hbn⟩
      replace HT := Lib.hid (HT.out.up hbn)
      clear hbn
      clear c0 c1 c2 c3 c4 y0 y1 y2 y3 y4 r0 r1 r2 r3 r4 q0 q1 q2 q3 q4
      obtain ⟨c0, c1, c2, c3, c4, y0, y1, y2, y3, y4⟩ := op_facts HT.out.box
      obtain ⟨r0, r1, r2, r3, r4, q0, q1, q2, q3, q4⟩ := op_zero HT.out.res
      simp only [] at c0 c1 c2 c3 c4
      go_wp2_with fail
      all_goals
        exact bodyPost_ret (v := .agg #[.int .i64 kind, .string ⟨#[]⟩, .string ⟨#[]⟩, .int .u64 (val : Int), .int .i64 0]) (by simp [results, Try.results44, go_sem, *]) rfl ⟨rfl, five_set (HT.out.below.setCell (p := ⟨w.heap.size, 4, none⟩) (Nat.le_refl _) _) w.heap.size _ _ _ _ _ (Nat.le_succ _)⟩
    · simp only [plainV, if_pos rfl, if_neg Bool.false_ne_true]
      go_enter Try.func44, Try.ntmps44
      go_upto_region 1 with fail
      generalize (w.alloc _).alloc _ = W at HT ⊢
      obtain ⟨c0, c1, c2, c3, c4, y0, y1, y2, y3, y4⟩ := op_facts HT.out.box
      obtain ⟨r0, r1, r2, r3, r4, q0, q1, q2, q3, q4⟩ := op_zero HT.out.res
      simp only [] at c0 c1 c2 c3 c4
      go_wp2_with fail
      refine (HU.out _).mono ?_
      rintro e wn ⟨rfl, hbn⟩
      replace HT := Lib.hid (HT.out.up hbn)
      clear hbn
      clear c0 c1 c2 c3 c4 y0 y1 y2 y3 y4 r0 r1 r2 r3 r4 q0 q1 q2 q3 q4
      obtain ⟨c0, c1, c2, c3, c4, y0, y1, y2, y3, y4⟩ := op_facts HT.out.box
      obtain ⟨r0, r1, r2, r3, r4, q0, q1, q2, q3, q4⟩ := op_zero HT.out.res
      simp only [] at c0 c1 c2 c3 c4
      go_wp2_with fail
      refine (HUk.out _).mono ?_
      rintro e wn ⟨rfl, hbn⟩
      replace HT := Lib.hid (HT.out.up hbn)
      clear hbn
      clear c0 c1 c2 c3 c4 y0 y1 y2 y3 y4 r0 r1 r2 r3 r4 q0 q1 q2 q3 q4
      obtain ⟨c0, c1, c2, c3, c4, y0, y1, y2, y3, y4⟩ := op_facts HT.out.box
      obtain ⟨r0, r1, r2, r3, r4, q0, q1, q2, q3, q4⟩ := op_zero HT.out.res
      simp only [] at c0 c1 c2 c3 c4
      go_wp2_with fail
      replace HT := Lib.hid (HT.out.set (o' := ⟨kind, ⟨#[]⟩, upto, val, limit⟩) 1 (.string ⟨#[]⟩) rfl)
      generalize World.setCell _ _ _ = W5 at HT ⊢
      refine (HUt.out _).mono ?_
      rintro e wn ⟨rfl, hbn⟩
      replace HT := Lib.hid (HT.out.up hbn)
      clear hbn
      clear c0 c1 c2 c3 c4 y0 y1 y2 y3 y4 r0 r1 r2 r3 r4 q0 q1 q2 q3 q4
      obtain ⟨c0, c1, c2, c3, c4, y0, y1, y2, y3, y4⟩ := op_facts HT.out.box
      obtain ⟨r0, r1, r2, r3, r4, q0, q1, q2, q3, q4⟩ := op_zero HT.out.res
      simp only [] at c0 c1 c2 c3 c4
      go_wp2_with fail
      refine (HUv.out _).mono ?_
      rintro e wn ⟨rfl, hbn⟩
      replace HT := Lib.hid (HT.out.up hbn)
      clear hbn
      clear c0 c1 c2 c3 c4 y0 y1 y2 y3 y4 r0 r1 r2 r3 r4 q0 q1 q2 q3 q4
      obtain ⟨c0, c1, c2, c3, c4, y0, y1, y2, y3, y4⟩ := op_facts HT.out.box
      obtain ⟨r0, r1, r2, r3, r4, q0, q1, q2, q3, q4⟩ := op_zero HT.out.res
      simp only [] at c0 c1 c2 c3 c4
      go_wp2_with fail
      replace HT := Lib.hid (HT.out.set (o' := ⟨kind, ⟨#[]⟩, upto, 0, limit⟩) 3 (.int .u64 0) rfl)
      generalize World.setCell _ _ _ = W5 at HT ⊢
      refine (HUl.out _).mono ?_
      rintro e wn ⟨rfl, hbn⟩
      replace HT := Lib.hid (HT.out.up hbn)
      clear hbn
      clear c0 c1 c2 c3 c4 y0 y1 y2 y3 y4 r0 r1 r2 r3 r4 q0 q1 q2 q3 q4
      obtain ⟨c0, c1, c2, c3, c4, y0, y1, y2, y3, y4⟩ := op_facts HT.out.box
      obtain ⟨r0, r1, r2, r3, r4, q0, q1, q2, q3, q4⟩ := op_zero HT.out.res
      simp only [] at c0 c1 c2 c3 c4
      go_wp2_with fail
      all_goals
        exact bodyPost_ret (v := .agg #[.int .i64 kind, .string ⟨#[]⟩, .string upto, .int .u64 0, .int .i64 limit]) (by simp [results, Try.results44, go_sem, *]) rfl ⟨rfl, five_set HT.out.below w.heap.size _ _ _ _ _ (Nat.le_succ _)⟩
    · simp only [plainV, if_pos rfl, if_neg Bool.false_ne_true]
      go_enter Try.func44, Try.ntmps44
      go_upto_region 1 with fail
      generalize (w.alloc _).alloc _ = W at HT ⊢
      obtain ⟨c0, c1, c2, c3, c4, y0, y1, y2, y3, y4⟩ := op_facts HT.out.box
      obtain ⟨r0, r1, r2, r3, r4, q0, q1, q2, q3, q4⟩ := op_zero HT.out.res
      simp only [] at c0 c1 c2 c3 c4
      go_wp2_with fail
      refine (HU.out _).mono ?_
      rintro e wn ⟨rfl, hbn⟩
      replace HT := Lib.hid (HT.out.up hbn)
      clear hbn
      clear c0 c1 c2 c3 c4 y0 y1 y2 y3 y4 r0 r1 r2 r3 r4 q0 q1 q2 q3 q4
      obtain ⟨c0, c1, c2, c3, c4, y0, y1, y2, y3, y4⟩ := op_facts HT.out.box
      obtain ⟨r0, r1, r2, r3, r4, q0, q1, q2, q3, q4⟩ := op_zero HT.out.res
      simp only [] at c0 c1 c2 c3 c4
      go_wp2_with fail
      refine (HUk.out _).mono ?_
      rintro e wn ⟨rfl, hbn⟩
      replace HT := Lib.hid (HT.out.up hbn)
      clear hbn
      clear c0 c1 c2 c3 c4 y0 y1 y2 y3 y4 r0 r1 r2 r3 r4 q0 q1 q2 q3 q4
      obtain ⟨c0, c1, c2, c3, c4, y0, y1, y2, y3, y4⟩ := op_facts HT.out.box
      obtain ⟨r0, r1, r2, r3, r4, q0, q1, q2, q3, q4⟩ := op_zero HT.out.res
      simp only [] at c0 c1 c2 c3 c4
      go_wp2_with fail
      replace HT := Lib.hid (HT.out.set (o' := ⟨kind, ⟨#[]⟩, upto, val, limit⟩) 1 (.string ⟨#[]⟩) rfl)
      generalize World.setCell _ _ _ = W5 at HT ⊢
      refine (HUt.out _).mono ?_
      rintro e wn ⟨rfl, hbn⟩
      replace HT := Lib.hid (HT.out.up hbn)
      clear hbn
      clear c0 c1 c2 c3 c4 y0 y1 y2 y3 y4 r0 r1 r2 r3 r4 q0 q1 q2 q3 q4
      obtain ⟨c0, c1, c2, c3, c4, y0, y1, y2, y3, y4⟩ := op_facts HT.out.box
      obtain ⟨r0, r1, r2, r3, r4, q0, q1, q2, q3, q4⟩ := op_zero HT.out.res
      simp only [] at c0 c1 c2 c3 c4
      go_wp2_with fail
      refine (HUv.out _).mono ?_
      rintro e wn ⟨rfl, hbn⟩
      replace HT := Lib.hid (HT.out.up hbn)
      clear hbn
      clear c0 c1 c2 c3 c4 y0 y1 y2 y3 y4 r0 r1 r2 r3 r4 q0 q1 q2 q3 q4
      obtain ⟨c0, c1, c2, c3, c4, y0, y1, y2, y3, y4⟩ := op_facts HT.out.box
      obtain ⟨r0, r1, r2, r3, r4, q0, q1, q2, q3, q4⟩ := op_zero HT.out.res
      simp only [] at c0 c1 c2 c3 c4
      go_wp2_with fail
      refine (HUl.out _).mono ?_
      rintro e wn ⟨rfl, hbn⟩
      replace HT := Lib.hid (HT.out.up hbn)
      clear hbn
      clear c0 c1 c2 c3 c4 y0 y1 y2 y3 y4 r0 r1 r2 r3 r4 q0 q1 q2 q3 q4
      obtain ⟨c0, c1, c2, c3, c4, y0, y1, y2, y3, y4⟩ := op_facts HT.out.box
      obtain ⟨r0, r1, r2, r3, r4, q0, q1, q2, q3, q4⟩ := op_zero HT.out.res
      simp only [] at c0 c1 c2 c3 c4
      go_wp2_with fail
      all_goals
        exact bodyPost_ret (v := .agg #[.int .i64 kind, .string ⟨#[]⟩, .string upto, .int .u64 (val : Int), .int .i64 limit]) (by simp [results, Try.results44, go_sem, *]) rfl ⟨rfl, five_set HT.out.below w.heap.size _ _ _ _ _ (Nat.le_succ _)⟩
    · simp only [plainV, if_pos rfl, if_neg Bool.false_ne_true]
      go_enter Try.func44, Try.ntmps44
      go_upto_region 1 with fail
      generalize (w.alloc _).alloc _ = W at HT ⊢
      obtain ⟨c0, c1, c2, c3, c4, y0, y1, y2, y3, y4⟩ := op_facts HT.out.box
      obtain ⟨r0, r1, r2, r3, r4, q0, q1, q2, q3, q4⟩ := op_zero HT.out.res
      simp only [] at c0 c1 c2 c3 c4
      go_wp2_with fail
      refine (HU.out _).mono ?_
      rintro e wn ⟨rfl, hbn⟩
      replace HT := Lib.hid (HT.out.up hbn)
      clear hbn
      clear c0 c1 c2 c3 c4 y0 y1 y2 y3 y4 r0 r1 r2 r3 r4 q0 q1 q2 q3 q4
      obtain ⟨c0, c1, c2, c3, c4, y0, y1, y2, y3, y4⟩ := op_facts HT.out.box
      obtain ⟨r0, r1, r2, r3, r4, q0, q1, q2, q3, q4⟩ := op_zero HT.out.res
      simp only [] at c0 c1 c2 c3 c4
      go_wp2_with fail
      refine (HUk.out _).mono ?_
      rintro e wn ⟨rfl, hbn⟩
      replace HT := Lib.hid (HT.out.up hbn)
      clear hbn
      clear c0 c1 c2 c3 c4 y0 y1 y2 y3 y4 r0 r1 r2 r3 r4 q0 q1 q2 q3 q4
      obtain ⟨c0, c1, c2, c3, c4, y0, y1, y2, y3, y4⟩ := op_facts HT.out.box
      obtain ⟨r0, r1, r2, r3, r4, q0, q1, q2, q3, q4⟩ := op_zero HT.out.res
      simp only [] at c0 c1 c2 c3 c4
      go_wp2_with fail
      refine (HUt.out _).mono ?_
      rintro e wn ⟨rfl, hbn⟩
      replace HT := Lib.hid (HT.out.up hbn)
      clear hbn
      clear c0 c1 c2 c3 c4 y0 y1 y2 y3 y4 r0 r1 r2 r3 r4 q0 q1 q2 q3 q4
      obtain ⟨c0, c1, c2, c3, c4, y0, y1, y2, y3, y4⟩ := op_facts HT.out.box
      obtain ⟨r0, r1, r2, r3, r4, q0, q1, q2, q3, q4⟩ := op_zero HT.out.res
      simp only [] at c0 c1 c2 c3 c4
      go_wp2_with fail
      replace HT := Lib.hid (HT.out.set (o' := ⟨kind, key, ⟨#[]⟩, val, limit⟩) 2 (.string ⟨#[]⟩) rfl)
      generalize World.setCell _ _ _ = W5 at HT ⊢
      refine (HUv.out _).mono ?_
      rintro e wn ⟨rfl, hbn⟩
      replace HT := Lib.hid (HT.out.up hbn)
      clear hbn
      clear c0 c1 c2 c3 c4 y0 y1 y2 y3 y4 r0 r1 r2 r3 r4 q0 q1 q2 q3 q4
      obtain ⟨c0, c1, c2, c3, c4, y0, y1, y2, y3, y4⟩ := op_facts HT.out.box
      obtain ⟨r0, r1, r2, r3, r4, q0, q1, q2, q3, q4⟩ := op_zero HT.out.res
      simp only [] at c0 c1 c2 c3 c4
      go_wp2_with fail
      replace HT := Lib.hid (HT.out.set (o' := ⟨kind, key, ⟨#[]⟩, 0, limit⟩) 3 (.int .u64 0) rfl)
      generalize World.setCell _ _ _ = W5 at HT ⊢
      refine (HUl.out _).mono ?_
      rintro e wn ⟨rfl, hbn⟩
      replace HT := Lib.hid (HT.out.up hbn)
      clear hbn
      clear c0 c1 c2 c3 c4 y0 y1 y2 y3 y4 r0 r1 r2 r3 r4 q0 q1 q2 q3 q4
      obtain ⟨c0, c1, c2, c3, c4, y0, y1, y2, y3, y4⟩ := op_facts HT.out.box
      obtain ⟨r0, r1, r2, r3, r4, q0, q1, q2, q3, q4⟩ := op_zero HT.out.res
      simp only [] at c0 c1 c2 c3 c4
      go_wp2_with fail
      all_goals
        exact bodyPost_ret (v := .agg #[.int .i64 kind, .string key, .string ⟨#[]⟩, .int .u64 0, .int .i64 0]) (by simp [results, Try.results44, go_sem, *]) rfl ⟨rfl, five_set (HT.out.below.setCell (p := ⟨w.heap.size, 4, none⟩) (Nat.le_refl _) _) w.heap.size _ _ _ _ _ (Nat.le_succ _)⟩
    · simp only [plainV, if_pos rfl, if_neg Bool.false_ne_true]
      go_enter Try.func44, Try.ntmps44
      go_upto_region 1 with fail
      generalize (w.alloc _).alloc _ = W at HT ⊢
      obtain ⟨c0, c1, c2, c3, c4, y0, y1, y2, y3, y4⟩ := op_facts HT.out.box
      obtain ⟨r0, r1, r2, r3, r4, q0, q1, q2, q3, q4⟩ := op_zero HT.out.res
      simp only [] at c0 c1 c2 c3 c4
      go_wp2_with fail
      refine (HU.out _).mono ?_
      rintro e wn ⟨rfl, hbn⟩
      replace HT := Lib.hid (HT.out.up hbn)
      clear hbn
      clear c0 c1 c2 c3 c4 y0 y1 y2 y3 y4 r0 r1 r2 r3 r4 q0 q1 q2 q3 q4
      obtain ⟨c0, c1, c2, c3, c4, y0, y1, y2, y3, y4⟩ := op_facts HT.out.box
      obtain ⟨r0, r1, r2, r3, r4, q0, q1, q2, q3, q4⟩ := op_zero HT.out.res
      simp only [] at c0 c1 c2 c3 c4
      go_wp2_with fail
      refine (HUk.out _).mono ?_
      rintro e wn ⟨rfl, hbn⟩
      replace HT := Lib.hid (HT.out.up hbn)
      clear hbn
      clear c0 c1 c2 c3 c4 y0 y1 y2 y3 y4 r0 r1 r2 r3 r4 q0 q1 q2 q3 q4
      obtain ⟨c0, c1, c2, c3, c4, y0, y1, y2, y3, y4⟩ := op_facts HT.out.box
      obtain ⟨r0, r1, r2, r3, r4, q0, q1, q2, q3, q4⟩ := op_zero HT.out.res
      simp only [] at c0 c1 c2 c3 c4
      go_wp2_with fail
      refine (HUt.out _).mono ?_
      rintro e wn ⟨rfl, hbn⟩
      replace HT := Lib.hid (HT.out.up hbn)
      clear hbn
      clear c0 c1 c2 c3 c4 y0 y1 y2 y3 y4 r0 r1 r2 r3 r4 q0 q1 q2 q3 q4
      obtain ⟨c0, c1, c2, c3, c4, y0, y1, y2, y3, y4⟩ := op_facts HT.out.box
      obtain ⟨r0, r1, r2, r3, r4, q0, q1, q2, q3, q4⟩ := op_zero HT.out.res
      simp only [] at c0 c1 c2 c3 c4
      go_wp2_with fail
      replace HT := Lib.hid (HT.out.set (o' := ⟨kind, key, ⟨#[]⟩, val, limit⟩) 2 (.string ⟨#[]⟩) rfl)
      generalize World.setCell _ _ _ = W5 at HT ⊢
      refine (HUv.out _).mono ?_
      rintro e wn ⟨rfl, hbn⟩
      replace HT := Lib.hid (HT.out.up hbn)
      clear hbn
      clear c0 c1 c2 c3 c4 y0 y1 y2 y3 y4 r0 r1 r2 r3 r4 q0 q1 q2 q3 q4
      obtain ⟨c0, c1, c2, c3, c4, y0, y1, y2, y3, y4⟩ := op_facts HT.out.box
      obtain ⟨r0, r1, r2, r3, r4, q0, q1, q2, q3, q4⟩ := op_zero HT.out.res
      simp only [] at c0 c1 c2 c3 c4
      go_wp2_with fail
      refine (HUl.out _).mono ?_
      rintro e wn ⟨rfl, hbn⟩
      replace HT := Lib.hid (HT.out.up hbn)
      clear hbn
      clear c0 c1 c2 c3 c4 y0 y1 y2 y3 y4 r0 r1 r2 r3 r4 q0 q1 q2 q3 q4
      obtain ⟨c0, c1, c2, c3, c4, y0, y1, y2, y3, y4⟩ := op_facts HT.out.box
      obtain ⟨r0, r1, r2, r3, r4, q0, q1, q2, q3, q4⟩ := op_zero HT.out.res
      simp only [] at c0 c1 c2 c3 c4
      go_wp2_with fail
      all_goals
        exact bodyPost_ret (v := .agg #[.int .i64 kind, .string key, .string ⟨#[]⟩, .int .u64 (val : Int), .int .i64 0]) (by simp [results, Try.results44, go_sem, *]) rfl ⟨rfl, five_set (HT.out.below.setCell (p := ⟨w.heap.size, 4, none⟩) (Nat.le_refl _) _) w.heap.size _ _ _ _ _ (Nat.le_succ _)⟩
    · simp only [plainV, if_pos rfl, if_neg Bool.false_ne_true]
      go_enter Try.func44, Try.ntmps44
      go_upto_region 1 with fail
      generalize (w.alloc _).alloc _ = W at HT ⊢
      obtain ⟨c0, c1, c2, c3, c4, y0, y1, y2, y3, y4⟩ := op_facts HT.out.box
      obtain ⟨r0, r1, r2, r3, r4, q0, q1, q2, q3, q4⟩ := op_zero HT.out.res
      simp only [] at c0 c1 c2 c3 c4
      go_wp2_with fail
      refine (HU.out _).mono ?_
      rintro e wn ⟨rfl, hbn⟩
      replace HT := Lib.hid (HT.out.up hbn)
      clear hbn
      clear c0 c1 c2 c3 c4 y0 y1 y2 y3 y4 r0 r1 r2 r3 r4 q0 q1 q2 q3 q4
      obtain ⟨c0, c1, c2, c3, c4, y0, y1, y2, y3, y4⟩ := op_facts HT.out.box
      obtain ⟨r0, r1, r2, r3, r4, q0, q1, q2, q3, q4⟩ := op_zero HT.out.res
      simp only [] at c0 c1 c2 c3 c4
      go_wp2_with fail
      refine (HUk.out _).mono ?_
      rintro e wn ⟨rfl, hbn⟩
      replace HT := Lib.hid (HT.out.up hbn)
      clear hbn
      clear c0 c1 c2 c3 c4 y0 y1 y2 y3 y4 r0 r1 r2 r3 r4 q0 q1 q2 q3 q4
      obtain ⟨c0, c1, c2, c3, c4, y0, y1, y2, y3, y4⟩ := op_facts HT.out.box
      obtain ⟨r0, r1, r2, r3, r4, q0, q1, q2, q3, q4⟩ := op_zero HT.out.res
      simp only [] at c0 c1 c2 c3 c4
      go_wp2_with fail
      refine (HUt.out _).mono ?_
      rintro e wn ⟨rfl, hbn⟩
      replace HT := Lib.hid (HT.out.up hbn)
      clear hbn
      clear c0 c1 c2 c3 c4 y0 y1 y2 y3 y4 r0 r1 r2 r3 r4 q0 q1 q2 q3 q4
      obtain ⟨c0, c1, c2, c3, c4, y0, y1, y2, y3, y4⟩ := op_facts HT.out.box
      obtain ⟨r0, r1, r2, r3, r4, q0, q1, q2, q3, q4⟩ := op_zero HT.out.res
      simp only [] at c0 c1 c2 c3 c4
      go_wp2_with fail
      refine (HUv.out _).mono ?_
      rintro e wn ⟨rfl, hbn⟩
      replace HT := Lib.hid (HT.out.up hbn)
      clear hbn
      clear c0 c1 c2 c3 c4 y0 y1 y2 y3 y4 r0 r1 r2 r3 r4 q0 q1 q2 q3 q4
      obtain ⟨c0, c1, c2, c3, c4, y0, y1, y2, y3, y4⟩ := op_facts HT.out.box
      obtain ⟨r0, r1, r2, r3, r4, q0, q1, q2, q3, q4⟩ := op_zero HT.out.res
      simp only [] at c0 c1 c2 c3 c4
      go_wp2_with fail
      replace HT := Lib.hid (HT.out.set (o' := ⟨kind, key, upto, 0, limit⟩) 3 (.int .u64 0) rfl)
      generalize World.setCell _ _ _ = W5 at HT ⊢
      refine (HUl.out _).mono ?_
      rintro e wn ⟨rfl, hbn⟩
      replace HT := Lib.hid (HT.out.up hbn)
      clear hbn
      clear c0 c1 c2 c3 c4 y0 y1 y2 y3 y4 r0 r1 r2 r3 r4 q0 q1 q2 q3 q4
      obtain ⟨c0, c1, c2, c3, c4, y0, y1, y2, y3, y4⟩ := op_facts HT.out.box
      obtain ⟨r0, r1, r2, r3, r4, q0, q1, q2, q3, q4⟩ := op_zero HT.out.res
      simp only [] at c0 c1 c2 c3 c4
      go_wp2_with fail
      all_goals
        exact bodyPost_ret (v := .agg #[.int .i64 kind, .string key, .string upto, .int .u64 0, .int .i64 limit]) (by simp [results, Try.results44, go_sem, *]) rfl ⟨rfl, five_set HT.out.below w.heap.size _ _ _ _ _ (Nat.le_succ _)⟩
    · simp only [plainV, if_pos rfl, if_neg Bool.false_ne_true]
      go_enter Try.func44, Try.ntmps44
      go_upto_region 1 with fail
      generalize (w.alloc _).alloc _ = W at HT ⊢
      obtain ⟨c0, c1, c2, c3, c4, y0, y1, y2, y3, y4⟩ := op_facts HT.out.box
      obtain ⟨r0, r1, r2, r3, r4, q0, q1, q2, q3, q4⟩ := op_zero HT.out.res
      simp only [] at c0 c1 c2 c3 c4
      go_wp2_with fail
      refine (HU.out _).mono ?_
      rintro e wn ⟨rfl, hbn⟩
      replace HT := Lib.hid (HT.out.up hbn)
      clear hbn
      clear c0 c1 c2 c3 c4 y0 y1 y2 y3 y4 r0 r1 r2 r3 r4 q0 q1 q2 q3 q4
      obtain ⟨c0, c1, c2, c3, c4, y0, y1, y2, y3, y4⟩ := op_facts HT.out.box
      obtain ⟨r0, r1, r2, r3, r4, q0, q1, q2, q3, q4⟩ := op_zero HT.out.res
      simp only [] at c0 c1 c2 c3 c4
      go_wp2_with fail
      refine (HUk.out _).mono ?_
      rintro e wn ⟨rfl, hbn⟩
      replace HT := Lib.hid (HT.out.up hbn)
      clear hbn
      clear c0 c1 c2 c3 c4 y0 y1 y2 y3 y4 r0 r1 r2 r3 r4 q0 q1 q2 q3 q4
      obtain ⟨c0, c1, c2, c3, c4, y0, y1, y2, y3, y4⟩ := op_facts HT.out.box
      obtain ⟨r0, r1, r2, r3, r4, q0, q1, q2, q3, q4⟩ := op_zero HT.out.res
      simp only [] at c0 c1 c2 c3 c4
      go_wp2_with fail
      refine (HUt.out _).mono ?_
      rintro e wn ⟨rfl, hbn⟩
      replace HT := Lib.hid (HT.out.up hbn)
      clear hbn
      clear c0 c1 c2 c3 c4 y0 y1 y2 y3 y4 r0 r1 r2 r3 r4 q0 q1 q2 q3 q4
      obtain ⟨c0, c1, c2, c3, c4, y0, y1, y2, y3, y4⟩ := op_facts HT.out.box
      obtain ⟨r0, r1, r2, r3, r4, q0, q1, q2, q3, q4⟩ := op_zero HT.out.res
      simp only [] at c0 c1 c2 c3 c4
      go_wp2_with fail
      refine (HUv.out _).mono ?_
      rintro e wn ⟨rfl, hbn⟩
      replace HT := Lib.hid (HT.out.up hbn)
      clear hbn
      clear c0 c1 c2 c3 c4 y0 y1 y2 y3 y4 r0 r1 r2 r3 r4 q0 q1 q2 q3 q4
      obtain ⟨c0, c1, c2, c3, c4, y0, y1, y2, y3, y4⟩ := op_facts HT.out.box
      obtain ⟨r0, r1, r2, r3, r4, q0, q1, q2, q3, q4⟩ := op_zero HT.out.res
      simp only [] at c0 c1 c2 c3 c4
      go_wp2_with fail
      refine (HUl.out _).mono ?_
      rintro e wn ⟨rfl, hbn⟩
      replace HT := Lib.hid (HT.out.up hbn)
      clear hbn
      clear c0 c1 c2 c3 c4 y0 y1 y2 y3 y4 r0 r1 r2 r3 r4 q0 q1 q2 q3 q4
      obtain ⟨c0, c1, c2, c3, c4, y0, y1, y2, y3, y4⟩ := op_facts HT.out.box
      obtain ⟨r0, r1, r2, r3, r4, q0, q1, q2, q3, q4⟩ := op_zero HT.out.res
      simp only [] at c0 c1 c2 c3 c4
      go_wp2_with fail
      all_goals
        exact bodyPost_ret (v := .agg #[.int .i64 kind, .string key, .string upto, .int .u64 (val : Int), .int .i64 limit]) (by simp [results, Try.results44, go_sem, *]) rfl ⟨rfl, five_set HT.out.below w.heap.size _ _ _ _ _ (Nat.le_succ _)⟩

end Go.Proofs.Ythbafbgnclpbpaa
