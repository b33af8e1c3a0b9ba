/- What the row's step hands over of a slice of calls. No walk. -/
import Derived.Test.YthbafbgnclpbpaaOpenAns
import Derived.Test.YthbafbgnclpbpaaOpenOp
import Derived.Test.YthbafbgnclpbpaaHistA
namespace Go.Proofs.Ythbafbgnclpbpaa
open Go.Joins Go.ChangeShapes Go.WideShapes Go.ChangeAt Go.RowKit Go.Deep

section
variable {H : Type} {enc : TypeId × Value → H} {w : World} {base : Nat} {spare : Nat → Bool} {held : Bool}
theorem cells_int : Try.prog.cellsOf 3 = 1 := by kernel_rfl
theorem cells_str : Try.prog.cellsOf 9 = 1 := by kernel_rfl
theorem cells_u64 : Try.prog.cellsOf 22 = 1 := by kernel_rfl
theorem cells_bool : Try.prog.cellsOf 4 = 1 := by kernel_rfl
theorem cells_pairs : Try.prog.cellsOf 23 = 1 := by kernel_rfl
theorem cells_op : Try.prog.cellsOf 58 = 5 := by kernel_rfl
theorem cells_ans : Try.prog.cellsOf 25 = 4 := by kernel_rfl
theorem cells_call : Try.prog.cellsOf 71 = 15 := by kernel_rfl

set_option maxRecDepth 100000 in
theorem f_op {n0 : Nat} {v1 v2 v3 v4 v5 : Value} {y : DataW H × List MemPlace} (hf : DataW.trod enc Try.prog w base spare held n0 58 [v1, v2, v3, v4, v5] = some y) : ∃ o : OpD, OpOk o ∧ [v1, v2, v3, v4, v5] = (opCells o).toList := by
  obtain ⟨ys, n, _, _, _, hyl, hg⟩ := DataW.trod_struct Try.underlying58 hf
  match ys, hyl with
  | [y0, y1, y2, y3, y4], _ =>
    have t0 : DataW.trod enc Try.prog w base spare held n 3 [v1] = some y0 := by simpa [cells_int] using hg 0 _ rfl
    have t1 : DataW.trod enc Try.prog w base spare held n 9 [v2] = some y1 := by simpa [cells_str] using hg 1 _ rfl
    have t2 : DataW.trod enc Try.prog w base spare held n 9 [v3] = some y2 := by simpa [cells_str] using hg 2 _ rfl
    have t3 : DataW.trod enc Try.prog w base spare held n 22 [v4] = some y3 := by simpa [cells_u64] using hg 3 _ rfl
    have t4 : DataW.trod enc Try.prog w base spare held n 3 [v5] = some y4 := by simpa [cells_int] using hg 4 _ rfl
    obtain ⟨kind, rfl, w0⟩ := g_int Try.underlying3 t0
    obtain ⟨key, rfl, w1⟩ := g_string Try.underlying9 t1
    obtain ⟨upto, rfl, w2⟩ := g_string Try.underlying9 t2
    obtain ⟨val, rfl, w3⟩ := g_u64 Try.underlying22 t3
    obtain ⟨limit, rfl, w4⟩ := g_int Try.underlying3 t4
    exact ⟨⟨kind, key, upto, val, limit⟩, ⟨bd_i64 w0, w1, w2, w3, bd_i64 w4⟩, rfl⟩

set_option maxRecDepth 100000 in
theorem f_ans {n0 : Nat} {v1 v2 v3 v4 : Value} {y : DataW H × List MemPlace} (hf : DataW.trod enc Try.prog w base spare held n0 25 [v1, v2, v3, v4] = some y) :
    ∃ (x : AnsD) (A : Option Addr) (c : Nat), AnsOk x ∧ Prs w A x.pairs.length x.pairs ∧ [v1, v2, v3, v4] = (ansCells x A c).toList := by
  obtain ⟨ys, n, _, _, _, hyl, hg⟩ := DataW.trod_struct Try.underlying25 hf
  match ys, hyl with
  | [y0, y1, y2, y3], _ =>
    have t0 : DataW.trod enc Try.prog w base spare held n 3 [v1] = some y0 := by simpa [cells_int] using hg 0 _ rfl
    have t1 : DataW.trod enc Try.prog w base spare held n 9 [v2] = some y1 := by simpa [cells_str] using hg 1 _ rfl
    have t2 : DataW.trod enc Try.prog w base spare held n 22 [v3] = some y2 := by simpa [cells_u64] using hg 2 _ rfl
    have t3 : DataW.trod enc Try.prog w base spare held n 23 [v4] = some y3 := by simpa [cells_pairs] using hg 3 _ rfl
    obtain ⟨code, rfl, w0⟩ := g_int Try.underlying3 t0
    obtain ⟨key, rfl, w1⟩ := g_string Try.underlying9 t1
    obtain ⟨val, rfl, w2⟩ := g_u64 Try.underlying22 t2
    obtain ⟨A, c, ps, rfl, hp, hpo, _, hpl⟩ := f_pairs t3
    exact ⟨⟨code, key, val, ps⟩, A, c, ⟨bd_i64 w0, w1, w2, hpo, hpl⟩, hp, rfl⟩

set_option maxRecDepth 100000 in
theorem f_call {n0 : Nat} {cs : List Value} {y : DataW H × List MemPlace} (hl : cs.length = 15) (hf : DataW.trod enc Try.prog w base spare held n0 71 cs = some y) :
    ∃ x : CallD, CallOk x ∧ Prs w x.pa x.ans.pairs.length x.ans.pairs ∧ cs = (callCells x).toList := by
  match cs, hl with
  | [v0, v1, v2, v3, v4, v5, v6, v7, v8, v9, v10, v11, v12, v13, v14], _ =>
    obtain ⟨ys, n, _, _, _, hyl, hg⟩ := DataW.trod_struct Try.underlying71 hf
    match ys, hyl with
    | [y0, y1, y2, y3, y4, y5, y6, y7], _ =>
      have t0 : DataW.trod enc Try.prog w base spare held n 3 [v0] = some y0 := by simpa [cells_int] using hg 0 _ rfl
      have t1 : DataW.trod enc Try.prog w base spare held n 58 [v1, v2, v3, v4, v5] = some y1 := by simpa [cells_op] using hg 1 _ rfl
      have t2 : DataW.trod enc Try.prog w base spare held n 3 [v6] = some y2 := by simpa [cells_int] using hg 2 _ rfl
      have t3 : DataW.trod enc Try.prog w base spare held n 3 [v7] = some y3 := by simpa [cells_int] using hg 3 _ rfl
      have t4 : DataW.trod enc Try.prog w base spare held n 3 [v8] = some y4 := by simpa [cells_int] using hg 4 _ rfl
      have t5 : DataW.trod enc Try.prog w base spare held n 3 [v9] = some y5 := by simpa [cells_int] using hg 5 _ rfl
      have t6 : DataW.trod enc Try.prog w base spare held n 4 [v10] = some y6 := by simpa [cells_bool] using hg 6 _ rfl
      have t7 : DataW.trod enc Try.prog w base spare held n 25 [v11, v12, v13, v14] = some y7 := by simpa [cells_ans] using hg 7 _ rfl
      obtain ⟨thread, rfl, w0⟩ := g_int Try.underlying3 t0
      obtain ⟨o, wo, eo⟩ := f_op t1
      obtain ⟨since, rfl, w2⟩ := g_int Try.underlying3 t2
      obtain ⟨done, rfl, w3⟩ := g_int Try.underlying3 t3
      obtain ⟨upto, rfl, w4⟩ := g_int Try.underlying3 t4
      obtain ⟨steps, rfl, w5⟩ := g_int Try.underlying3 t5
      obtain ⟨short, rfl⟩ := g_bool Try.underlying4 t6
      obtain ⟨a, A, c, wa, hp, ea⟩ := f_ans t7
      refine ⟨⟨thread, o, since, done, upto, steps, short, a, A, c⟩, ⟨bd_i64 w0, wo, bd_i64 w2, bd_i64 w3, bd_i64 w4, bd_i64 w5, wa⟩, hp, ?_⟩
      simp only [opCells, ansCells, List.cons.injEq] at eo ea
      obtain ⟨rfl, rfl, rfl, rfl, rfl, _⟩ := eo
      obtain ⟨rfl, rfl, rfl, rfl, _⟩ := ea
      rfl
end

set_option maxRecDepth 100000 in
theorem open_calls {H : Type} {enc : TypeId × Value → H} {w : World} {base : Nat} {spare : Nat → Bool} {held : Bool} {r : Reach} {b0 : Nat} {v : Value} {d : DataW H} {p : List MemPlace}
    (hv : Value.okWide Try.prog w r b0 67 v) (h : DataW.Trod enc Try.prog w base spare held 67 v d p) :
    ∃ (A : Option Addr) (c : Nat) (xs : List CallD), v = .slice A xs.length c ∧ Cls w A xs.length xs ∧ (∀ x ∈ xs, CallOk x) ∧ xs.length ≤ c ∧ xs.length ≤ 9223372036854775807 := by
  obtain ⟨A, n, c, rfl⟩ := okWide_slice Try.underlying67 hv
  obtain ⟨fuel, hf⟩ := h
  rcases open_slice Try.underlying67 hf with ⟨hcs, _⟩ | ⟨a, l, c', m, k, D, Pl, hcs, _, hl, hm, hmm, _, hat⟩
  · simp [Value.cells] at hcs
    obtain ⟨rfl, rfl, rfl⟩ := hcs
    exact ⟨_, _, [], rfl, ⟨rfl, fun x hx => absurd hx (by simp), fun h => absurd h (Nat.lt_irrefl 0)⟩, fun x hx => absurd hx (by simp), Nat.le_refl _, by simp⟩
  · simp [Value.cells] at hcs
    obtain ⟨rfl, rfl, rfl⟩ := hcs
    have hle : n ≤ m := by rw [hmm]; split <;> omega
    have hone : ∀ i, i < n → ∃ x : CallD, (CallOk x ∧ Prs w x.pa x.ans.pairs.length x.ans.pairs) ∧ ∀ (k : Nat) (v : Value), (callCells x)[k]? = some v → w.cell? (a.add (i * 15 + k)) = some v := by
      intro i hi
      obtain ⟨cs', hc, ht⟩ := hat i (by omega)
      rw [cells_call] at hc
      obtain ⟨_, hcl, hcells⟩ := World.cells?_some hc
      obtain ⟨x, hx, hp, e⟩ := f_call hcl ht
      refine ⟨x, ⟨hx, hp⟩, fun k v hk => ?_⟩
      have hk15 : k < 15 := (Array.getElem?_eq_some_iff.1 hk).1
      have h2 := hcells k hk15
      rw [Go.Deep.add_add] at h2
      rw [h2, e]
      simpa using hk
    obtain ⟨xs, hxl, hq⟩ := list_of n hone
    subst hxl
    refine ⟨_, _, xs, rfl, ⟨rfl, fun x hx => ?_, fun h0 => ?_⟩, fun x hx => ?_, hl, by unfold maxLen at hm; omega⟩
    · obtain ⟨i, hi, rfl⟩ := List.getElem_of_mem hx
      exact (hq i hi).1.2
    · have hc0 := (hq 0 h0).2 0 _ rfl
      obtain ⟨b, off, rfl, hb⟩ := lit_of_cell hc0
      refine ⟨b, off, rfl, hb, fun j hj k v hk => ?_⟩
      have := (hq j hj).2 k v hk
      rwa [Addr.add_lit, ← Nat.add_assoc] at this
    · obtain ⟨i, hi, rfl⟩ := List.getElem_of_mem hx
      exact (hq i hi).1.1

end Go.Proofs.Ythbafbgnclpbpaa
