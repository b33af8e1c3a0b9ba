/- What the row's step hands over of a slice of operations. No walk. -/
import Derived.Test.YtggjlnjpokdfpaaOpenOp
namespace Go.Proofs.Ytggjlnjpokdfpaa
open Go.Joins Go.ChangeShapes Go.WideShapes Go.ChangeAt Go.RowKit Go.Deep

set_option maxRecDepth 100000 in
theorem open_ops {H : Type} {enc : TypeId × Value → H} {w : World} {base : Nat} {spare : Nat → Bool} {held : Bool} {r : Reach} {b0 : Nat} {v : Value} {d : DataW H} {p : List MemPlace}
    (hv : Value.okWide Try.prog w r b0 82 v) (h : DataW.Trod enc Try.prog w base spare held 82 v d p) :
    ∃ (A : Option Addr) (c : Nat) (xs : List OpD), v = .slice A xs.length c ∧ Opl w A xs ∧ (∀ x ∈ xs, OpOk x) ∧ xs.length ≤ c ∧ xs.length ≤ 9223372036854775807 := by
  obtain ⟨A, n, c, rfl⟩ := okWide_slice Try.underlying82 hv
  obtain ⟨fuel, hf⟩ := h
  rcases open_slice_fields Try.underlying82 Try.underlying85 (by kernel_rfl) (by kernel_rfl) hf with ⟨hcs, _⟩ | ⟨a, l, c', m, D, Pl, hcs, _, hl, hm, hmm, _, hat⟩
  · simp [Value.cells] at hcs
    obtain ⟨rfl, rfl, rfl⟩ := hcs
    exact ⟨_, _, [], rfl, fun h => absurd h (Nat.lt_irrefl 0), fun x hx => absurd hx (by simp), Nat.le_refl _, by simp⟩
  · simp [Value.cells] at hcs
    obtain ⟨rfl, rfl, rfl⟩ := hcs
    have hle : n ≤ m := by rw [hmm]; split <;> omega
    have hone : ∀ i, i < n → ∃ x : OpD, OpOk x ∧ ∀ (k : Nat) (v : Value), (opCells x)[k]? = some v → w.cell? (a.add (i * 5 + k)) = some v := by
      intro i hi
      obtain ⟨ys, q, _, _, _, hf⟩ := hat i (by omega)
      obtain ⟨v0, y0, c0, _, t0⟩ := hf 0 _ rfl
      obtain ⟨v1, y1, c1, _, t1⟩ := hf 1 _ rfl
      obtain ⟨v2, y2, c2, _, t2⟩ := hf 2 _ rfl
      obtain ⟨v3, y3, c3, _, t3⟩ := hf 3 _ rfl
      obtain ⟨v4, y4, c4, _, t4⟩ := hf 4 _ rfl
      obtain ⟨kind, rfl, w0⟩ := g_int Try.underlying3 t0
      obtain ⟨key, rfl, w1⟩ := g_string Try.underlying9 t1
      obtain ⟨upto, rfl, w2⟩ := g_string Try.underlying9 t2
      obtain ⟨val, rfl, w3⟩ := g_u64 Try.underlying57 t3
      obtain ⟨limit, rfl, w4⟩ := g_int Try.underlying3 t4
      refine ⟨⟨kind, key, upto, val, limit⟩, ⟨bd_i64 w0, w1, w2, w3, bd_i64 w4⟩, fun k v hk => ?_⟩
      match k, hk with
      | 0, hk => simp [opCells] at hk; subst hk; exact c0
      | 1, hk => simp [opCells] at hk; subst hk; exact c1
      | 2, hk => simp [opCells] at hk; subst hk; exact c2
      | 3, hk => simp [opCells] at hk; subst hk; exact c3
      | 4, hk => simp [opCells] at hk; subst hk; exact c4
      | k + 5, hk => simp [opCells] at hk
    obtain ⟨xs, hxl, hq⟩ := list_of n hone
    subst hxl
    refine ⟨_, _, xs, rfl, fun h0 => ?_, fun x hx => ?_, hl, by unfold maxLen at hm; omega⟩
    · have hc0 := (hq 0 h0).2 0 _ rfl
      obtain ⟨b, off, rfl, hb⟩ := lit_of_cell hc0
      refine ⟨b, off, rfl, hb, fun j hj k v hk => ?_⟩
      have := (hq j hj).2 k v hk
      rwa [Addr.add_lit, ← Nat.add_assoc] at this
    · obtain ⟨i, hi, rfl⟩ := List.getElem_of_mem hx
      exact (hq i hi).1

end Go.Proofs.Ytggjlnjpokdfpaa
