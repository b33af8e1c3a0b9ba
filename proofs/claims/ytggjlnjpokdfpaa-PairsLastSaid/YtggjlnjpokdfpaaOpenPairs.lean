/- What the row's step hands over of a slice of pairs. No walk. -/
import Derived.Test.YtggjlnjpokdfpaaOpenStructs
import Derived.Test.YtggjlnjpokdfpaaPairs
namespace Go.Proofs.Ytggjlnjpokdfpaa
open Go.Joins Go.ChangeShapes Go.WideShapes Go.ChangeAt Go.RowKit Go.Deep

set_option maxRecDepth 100000 in
theorem open_pairs {H : Type} {enc : TypeId × Value → H} {w : World} {base : Nat} {spare : Nat → Bool} {held : Bool} {r : Reach} {b0 : Nat} {v : Value} {d : DataW H} {p : List MemPlace}
    (hv : Value.okWide Try.prog w r b0 53 v) (h : DataW.Trod enc Try.prog w base spare held 53 v d p) :
    ∃ (A : Option Addr) (c : Nat) (xs : List PairD), v = .slice A xs.length c ∧ Prs w A xs.length xs ∧ FitP xs ∧ xs.length ≤ c ∧ xs.length ≤ 9223372036854775807 := by
  obtain ⟨A, n, c, rfl⟩ := okWide_slice Try.underlying53 hv
  obtain ⟨fuel, hf⟩ := h
  rcases open_slice_fields Try.underlying53 Try.underlying59 (by kernel_rfl) (by kernel_rfl) hf with ⟨hcs, _⟩ | ⟨a, l, c', m, D, Pl, hcs, _, hl, hm, hmm, _, hat⟩
  · simp [Value.cells] at hcs
    obtain ⟨rfl, rfl, rfl⟩ := hcs
    exact ⟨_, _, [], rfl, ⟨rfl, fun h => absurd h (Nat.lt_irrefl 0)⟩, fun x hx => absurd hx (by simp), Nat.le_refl _, by simp⟩
  · simp [Value.cells] at hcs
    obtain ⟨rfl, rfl, rfl⟩ := hcs
    have hle : n ≤ m := by rw [hmm]; split <;> omega
    have hone : ∀ i, i < n → ∃ x : PairD, x.key.size ≤ maxLen ∧ ∀ (k : Nat) (v : Value), (prCells x)[k]? = some v → w.cell? (a.add (i * 2 + k)) = some v := by
      intro i hi
      obtain ⟨ys, q, _, _, _, hf⟩ := hat i (by omega)
      obtain ⟨v0, y0, c0, _, t0⟩ := hf 0 _ rfl
      obtain ⟨v1, y1, c1, _, t1⟩ := hf 1 _ rfl
      obtain ⟨key, rfl, w0⟩ := g_string Try.underlying9 t0
      obtain ⟨val, rfl, w1⟩ := g_u64 Try.underlying57 t1
      refine ⟨⟨key, val⟩, w0, fun k v hk => ?_⟩
      match k, hk with
      | 0, hk => simp [prCells] at hk; subst hk; exact c0
      | 1, hk => simp [prCells] at hk; subst hk; exact c1
      | k + 2, hk => simp [prCells] at hk
    obtain ⟨xs, hxl, hq⟩ := list_of n hone
    subst hxl
    refine ⟨_, _, xs, rfl, ⟨rfl, fun h0 => ?_⟩, fun x hx => ?_, hl, by unfold maxLen at hm; omega⟩
    · have hc0 := (hq 0 h0).2 0 _ rfl
      obtain ⟨b, off, rfl, hb⟩ := lit_of_cell hc0
      refine ⟨b, off, rfl, hb, fun j hj k v hk => ?_⟩
      have := (hq j hj).2 k v hk
      rwa [Addr.add_lit, ← Nat.add_assoc] at this
    · obtain ⟨i, hi, rfl⟩ := List.getElem_of_mem hx
      exact (hq i hi).1

end Go.Proofs.Ytggjlnjpokdfpaa
