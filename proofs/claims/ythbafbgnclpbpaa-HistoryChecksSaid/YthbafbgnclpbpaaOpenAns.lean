/- What the row's step hands over of an answer. No walk. -/
import Derived.Test.YthbafbgnclpbpaaOpenStructs
import Derived.Test.YthbafbgnclpbpaaAns2
namespace Go.Proofs.Ythbafbgnclpbpaa
open Go.Joins Go.ChangeShapes Go.WideShapes Go.ChangeAt Go.RowKit Go.Deep

set_option maxRecDepth 100000 in
theorem f_pairs {H : Type} {enc : TypeId × Value → H} {w : World} {base : Nat} {spare : Nat → Bool} {held : Bool} {n0 : Nat} {v : Value} {y : DataW H × List MemPlace}
    (hf : DataW.trod enc Try.prog w base spare held n0 23 [v] = some y) :
    ∃ (A : Option Addr) (c : Nat) (ps : List PairD), v = .slice A ps.length c ∧ Prs w A ps.length ps ∧ (∀ p ∈ ps, p.key.size ≤ maxLen ∧ p.val < 18446744073709551616) ∧ ps.length ≤ c ∧ ps.length ≤ 9223372036854775807 := by
  rcases open_slice_fields Try.underlying23 Try.underlying32 (by kernel_rfl) (by kernel_rfl) hf with ⟨hcs, _⟩ | ⟨a, n, c, m, D, Pl, hcs, _, hl, hm, hmm, _, hat⟩
  · simp at hcs
    subst hcs
    exact ⟨none, 0, [], rfl, ⟨rfl, fun h => absurd h (Nat.lt_irrefl 0)⟩, fun x hx => absurd hx (by simp), Nat.le_refl _, by simp⟩
  · simp at hcs
    subst hcs
    have hle : n ≤ m := by rw [hmm]; split <;> omega
    have hone : ∀ i, i < n → ∃ x : PairD, (x.key.size ≤ maxLen ∧ x.val < 18446744073709551616) ∧ ∀ (k : Nat) (v : Value), (prCells x)[k]? = some v → w.cell? (a.add (i * 2 + k)) = some v := by
      intro i hi
      obtain ⟨ys, q, _, _, _, hf⟩ := hat i (by omega)
      obtain ⟨v0, y0, c0, _, t0⟩ := hf 0 _ rfl
      obtain ⟨v1, y1, c1, _, t1⟩ := hf 1 _ rfl
      obtain ⟨key, rfl, w0⟩ := g_string Try.underlying9 t0
      obtain ⟨val, rfl, w1⟩ := g_u64 Try.underlying22 t1
      refine ⟨⟨key, val⟩, ⟨w0, w1⟩, fun k v hk => ?_⟩
      match k, hk with
      | 0, hk => simp [prCells] at hk; subst hk; exact c0
      | 1, hk => simp [prCells] at hk; subst hk; exact c1
      | k + 2, hk => simp [prCells] at hk
    obtain ⟨xs, hxl, hq⟩ := list_of n hone
    subst hxl
    refine ⟨_, _, xs, rfl, ⟨rfl, fun h0 => ?_⟩, fun x hx => ?_, hl, by unfold maxLen at hm; omega⟩
    · have hc0 := (hq 0 h0).2 0 _ rfl
      obtain ⟨b, off, rfl, hb⟩ := lit_of_cell hc0
      refine ⟨b, off, rfl, hb, fun j hj k v hk => ?_⟩
      have := (hq j hj).2 k v hk
      rwa [Addr.add_lit, ← Nat.add_assoc] at this
    · obtain ⟨i, hi, rfl⟩ := List.getElem_of_mem hx
      exact (hq i hi).1

set_option maxRecDepth 100000 in
theorem open_ans {H : Type} {enc : TypeId × Value → H} {w : World} {base : Nat} {spare : Nat → Bool} {held : Bool} {r : Reach} {b0 : Nat} {v : Value} {d : DataW H} {p : List MemPlace}
    (hv : Value.okWide Try.prog w r b0 25 v) (h : DataW.Trod enc Try.prog w base spare held 25 v d p) :
    ∃ (x : AnsD) (A : Option Addr) (c : Nat), v = .agg (ansCells x A c) ∧ Prs w A x.pairs.length x.pairs ∧ AnsOk x := by
  obtain ⟨v0, v1, v2, v3, y0, y1, y2, y3, n, rfl, t0, t1, t2, t3⟩ := open_agg4 Try.underlying25 (by kernel_rfl) (by kernel_rfl) hv h
  obtain ⟨code, rfl, w0⟩ := g_int Try.underlying3 t0
  obtain ⟨key, rfl, w1⟩ := g_string Try.underlying9 t1
  obtain ⟨val, rfl, w2⟩ := g_u64 Try.underlying22 t2
  obtain ⟨A, c, ps, rfl, hp, hpo, _, hpl⟩ := f_pairs t3
  exact ⟨⟨code, key, val, ps⟩, A, c, rfl, hp, ⟨bd_i64 w0, w1, w2, hpo, hpl⟩⟩

end Go.Proofs.Ythbafbgnclpbpaa
