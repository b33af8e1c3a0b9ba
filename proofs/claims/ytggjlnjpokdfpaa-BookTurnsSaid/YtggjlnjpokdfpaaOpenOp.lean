/- What the row's step hands over of operations. No walk. -/
import Derived.Test.YtggjlnjpokdfpaaOpenStructs
import Derived.Test.YtggjlnjpokdfpaaOpl
namespace Go.Proofs.Ytggjlnjpokdfpaa
open Go.Joins Go.ChangeShapes Go.WideShapes Go.ChangeAt Go.RowKit Go.Deep

set_option maxRecDepth 100000 in
theorem open_op {H : Type} {enc : TypeId × Value → H} {w : World} {base : Nat} {spare : Nat → Bool} {held : Bool} {r : Reach} {b0 : Nat} {v : Value} {d : DataW H} {p : List MemPlace}
    (hv : Value.okWide Try.prog w r b0 85 v) (h : DataW.Trod enc Try.prog w base spare held 85 v d p) :
    ∃ x : OpD, v = .agg (opCells x) ∧ OpOk x := by
  obtain ⟨v0, v1, v2, v3, v4, y0, y1, y2, y3, y4, n, rfl, t0, t1, t2, t3, t4⟩ := open_agg5 Try.underlying85 (by kernel_rfl) (by kernel_rfl) hv h
  obtain ⟨kind, rfl, w0⟩ := g_int Try.underlying3 t0
  obtain ⟨key, rfl, w1⟩ := g_string Try.underlying9 t1
  obtain ⟨upto, rfl, w2⟩ := g_string Try.underlying9 t2
  obtain ⟨val, rfl, w3⟩ := g_u64 Try.underlying57 t3
  obtain ⟨limit, rfl, w4⟩ := g_int Try.underlying3 t4
  exact ⟨⟨kind, key, upto, val, limit⟩, rfl, ⟨bd_i64 w0, w1, w2, w3, bd_i64 w4⟩⟩

end Go.Proofs.Ytggjlnjpokdfpaa
