/- New blocks: two at once. No program. -/
import Derived.Test.YtggjlnjpokdfpaaSx
namespace Go.Proofs.Ytggjlnjpokdfpaa
open Go.RowKit

theorem alloc_size (w : World) (o : Obj) : (w.alloc o).heap.size = w.heap.size + 1 := by simp
theorem Sx.start2 (w : World) (a b : Obj) : Sx w.heap.size w ((w.alloc a).alloc b) [(w.heap.size, a), (w.heap.size + 1, b)] := by
  have := ((Sx.start0 w).alloc a).alloc b
  rw [alloc_size] at this
  exact this

end Go.Proofs.Ytggjlnjpokdfpaa
