/- Contracts of package sorted: Find, Floor, Below, Rising; and the reference's. -/
import Derived.Test.YthbafbgnclpbpaaSorted
namespace Go.Proofs.Ythbafbgnclpbpaa
open Go.RowKit

theorem box2_a (w : World) (u v : Value) (T U : TypeId) : ((w.alloc (.cells #[u] T)).alloc (.cells #[v] U)).cell? ⟨w.heap.size, 0, none⟩ = some u := by
  rw [World.cell?_alloc_lt _ _ ⟨w.heap.size, 0, none⟩ (by simp), World.cell?_alloc_new]; rfl
theorem box2_b (w : World) (u v : Value) (T U : TypeId) : ((w.alloc (.cells #[u] T)).alloc (.cells #[v] U)).cell? ⟨w.heap.size + 1, 0, none⟩ = some v := by
  have h := World.cell?_alloc_new (w := w.alloc (.cells #[u] T)) #[v] U 0
  rw [World.size_alloc] at h
  rw [h]; rfl
theorem box2_below (w : World) (a b : Obj) : Below w.heap.size w ((w.alloc a).alloc b) := below_of (below_alloc w a) (below_alloc _ b)
theorem box2_size (w : World) (a b : Obj) : ((w.alloc a).alloc b).heap.size = w.heap.size + 2 := by simp

theorem ret_ib {a b : Int} {c d : Bool} (h : a = b) (k : c = d) : Ending.returned (.tuple #[.int .i64 a, .bool c]) = .returned (.tuple #[.int .i64 b, .bool d]) := by rw [h, k]
theorem val_bool {a b : Bool} (h : a = b) : Value.bool a = .bool b := by rw [h]
theorem val_i64 {a b : Int} (h : a = b) : Value.int .i64 a = .int .i64 b := by rw [h]
theorem str_beq (a b : ByteArray) : (a.toList == b.toList) = (a.data.toList == b.data.toList) := by rw [ByteArray.toList_eq, ByteArray.toList_eq]

end Go.Proofs.Ythbafbgnclpbpaa
