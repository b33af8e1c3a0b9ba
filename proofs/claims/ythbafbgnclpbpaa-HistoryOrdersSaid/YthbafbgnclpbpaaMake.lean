/- Contracts of package sorted: rows that are made. -/
import Derived.Test.YthbafbgnclpbpaaSorted2
import Derived.Deep.OwnRows
namespace Go.Proofs.Ythbafbgnclpbpaa
open Go.RowKit

theorem heap_new (w : World) (c : Array Value) (t : TypeId) : (w.alloc (.cells c t)).heap[w.heap.size]? = some (.cells c t (0, 0)) := heap_alloc_new w _

/-- A row of zeros. -/
def zrow (n : Nat) (z : Value) : List Value := List.replicate n z
theorem zrow_length (n : Nat) (z : Value) : (zrow n z).length = n := by simp [zrow]
theorem made_zrow (n : Nat) (z : Value) : madeCells #[z] n = (zrow n z).toArray := by
  apply Array.toList_inj.1
  rw [toList_madeCells_one]; rfl
theorem Rd.src {w : World} {B n : Nat} {A : Option Addr} {xs : List Value} (h : Rd w B 1 A n xs) (hn : 0 < xs.length) : ∃ ad, A = some ad ∧ ∀ (j : Nat) (v : Value), xs[j]? = some v → w.cell? (ad.add j) = some v := by
  obtain ⟨b, off, e, _, hc⟩ := h.2 (by have := h.1; omega)
  exact ⟨_, e, fun j v hv => by rw [Addr.add_lit]; exact hc j v hv⟩
theorem Rd.len1 {w : World} {B n : Nat} {A : Option Addr} {xs : List Value} (h : Rd w B 1 A n xs) : xs.length = n := by have := h.1; omega

theorem splice_all {α : Type} (Z xs : List α) (h : Z.length = xs.length) : splice Z 0 xs = xs := by simp [splice, h]
theorem splice_two {α : Type} (Z xs ys : List α) (h : Z.length = xs.length + ys.length) : splice (splice Z 0 xs) xs.length ys = xs ++ ys := by
  simp [splice, h]
theorem Rd.new {w : World} {g : Nat} {xs : List Value} {E : TypeId} {fr : Nat × Nat} (h : w.heap[g]? = some (.cells xs.toArray E fr)) : Rd w w.heap.size 1 (some ⟨g, 0, none⟩) xs.length xs := by
  refine ⟨by omega, fun _ => ⟨g, 0, rfl, (Array.getElem?_eq_some_iff.1 h).1, fun j u hu => ?_⟩⟩
  rw [Nat.zero_add, cell_of_row w g j _ _ _ h]
  simpa using hu

theorem joinI_info : (Try.prog.info? 3).map (fun i => (i.zero, i.size, i.bytes)) = some (some (.int .i64 0), 1, 8) := by kernel_rfl
theorem joinI_size : (Try.prog.info? 3).map (·.size) = some 1 := by kernel_rfl
theorem joinI_make (n : Nat) (hn : n ≤ 3000000) (W : World) : (Instr.makeSlice 90 (.int .i64 (n : Int)) (.int .i64 (n : Int))).run Try.prog W = .ok (.slice (some ⟨W.heap.size, 0, none⟩) n n) (W.alloc (.cells (zrow n (.int .i64 0)).toArray 3)) := by
  rw [← made_zrow]
  exact run_make_row' (P := Try.prog) 90 3 (.int .i64 0) 8 Try.underlying90 joinI_info rfl .i64 .i64 n (by omega) (by omega) W

theorem joinU_info : (Try.prog.info? 22).map (fun i => (i.zero, i.size, i.bytes)) = some (some (.int .u64 0), 1, 8) := by kernel_rfl
theorem joinU_size : (Try.prog.info? 22).map (·.size) = some 1 := by kernel_rfl
theorem joinU_make (n : Nat) (hn : n ≤ 3000000) (W : World) : (Instr.makeSlice 106 (.int .i64 (n : Int)) (.int .i64 (n : Int))).run Try.prog W = .ok (.slice (some ⟨W.heap.size, 0, none⟩) n n) (W.alloc (.cells (zrow n (.int .u64 0)).toArray 22)) := by
  rw [← made_zrow]
  exact run_make_row' (P := Try.prog) 106 22 (.int .u64 0) 8 Try.underlying106 joinU_info rfl .i64 .i64 n (by omega) (by omega) W

theorem joinS_info : (Try.prog.info? 9).map (fun i => (i.zero, i.size, i.bytes)) = some (some (.string ByteArray.empty), 1, 16) := by kernel_rfl
theorem joinS_size : (Try.prog.info? 9).map (·.size) = some 1 := by kernel_rfl
theorem joinS_make (n : Nat) (hn : n ≤ 3000000) (W : World) : (Instr.makeSlice 99 (.int .i64 (n : Int)) (.int .i64 (n : Int))).run Try.prog W = .ok (.slice (some ⟨W.heap.size, 0, none⟩) n n) (W.alloc (.cells (zrow n (.string ByteArray.empty)).toArray 9)) := by
  rw [← made_zrow]
  exact run_make_row' (P := Try.prog) 99 9 (.string ByteArray.empty) 16 Try.underlying99 joinS_info rfl .i64 .i64 n (by omega) (by omega) W

end Go.Proofs.Ythbafbgnclpbpaa
