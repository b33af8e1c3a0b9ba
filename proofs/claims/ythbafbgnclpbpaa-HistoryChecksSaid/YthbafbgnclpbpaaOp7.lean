/- Contracts of package op and its reference: Plain. -/
import Derived.Test.YthbafbgnclpbpaaOp6
namespace Go.Proofs.Ythbafbgnclpbpaa
open Go.RowKit

def plainV (ik ku tu vu : Bool) (o : OpD) : OpD :=
  if ik = true then ⟨o.kind, if ku = true then o.key else ⟨#[]⟩, if tu = true then o.upto else ⟨#[]⟩, if vu = true then o.val else 0, if tu = true then o.limit else 0⟩ else ⟨0, ⟨#[]⟩, ⟨#[]⟩, 0, 0⟩
/-- An operation with what it uses alone. -/
def plainO (o : OpD) : OpD := plainV (isKind o.kind) (usesKey o.kind) (usesTo o.kind) (usesVal o.kind) o

theorem alloc_cell {w : World} {g i : Nat} {v : Value} (h : w.cell? ⟨g, i, none⟩ = some v) (hg : g < w.heap.size) (o : Obj) : (w.alloc o).cell? ⟨g, i, none⟩ = some v := ((below_alloc w o).cell (p := ⟨g, i, none⟩) hg).trans h
theorem alloc_frozen {w : World} {g i : Nat} {b : Bool} (h : w.frozen? ⟨g, i, none⟩ = b) (hg : g < w.heap.size) (o : Obj) : (w.alloc o).frozen? ⟨g, i, none⟩ = b := ((below_alloc w o).frozen (p := ⟨g, i, none⟩) hg).trans h
theorem alloc_cell2 {w : World} {g i : Nat} {v : Value} (h : w.cell? ⟨g, i, none⟩ = some v) (hg : g < w.heap.size) (o o' : Obj) : ((w.alloc o).alloc o').cell? ⟨g, i, none⟩ = some v := alloc_cell (alloc_cell h hg o) (by simp; omega) o'
theorem alloc_frozen2 {w : World} {g i : Nat} {b : Bool} (h : w.frozen? ⟨g, i, none⟩ = b) (hg : g < w.heap.size) (o o' : Obj) : ((w.alloc o).alloc o').frozen? ⟨g, i, none⟩ = b := alloc_frozen (alloc_frozen h hg o) (by simp; omega) o'
theorem five_set {w W : World} (hb : Below w.heap.size w W) (g : Nat) (a b c d e : Value) (hg : w.heap.size ≤ g + 1) :
    Below w.heap.size w (((((W.setCell ⟨g + 1, 0, none⟩ a).setCell ⟨g + 1, 1, none⟩ b).setCell ⟨g + 1, 2, none⟩ c).setCell ⟨g + 1, 3, none⟩ d).setCell ⟨g + 1, 4, none⟩ e) :=
  ((((hb.setCell (p := ⟨g + 1, 0, none⟩) hg a).setCell (p := ⟨g + 1, 1, none⟩) hg b).setCell (p := ⟨g + 1, 2, none⟩) hg c).setCell (p := ⟨g + 1, 3, none⟩) hg d).setCell (p := ⟨g + 1, 4, none⟩) hg e

set_option maxRecDepth 100000 in
set_option maxHeartbeats 8000000 in
theorem opplain_any (o : OpD) (w : World) : Calls Try.prog 43 #[.agg (opCells o)] w (Ret (.agg (opCells (plainO o))) w) := by
  have hn := (OpAt.new w o 58).up (below_alloc _ (.cells #[.int .i64 0, .string ⟨#[]⟩, .string ⟨#[]⟩, .int .u64 0, .int .i64 0] 58)) (by simp)
  have hrs : ((w.alloc (.cells (opCells o) 58)).alloc (.cells #[.int .i64 0, .string ⟨#[]⟩, .string ⟨#[]⟩, .int .u64 0, .int .i64 0] 58)).heap[w.heap.size + 1]? = some (.cells #[.int .i64 0, .string ⟨#[]⟩, .string ⟨#[]⟩, .int .u64 0, .int .i64 0] 58 (0, 0)) := by
    have e : (w.alloc (.cells (opCells o) 58)).heap.size = w.heap.size + 1 := by simp
    rw [← e]
    exact heap_alloc_new _ _
  have hb := below_of (below_alloc w (.cells (opCells o) 58)) (below_alloc _ (.cells #[.int .i64 0, .string ⟨#[]⟩, .string ⟨#[]⟩, .int .u64 0, .int .i64 0] 58))
  have hsz : w.heap.size + 1 < ((w.alloc (.cells (opCells o) 58)).alloc (.cells #[.int .i64 0, .string ⟨#[]⟩, .string ⟨#[]⟩, .int .u64 0, .int .i64 0] 58)).heap.size := by simp
  have HU := Lib.hid (used_any o.kind)
  have hp : plainO o = plainV (isKind o.kind) (usesKey o.kind) (usesTo o.kind) (usesVal o.kind) o := rfl
  rw [hp]
  clear hp
  simp only [usesV] at HU
  generalize isKind o.kind = ik at HU ⊢
  generalize usesKey o.kind = ku at HU ⊢
  generalize usesTo o.kind = tu at HU ⊢
  generalize usesVal o.kind = vu at HU ⊢
  obtain ⟨kind, key, upto, val, limit⟩ := o
  simp only [opCells] at hn hb hrs hsz HU
  cases ik
  · have HP : plainV false ku tu vu ⟨kind, key, upto, val, limit⟩ = ⟨0, ⟨#[]⟩, ⟨#[]⟩, 0, 0⟩ := rfl
    rw [HP]
    simp only [opCells]
    go_enter Try.func43, Try.ntmps43
    go_wp2_with fail
    generalize (w.alloc _).alloc _ = W at hn hb hrs hsz ⊢
    obtain ⟨x0, x1, x2, x3, x4⟩ := id hn
    simp only [] at x0 x1 x2 x3 x4
    (try go_wp2_with fail)
    refine (HU.out _).mono ?_
    rintro e wn ⟨rfl, hbn⟩
    have rs3 := (hbn.block (w.heap.size + 1) hsz).trans hrs
    replace hb := below_of hb hbn
    replace hn := hn.up hbn (by omega)
    replace hsz := Nat.lt_of_lt_of_le hsz hbn.size
    have t0 : wn.cell? ⟨w.heap.size + 1, 0, none⟩ = some (.int .i64 0) := by simp [World.cell?, rs3]
    have t1 : wn.cell? ⟨w.heap.size + 1, 1, none⟩ = some (.string ⟨#[]⟩) := by simp [World.cell?, rs3]
    have t2 : wn.cell? ⟨w.heap.size + 1, 2, none⟩ = some (.string ⟨#[]⟩) := by simp [World.cell?, rs3]
    have t3 : wn.cell? ⟨w.heap.size + 1, 3, none⟩ = some (.int .u64 0) := by simp [World.cell?, rs3]
    have t4 : wn.cell? ⟨w.heap.size + 1, 4, none⟩ = some (.int .i64 0) := by simp [World.cell?, rs3]
    have f0 : wn.frozen? ⟨w.heap.size + 1, 0, none⟩ = false := by simp [World.frozen?, rs3]
    have f1 : wn.frozen? ⟨w.heap.size + 1, 1, none⟩ = false := by simp [World.frozen?, rs3]
    have f2 : wn.frozen? ⟨w.heap.size + 1, 2, none⟩ = false := by simp [World.frozen?, rs3]
    have f3 : wn.frozen? ⟨w.heap.size + 1, 3, none⟩ = false := by simp [World.frozen?, rs3]
    have f4 : wn.frozen? ⟨w.heap.size + 1, 4, none⟩ = false := by simp [World.frozen?, rs3]
    clear hbn rs3 hrs x0 x1 x2 x3 x4
    obtain ⟨x0, x1, x2, x3, x4⟩ := id hn
    simp only [] at x0 x1 x2 x3 x4
    have A0 := alloc_cell x0 (show w.heap.size < wn.heap.size by omega)
    have B0 := alloc_cell t0 hsz
    have C0 := alloc_frozen f0 hsz
    have D0 := alloc_cell2 x0 (show w.heap.size < wn.heap.size by omega)
    have E0 := alloc_cell2 t0 hsz
    have G0 := alloc_frozen2 f0 hsz
    have A1 := alloc_cell x1 (show w.heap.size < wn.heap.size by omega)
    have B1 := alloc_cell t1 hsz
    have C1 := alloc_frozen f1 hsz
    have D1 := alloc_cell2 x1 (show w.heap.size < wn.heap.size by omega)
    have E1 := alloc_cell2 t1 hsz
    have G1 := alloc_frozen2 f1 hsz
    have A2 := alloc_cell x2 (show w.heap.size < wn.heap.size by omega)
    have B2 := alloc_cell t2 hsz
    have C2 := alloc_frozen f2 hsz
    have D2 := alloc_cell2 x2 (show w.heap.size < wn.heap.size by omega)
    have E2 := alloc_cell2 t2 hsz
    have G2 := alloc_frozen2 f2 hsz
    have A3 := alloc_cell x3 (show w.heap.size < wn.heap.size by omega)
    have B3 := alloc_cell t3 hsz
    have C3 := alloc_frozen f3 hsz
    have D3 := alloc_cell2 x3 (show w.heap.size < wn.heap.size by omega)
    have E3 := alloc_cell2 t3 hsz
    have G3 := alloc_frozen2 f3 hsz
    have A4 := alloc_cell x4 (show w.heap.size < wn.heap.size by omega)
    have B4 := alloc_cell t4 hsz
    have C4 := alloc_frozen f4 hsz
    have D4 := alloc_cell2 x4 (show w.heap.size < wn.heap.size by omega)
    have E4 := alloc_cell2 t4 hsz
    have G4 := alloc_frozen2 f4 hsz
    go_wp2_with fail
    exact bodyPost_ret (v := .agg #[.int .i64 0, .string ⟨#[]⟩, .string ⟨#[]⟩, .int .u64 0, .int .i64 0]) (by simp [results, Try.results43, go_sem, *]) rfl ⟨rfl, below_of (five_set hb w.heap.size _ _ _ _ _ (Nat.le_succ _)) (below_alloc _ _)⟩
  · cases ku <;> cases tu <;> cases vu
    · simp only [plainV, opCells, if_pos rfl, if_neg Bool.false_ne_true]
      go_enter Try.func43, Try.ntmps43
      go_wp2_with fail
      generalize (w.alloc _).alloc _ = W at hn hb hrs hsz ⊢
      obtain ⟨x0, x1, x2, x3, x4⟩ := id hn
      simp only [] at x0 x1 x2 x3 x4
      (try go_wp2_with fail)
      refine (HU.out _).mono ?_
      rintro e wn ⟨rfl, hbn⟩
      have rs3 := (hbn.block (w.heap.size + 1) hsz).trans hrs
      replace hb := below_of hb hbn
      replace hn := hn.up hbn (by omega)
      replace hsz := Nat.lt_of_lt_of_le hsz hbn.size
      have t0 : wn.cell? ⟨w.heap.size + 1, 0, none⟩ = some (.int .i64 0) := by simp [World.cell?, rs3]
      have t1 : wn.cell? ⟨w.heap.size + 1, 1, none⟩ = some (.string ⟨#[]⟩) := by simp [World.cell?, rs3]
      have t2 : wn.cell? ⟨w.heap.size + 1, 2, none⟩ = some (.string ⟨#[]⟩) := by simp [World.cell?, rs3]
      have t3 : wn.cell? ⟨w.heap.size + 1, 3, none⟩ = some (.int .u64 0) := by simp [World.cell?, rs3]
      have t4 : wn.cell? ⟨w.heap.size + 1, 4, none⟩ = some (.int .i64 0) := by simp [World.cell?, rs3]
      have f0 : wn.frozen? ⟨w.heap.size + 1, 0, none⟩ = false := by simp [World.frozen?, rs3]
      have f1 : wn.frozen? ⟨w.heap.size + 1, 1, none⟩ = false := by simp [World.frozen?, rs3]
      have f2 : wn.frozen? ⟨w.heap.size + 1, 2, none⟩ = false := by simp [World.frozen?, rs3]
      have f3 : wn.frozen? ⟨w.heap.size + 1, 3, none⟩ = false := by simp [World.frozen?, rs3]
      have f4 : wn.frozen? ⟨w.heap.size + 1, 4, none⟩ = false := by simp [World.frozen?, rs3]
      clear hbn rs3 hrs x0 x1 x2 x3 x4
      obtain ⟨x0, x1, x2, x3, x4⟩ := id hn
      simp only [] at x0 x1 x2 x3 x4
      have A0 := alloc_cell x0 (show w.heap.size < wn.heap.size by omega)
      have B0 := alloc_cell t0 hsz
      have C0 := alloc_frozen f0 hsz
      have D0 := alloc_cell2 x0 (show w.heap.size < wn.heap.size by omega)
      have E0 := alloc_cell2 t0 hsz
      have G0 := alloc_frozen2 f0 hsz
      have A1 := alloc_cell x1 (show w.heap.size < wn.heap.size by omega)
      have B1 := alloc_cell t1 hsz
      have C1 := alloc_frozen f1 hsz
      have D1 := alloc_cell2 x1 (show w.heap.size < wn.heap.size by omega)
      have E1 := alloc_cell2 t1 hsz
      have G1 := alloc_frozen2 f1 hsz
      have A2 := alloc_cell x2 (show w.heap.size < wn.heap.size by omega)
      have B2 := alloc_cell t2 hsz
      have C2 := alloc_frozen f2 hsz
      have D2 := alloc_cell2 x2 (show w.heap.size < wn.heap.size by omega)
      have E2 := alloc_cell2 t2 hsz
      have G2 := alloc_frozen2 f2 hsz
      have A3 := alloc_cell x3 (show w.heap.size < wn.heap.size by omega)
      have B3 := alloc_cell t3 hsz
      have C3 := alloc_frozen f3 hsz
      have D3 := alloc_cell2 x3 (show w.heap.size < wn.heap.size by omega)
      have E3 := alloc_cell2 t3 hsz
      have G3 := alloc_frozen2 f3 hsz
      have A4 := alloc_cell x4 (show w.heap.size < wn.heap.size by omega)
      have B4 := alloc_cell t4 hsz
      have C4 := alloc_frozen f4 hsz
      have D4 := alloc_cell2 x4 (show w.heap.size < wn.heap.size by omega)
      have E4 := alloc_cell2 t4 hsz
      have G4 := alloc_frozen2 f4 hsz
      go_wp2_with fail
      all_goals
        exact bodyPost_ret (v := .agg #[.int .i64 kind, .string ⟨#[]⟩, .string ⟨#[]⟩, .int .u64 0, .int .i64 0]) (by simp [results, Try.results43, go_sem, *]) rfl ⟨rfl, five_set (below_of (below_of hb (below_alloc _ _)) (below_alloc _ _)) w.heap.size _ _ _ _ _ (Nat.le_succ _)⟩
    · simp only [plainV, opCells, if_pos rfl, if_neg Bool.false_ne_true]
      go_enter Try.func43, Try.ntmps43
      go_wp2_with fail
      generalize (w.alloc _).alloc _ = W at hn hb hrs hsz ⊢
      obtain ⟨x0, x1, x2, x3, x4⟩ := id hn
      simp only [] at x0 x1 x2 x3 x4
      (try go_wp2_with fail)
      refine (HU.out _).mono ?_
      rintro e wn ⟨rfl, hbn⟩
      have rs3 := (hbn.block (w.heap.size + 1) hsz).trans hrs
      replace hb := below_of hb hbn
      replace hn := hn.up hbn (by omega)
      replace hsz := Nat.lt_of_lt_of_le hsz hbn.size
      have t0 : wn.cell? ⟨w.heap.size + 1, 0, none⟩ = some (.int .i64 0) := by simp [World.cell?, rs3]
      have t1 : wn.cell? ⟨w.heap.size + 1, 1, none⟩ = some (.string ⟨#[]⟩) := by simp [World.cell?, rs3]
      have t2 : wn.cell? ⟨w.heap.size + 1, 2, none⟩ = some (.string ⟨#[]⟩) := by simp [World.cell?, rs3]
      have t3 : wn.cell? ⟨w.heap.size + 1, 3, none⟩ = some (.int .u64 0) := by simp [World.cell?, rs3]
      have t4 : wn.cell? ⟨w.heap.size + 1, 4, none⟩ = some (.int .i64 0) := by simp [World.cell?, rs3]
      have f0 : wn.frozen? ⟨w.heap.size + 1, 0, none⟩ = false := by simp [World.frozen?, rs3]
      have f1 : wn.frozen? ⟨w.heap.size + 1, 1, none⟩ = false := by simp [World.frozen?, rs3]
      have f2 : wn.frozen? ⟨w.heap.size + 1, 2, none⟩ = false := by simp [World.frozen?, rs3]
      have f3 : wn.frozen? ⟨w.heap.size + 1, 3, none⟩ = false := by simp [World.frozen?, rs3]
      have f4 : wn.frozen? ⟨w.heap.size + 1, 4, none⟩ = false := by simp [World.frozen?, rs3]
      clear hbn rs3 hrs x0 x1 x2 x3 x4
      obtain ⟨x0, x1, x2, x3, x4⟩ := id hn
      simp only [] at x0 x1 x2 x3 x4
      have A0 := alloc_cell x0 (show w.heap.size < wn.heap.size by omega)
      have B0 := alloc_cell t0 hsz
      have C0 := alloc_frozen f0 hsz
      have D0 := alloc_cell2 x0 (show w.heap.size < wn.heap.size by omega)
      have E0 := alloc_cell2 t0 hsz
      have G0 := alloc_frozen2 f0 hsz
      have A1 := alloc_cell x1 (show w.heap.size < wn.heap.size by omega)
      have B1 := alloc_cell t1 hsz
      have C1 := alloc_frozen f1 hsz
      have D1 := alloc_cell2 x1 (show w.heap.size < wn.heap.size by omega)
      have E1 := alloc_cell2 t1 hsz
      have G1 := alloc_frozen2 f1 hsz
      have A2 := alloc_cell x2 (show w.heap.size < wn.heap.size by omega)
      have B2 := alloc_cell t2 hsz
      have C2 := alloc_frozen f2 hsz
      have D2 := alloc_cell2 x2 (show w.heap.size < wn.heap.size by omega)
      have E2 := alloc_cell2 t2 hsz
      have G2 := alloc_frozen2 f2 hsz
      have A3 := alloc_cell x3 (show w.heap.size < wn.heap.size by omega)
      have B3 := alloc_cell t3 hsz
      have C3 := alloc_frozen f3 hsz
      have D3 := alloc_cell2 x3 (show w.heap.size < wn.heap.size by omega)
      have E3 := alloc_cell2 t3 hsz
      have G3 := alloc_frozen2 f3 hsz
      have A4 := alloc_cell x4 (show w.heap.size < wn.heap.size by omega)
      have B4 := alloc_cell t4 hsz
      have C4 := alloc_frozen f4 hsz
      have D4 := alloc_cell2 x4 (show w.heap.size < wn.heap.size by omega)
      have E4 := alloc_cell2 t4 hsz
      have G4 := alloc_frozen2 f4 hsz
      go_wp2_with fail
      all_goals
        exact bodyPost_ret (v := .agg #[.int .i64 kind, .string ⟨#[]⟩, .string ⟨#[]⟩, .int .u64 (val : Int), .int .i64 0]) (by simp [results, Try.results43, go_sem, *]) rfl ⟨rfl, five_set (below_of (below_of hb (below_alloc _ _)) (below_alloc _ _)) w.heap.size _ _ _ _ _ (Nat.le_succ _)⟩
    · simp only [plainV, opCells, if_pos rfl, if_neg Bool.false_ne_true]
      go_enter Try.func43, Try.ntmps43
      go_wp2_with fail
      generalize (w.alloc _).alloc _ = W at hn hb hrs hsz ⊢
      obtain ⟨x0, x1, x2, x3, x4⟩ := id hn
      simp only [] at x0 x1 x2 x3 x4
      (try go_wp2_with fail)
      refine (HU.out _).mono ?_
      rintro e wn ⟨rfl, hbn⟩
      have rs3 := (hbn.block (w.heap.size + 1) hsz).trans hrs
      replace hb := below_of hb hbn
      replace hn := hn.up hbn (by omega)
      replace hsz := Nat.lt_of_lt_of_le hsz hbn.size
      have t0 : wn.cell? ⟨w.heap.size + 1, 0, none⟩ = some (.int .i64 0) := by simp [World.cell?, rs3]
      have t1 : wn.cell? ⟨w.heap.size + 1, 1, none⟩ = some (.string ⟨#[]⟩) := by simp [World.cell?, rs3]
      have t2 : wn.cell? ⟨w.heap.size + 1, 2, none⟩ = some (.string ⟨#[]⟩) := by simp [World.cell?, rs3]
      have t3 : wn.cell? ⟨w.heap.size + 1, 3, none⟩ = some (.int .u64 0) := by simp [World.cell?, rs3]
      have t4 : wn.cell? ⟨w.heap.size + 1, 4, none⟩ = some (.int .i64 0) := by simp [World.cell?, rs3]
      have f0 : wn.frozen? ⟨w.heap.size + 1, 0, none⟩ = false := by simp [World.frozen?, rs3]
      have f1 : wn.frozen? ⟨w.heap.size + 1, 1, none⟩ = false := by simp [World.frozen?, rs3]
      have f2 : wn.frozen? ⟨w.heap.size + 1, 2, none⟩ = false := by simp [World.frozen?, rs3]
      have f3 : wn.frozen? ⟨w.heap.size + 1, 3, none⟩ = false := by simp [World.frozen?, rs3]
      have f4 : wn.frozen? ⟨w.heap.size + 1, 4, none⟩ = false := by simp [World.frozen?, rs3]
      clear hbn rs3 hrs x0 x1 x2 x3 x4
      obtain ⟨x0, x1, x2, x3, x4⟩ := id hn
      simp only [] at x0 x1 x2 x3 x4
      have A0 := alloc_cell x0 (show w.heap.size < wn.heap.size by omega)
      have B0 := alloc_cell t0 hsz
      have C0 := alloc_frozen f0 hsz
      have D0 := alloc_cell2 x0 (show w.heap.size < wn.heap.size by omega)
      have E0 := alloc_cell2 t0 hsz
      have G0 := alloc_frozen2 f0 hsz
      have A1 := alloc_cell x1 (show w.heap.size < wn.heap.size by omega)
      have B1 := alloc_cell t1 hsz
      have C1 := alloc_frozen f1 hsz
      have D1 := alloc_cell2 x1 (show w.heap.size < wn.heap.size by omega)
      have E1 := alloc_cell2 t1 hsz
      have G1 := alloc_frozen2 f1 hsz
      have A2 := alloc_cell x2 (show w.heap.size < wn.heap.size by omega)
      have B2 := alloc_cell t2 hsz
      have C2 := alloc_frozen f2 hsz
      have D2 := alloc_cell2 x2 (show w.heap.size < wn.heap.size by omega)
      have E2 := alloc_cell2 t2 hsz
      have G2 := alloc_frozen2 f2 hsz
      have A3 := alloc_cell x3 (show w.heap.size < wn.heap.size by omega)
      have B3 := alloc_cell t3 hsz
      have C3 := alloc_frozen f3 hsz
      have D3 := alloc_cell2 x3 (show w.heap.size < wn.heap.size by omega)
      have E3 := alloc_cell2 t3 hsz
      have G3 := alloc_frozen2 f3 hsz
      have A4 := alloc_cell x4 (show w.heap.size < wn.heap.size by omega)
      have B4 := alloc_cell t4 hsz
      have C4 := alloc_frozen f4 hsz
      have D4 := alloc_cell2 x4 (show w.heap.size < wn.heap.size by omega)
      have E4 := alloc_cell2 t4 hsz
      have G4 := alloc_frozen2 f4 hsz
      go_wp2_with fail
      all_goals
        exact bodyPost_ret (v := .agg #[.int .i64 kind, .string ⟨#[]⟩, .string upto, .int .u64 0, .int .i64 limit]) (by simp [results, Try.results43, go_sem, *]) rfl ⟨rfl, five_set (below_of (below_of hb (below_alloc _ _)) (below_alloc _ _)) w.heap.size _ _ _ _ _ (Nat.le_succ _)⟩
    · simp only [plainV, opCells, if_pos rfl, if_neg Bool.false_ne_true]
      go_enter Try.func43, Try.ntmps43
      go_wp2_with fail
      generalize (w.alloc _).alloc _ = W at hn hb hrs hsz ⊢
      obtain ⟨x0, x1, x2, x3, x4⟩ := id hn
      simp only [] at x0 x1 x2 x3 x4
      (try go_wp2_with fail)
      refine (HU.out _).mono ?_
      rintro e wn ⟨rfl, hbn⟩
      have rs3 := (hbn.block (w.heap.size + 1) hsz).trans hrs
      replace hb := below_of hb hbn
      replace hn := hn.up hbn (by omega)
      replace hsz := Nat.lt_of_lt_of_le hsz hbn.size
      have t0 : wn.cell? ⟨w.heap.size + 1, 0, none⟩ = some (.int .i64 0) := by simp [World.cell?, rs3]
      have t1 : wn.cell? ⟨w.heap.size + 1, 1, none⟩ = some (.string ⟨#[]⟩) := by simp [World.cell?, rs3]
      have t2 : wn.cell? ⟨w.heap.size + 1, 2, none⟩ = some (.string ⟨#[]⟩) := by simp [World.cell?, rs3]
      have t3 : wn.cell? ⟨w.heap.size + 1, 3, none⟩ = some (.int .u64 0) := by simp [World.cell?, rs3]
      have t4 : wn.cell? ⟨w.heap.size + 1, 4, none⟩ = some (.int .i64 0) := by simp [World.cell?, rs3]
      have f0 : wn.frozen? ⟨w.heap.size + 1, 0, none⟩ = false := by simp [World.frozen?, rs3]
      have f1 : wn.frozen? ⟨w.heap.size + 1, 1, none⟩ = false := by simp [World.frozen?, rs3]
      have f2 : wn.frozen? ⟨w.heap.size + 1, 2, none⟩ = false := by simp [World.frozen?, rs3]
      have f3 : wn.frozen? ⟨w.heap.size + 1, 3, none⟩ = false := by simp [World.frozen?, rs3]
      have f4 : wn.frozen? ⟨w.heap.size + 1, 4, none⟩ = false := by simp [World.frozen?, rs3]
      clear hbn rs3 hrs x0 x1 x2 x3 x4
      obtain ⟨x0, x1, x2, x3, x4⟩ := id hn
      simp only [] at x0 x1 x2 x3 x4
      have A0 := alloc_cell x0 (show w.heap.size < wn.heap.size by omega)
      have B0 := alloc_cell t0 hsz
      have C0 := alloc_frozen f0 hsz
      have D0 := alloc_cell2 x0 (show w.heap.size < wn.heap.size by omega)
      have E0 := alloc_cell2 t0 hsz
      have G0 := alloc_frozen2 f0 hsz
      have A1 := alloc_cell x1 (show w.heap.size < wn.heap.size by omega)
      have B1 := alloc_cell t1 hsz
      have C1 := alloc_frozen f1 hsz
      have D1 := alloc_cell2 x1 (show w.heap.size < wn.heap.size by omega)
      have E1 := alloc_cell2 t1 hsz
      have G1 := alloc_frozen2 f1 hsz
      have A2 := alloc_cell x2 (show w.heap.size < wn.heap.size by omega)
      have B2 := alloc_cell t2 hsz
      have C2 := alloc_frozen f2 hsz
      have D2 := alloc_cell2 x2 (show w.heap.size < wn.heap.size by omega)
      have E2 := alloc_cell2 t2 hsz
      have G2 := alloc_frozen2 f2 hsz
      have A3 := alloc_cell x3 (show w.heap.size < wn.heap.size by omega)
      have B3 := alloc_cell t3 hsz
      have C3 := alloc_frozen f3 hsz
      have D3 := alloc_cell2 x3 (show w.heap.size < wn.heap.size by omega)
      have E3 := alloc_cell2 t3 hsz
      have G3 := alloc_frozen2 f3 hsz
      have A4 := alloc_cell x4 (show w.heap.size < wn.heap.size by omega)
      have B4 := alloc_cell t4 hsz
      have C4 := alloc_frozen f4 hsz
      have D4 := alloc_cell2 x4 (show w.heap.size < wn.heap.size by omega)
      have E4 := alloc_cell2 t4 hsz
      have G4 := alloc_frozen2 f4 hsz
      go_wp2_with fail
      all_goals
        exact bodyPost_ret (v := .agg #[.int .i64 kind, .string ⟨#[]⟩, .string upto, .int .u64 (val : Int), .int .i64 limit]) (by simp [results, Try.results43, go_sem, *]) rfl ⟨rfl, five_set (below_of (below_of hb (below_alloc _ _)) (below_alloc _ _)) w.heap.size _ _ _ _ _ (Nat.le_succ _)⟩
    · simp only [plainV, opCells, if_pos rfl, if_neg Bool.false_ne_true]
      go_enter Try.func43, Try.ntmps43
      go_wp2_with fail
      generalize (w.alloc _).alloc _ = W at hn hb hrs hsz ⊢
      obtain ⟨x0, x1, x2, x3, x4⟩ := id hn
      simp only [] at x0 x1 x2 x3 x4
      (try go_wp2_with fail)
      refine (HU.out _).mono ?_
      rintro e wn ⟨rfl, hbn⟩
      have rs3 := (hbn.block (w.heap.size + 1) hsz).trans hrs
      replace hb := below_of hb hbn
      replace hn := hn.up hbn (by omega)
      replace hsz := Nat.lt_of_lt_of_le hsz hbn.size
      have t0 : wn.cell? ⟨w.heap.size + 1, 0, none⟩ = some (.int .i64 0) := by simp [World.cell?, rs3]
      have t1 : wn.cell? ⟨w.heap.size + 1, 1, none⟩ = some (.string ⟨#[]⟩) := by simp [World.cell?, rs3]
      have t2 : wn.cell? ⟨w.heap.size + 1, 2, none⟩ = some (.string ⟨#[]⟩) := by simp [World.cell?, rs3]
      have t3 : wn.cell? ⟨w.heap.size + 1, 3, none⟩ = some (.int .u64 0) := by simp [World.cell?, rs3]
      have t4 : wn.cell? ⟨w.heap.size + 1, 4, none⟩ = some (.int .i64 0) := by simp [World.cell?, rs3]
      have f0 : wn.frozen? ⟨w.heap.size + 1, 0, none⟩ = false := by simp [World.frozen?, rs3]
      have f1 : wn.frozen? ⟨w.heap.size + 1, 1, none⟩ = false := by simp [World.frozen?, rs3]
      have f2 : wn.frozen? ⟨w.heap.size + 1, 2, none⟩ = false := by simp [World.frozen?, rs3]
      have f3 : wn.frozen? ⟨w.heap.size + 1, 3, none⟩ = false := by simp [World.frozen?, rs3]
      have f4 : wn.frozen? ⟨w.heap.size + 1, 4, none⟩ = false := by simp [World.frozen?, rs3]
      clear hbn rs3 hrs x0 x1 x2 x3 x4
      obtain ⟨x0, x1, x2, x3, x4⟩ := id hn
      simp only [] at x0 x1 x2 x3 x4
      have A0 := alloc_cell x0 (show w.heap.size < wn.heap.size by omega)
      have B0 := alloc_cell t0 hsz
      have C0 := alloc_frozen f0 hsz
      have D0 := alloc_cell2 x0 (show w.heap.size < wn.heap.size by omega)
      have E0 := alloc_cell2 t0 hsz
      have G0 := alloc_frozen2 f0 hsz
      have A1 := alloc_cell x1 (show w.heap.size < wn.heap.size by omega)
      have B1 := alloc_cell t1 hsz
      have C1 := alloc_frozen f1 hsz
      have D1 := alloc_cell2 x1 (show w.heap.size < wn.heap.size by omega)
      have E1 := alloc_cell2 t1 hsz
      have G1 := alloc_frozen2 f1 hsz
      have A2 := alloc_cell x2 (show w.heap.size < wn.heap.size by omega)
      have B2 := alloc_cell t2 hsz
      have C2 := alloc_frozen f2 hsz
      have D2 := alloc_cell2 x2 (show w.heap.size < wn.heap.size by omega)
      have E2 := alloc_cell2 t2 hsz
      have G2 := alloc_frozen2 f2 hsz
      have A3 := alloc_cell x3 (show w.heap.size < wn.heap.size by omega)
      have B3 := alloc_cell t3 hsz
      have C3 := alloc_frozen f3 hsz
      have D3 := alloc_cell2 x3 (show w.heap.size < wn.heap.size by omega)
      have E3 := alloc_cell2 t3 hsz
      have G3 := alloc_frozen2 f3 hsz
      have A4 := alloc_cell x4 (show w.heap.size < wn.heap.size by omega)
      have B4 := alloc_cell t4 hsz
      have C4 := alloc_frozen f4 hsz
      have D4 := alloc_cell2 x4 (show w.heap.size < wn.heap.size by omega)
      have E4 := alloc_cell2 t4 hsz
      have G4 := alloc_frozen2 f4 hsz
      go_wp2_with fail
      all_goals
        exact bodyPost_ret (v := .agg #[.int .i64 kind, .string key, .string ⟨#[]⟩, .int .u64 0, .int .i64 0]) (by simp [results, Try.results43, go_sem, *]) rfl ⟨rfl, five_set (below_of (below_of hb (below_alloc _ _)) (below_alloc _ _)) w.heap.size _ _ _ _ _ (Nat.le_succ _)⟩
    · simp only [plainV, opCells, if_pos rfl, if_neg Bool.false_ne_true]
      go_enter Try.func43, Try.ntmps43
      go_wp2_with fail
      generalize (w.alloc _).alloc _ = W at hn hb hrs hsz ⊢
      obtain ⟨x0, x1, x2, x3, x4⟩ := id hn
      simp only [] at x0 x1 x2 x3 x4
      (try go_wp2_with fail)
      refine (HU.out _).mono ?_
      rintro e wn ⟨rfl, hbn⟩
      have rs3 := (hbn.block (w.heap.size + 1) hsz).trans hrs
      replace hb := below_of hb hbn
      replace hn := hn.up hbn (by omega)
      replace hsz := Nat.lt_of_lt_of_le hsz hbn.size
      have t0 : wn.cell? ⟨w.heap.size + 1, 0, none⟩ = some (.int .i64 0) := by simp [World.cell?, rs3]
      have t1 : wn.cell? ⟨w.heap.size + 1, 1, none⟩ = some (.string ⟨#[]⟩) := by simp [World.cell?, rs3]
      have t2 : wn.cell? ⟨w.heap.size + 1, 2, none⟩ = some (.string ⟨#[]⟩) := by simp [World.cell?, rs3]
      have t3 : wn.cell? ⟨w.heap.size + 1, 3, none⟩ = some (.int .u64 0) := by simp [World.cell?, rs3]
      have t4 : wn.cell? ⟨w.heap.size + 1, 4, none⟩ = some (.int .i64 0) := by simp [World.cell?, rs3]
      have f0 : wn.frozen? ⟨w.heap.size + 1, 0, none⟩ = false := by simp [World.frozen?, rs3]
      have f1 : wn.frozen? ⟨w.heap.size + 1, 1, none⟩ = false := by simp [World.frozen?, rs3]
      have f2 : wn.frozen? ⟨w.heap.size + 1, 2, none⟩ = false := by simp [World.frozen?, rs3]
      have f3 : wn.frozen? ⟨w.heap.size + 1, 3, none⟩ = false := by simp [World.frozen?, rs3]
      have f4 : wn.frozen? ⟨w.heap.size + 1, 4, none⟩ = false := by simp [World.frozen?, rs3]
      clear hbn rs3 hrs x0 x1 x2 x3 x4
      obtain ⟨x0, x1, x2, x3, x4⟩ := id hn
      simp only [] at x0 x1 x2 x3 x4
      have A0 := alloc_cell x0 (show w.heap.size < wn.heap.size by omega)
      have B0 := alloc_cell t0 hsz
      have C0 := alloc_frozen f0 hsz
      have D0 := alloc_cell2 x0 (show w.heap.size < wn.heap.size by omega)
      have E0 := alloc_cell2 t0 hsz
      have G0 := alloc_frozen2 f0 hsz
      have A1 := alloc_cell x1 (show w.heap.size < wn.heap.size by omega)
      have B1 := alloc_cell t1 hsz
      have C1 := alloc_frozen f1 hsz
      have D1 := alloc_cell2 x1 (show w.heap.size < wn.heap.size by omega)
      have E1 := alloc_cell2 t1 hsz
      have G1 := alloc_frozen2 f1 hsz
      have A2 := alloc_cell x2 (show w.heap.size < wn.heap.size by omega)
      have B2 := alloc_cell t2 hsz
      have C2 := alloc_frozen f2 hsz
      have D2 := alloc_cell2 x2 (show w.heap.size < wn.heap.size by omega)
      have E2 := alloc_cell2 t2 hsz
      have G2 := alloc_frozen2 f2 hsz
      have A3 := alloc_cell x3 (show w.heap.size < wn.heap.size by omega)
      have B3 := alloc_cell t3 hsz
      have C3 := alloc_frozen f3 hsz
      have D3 := alloc_cell2 x3 (show w.heap.size < wn.heap.size by omega)
      have E3 := alloc_cell2 t3 hsz
      have G3 := alloc_frozen2 f3 hsz
      have A4 := alloc_cell x4 (show w.heap.size < wn.heap.size by omega)
      have B4 := alloc_cell t4 hsz
      have C4 := alloc_frozen f4 hsz
      have D4 := alloc_cell2 x4 (show w.heap.size < wn.heap.size by omega)
      have E4 := alloc_cell2 t4 hsz
      have G4 := alloc_frozen2 f4 hsz
      go_wp2_with fail
      all_goals
        exact bodyPost_ret (v := .agg #[.int .i64 kind, .string key, .string ⟨#[]⟩, .int .u64 (val : Int), .int .i64 0]) (by simp [results, Try.results43, go_sem, *]) rfl ⟨rfl, five_set (below_of (below_of hb (below_alloc _ _)) (below_alloc _ _)) w.heap.size _ _ _ _ _ (Nat.le_succ _)⟩
    · simp only [plainV, opCells, if_pos rfl, if_neg Bool.false_ne_true]
      go_enter Try.func43, Try.ntmps43
      go_wp2_with fail
      generalize (w.alloc _).alloc _ = W at hn hb hrs hsz ⊢
      obtain ⟨x0, x1, x2, x3, x4⟩ := id hn
      simp only [] at x0 x1 x2 x3 x4
      (try go_wp2_with fail)
      refine (HU.out _).mono ?_
      rintro e wn ⟨rfl, hbn⟩
      have rs3 := (hbn.block (w.heap.size + 1) hsz).trans hrs
      replace hb := below_of hb hbn
      replace hn := hn.up hbn (by omega)
      replace hsz := Nat.lt_of_lt_of_le hsz hbn.size
      have t0 : wn.cell? ⟨w.heap.size + 1, 0, none⟩ = some (.int .i64 0) := by simp [World.cell?, rs3]
      have t1 : wn.cell? ⟨w.heap.size + 1, 1, none⟩ = some (.string ⟨#[]⟩) := by simp [World.cell?, rs3]
      have t2 : wn.cell? ⟨w.heap.size + 1, 2, none⟩ = some (.string ⟨#[]⟩) := by simp [World.cell?, rs3]
      have t3 : wn.cell? ⟨w.heap.size + 1, 3, none⟩ = some (.int .u64 0) := by simp [World.cell?, rs3]
      have t4 : wn.cell? ⟨w.heap.size + 1, 4, none⟩ = some (.int .i64 0) := by simp [World.cell?, rs3]
      have f0 : wn.frozen? ⟨w.heap.size + 1, 0, none⟩ = false := by simp [World.frozen?, rs3]
      have f1 : wn.frozen? ⟨w.heap.size + 1, 1, none⟩ = false := by simp [World.frozen?, rs3]
      have f2 : wn.frozen? ⟨w.heap.size + 1, 2, none⟩ = false := by simp [World.frozen?, rs3]
      have f3 : wn.frozen? ⟨w.heap.size + 1, 3, none⟩ = false := by simp [World.frozen?, rs3]
      have f4 : wn.frozen? ⟨w.heap.size + 1, 4, none⟩ = false := by simp [World.frozen?, rs3]
      clear hbn rs3 hrs x0 x1 x2 x3 x4
      obtain ⟨x0, x1, x2, x3, x4⟩ := id hn
      simp only [] at x0 x1 x2 x3 x4
      have A0 := alloc_cell x0 (show w.heap.size < wn.heap.size by omega)
      have B0 := alloc_cell t0 hsz
      have C0 := alloc_frozen f0 hsz
      have D0 := alloc_cell2 x0 (show w.heap.size < wn.heap.size by omega)
      have E0 := alloc_cell2 t0 hsz
      have G0 := alloc_frozen2 f0 hsz
      have A1 := alloc_cell x1 (show w.heap.size < wn.heap.size by omega)
      have B1 := alloc_cell t1 hsz
      have C1 := alloc_frozen f1 hsz
      have D1 := alloc_cell2 x1 (show w.heap.size < wn.heap.size by omega)
      have E1 := alloc_cell2 t1 hsz
      have G1 := alloc_frozen2 f1 hsz
      have A2 := alloc_cell x2 (show w.heap.size < wn.heap.size by omega)
      have B2 := alloc_cell t2 hsz
      have C2 := alloc_frozen f2 hsz
      have D2 := alloc_cell2 x2 (show w.heap.size < wn.heap.size by omega)
      have E2 := alloc_cell2 t2 hsz
      have G2 := alloc_frozen2 f2 hsz
      have A3 := alloc_cell x3 (show w.heap.size < wn.heap.size by omega)
      have B3 := alloc_cell t3 hsz
      have C3 := alloc_frozen f3 hsz
      have D3 := alloc_cell2 x3 (show w.heap.size < wn.heap.size by omega)
      have E3 := alloc_cell2 t3 hsz
      have G3 := alloc_frozen2 f3 hsz
      have A4 := alloc_cell x4 (show w.heap.size < wn.heap.size by omega)
      have B4 := alloc_cell t4 hsz
      have C4 := alloc_frozen f4 hsz
      have D4 := alloc_cell2 x4 (show w.heap.size < wn.heap.size by omega)
      have E4 := alloc_cell2 t4 hsz
      have G4 := alloc_frozen2 f4 hsz
      go_wp2_with fail
      all_goals
        exact bodyPost_ret (v := .agg #[.int .i64 kind, .string key, .string upto, .int .u64 0, .int .i64 limit]) (by simp [results, Try.results43, go_sem, *]) rfl ⟨rfl, five_set (below_of (below_of hb (below_alloc _ _)) (below_alloc _ _)) w.heap.size _ _ _ _ _ (Nat.le_succ _)⟩
    · simp only [plainV, opCells, if_pos rfl, if_neg Bool.false_ne_true]
      go_enter Try.func43, Try.ntmps43
      go_wp2_with fail
      generalize (w.alloc _).alloc _ = W at hn hb hrs hsz ⊢
      obtain ⟨x0, x1, x2, x3, x4⟩ := id hn
      simp only [] at x0 x1 x2 x3 x4
      (try go_wp2_with fail)
      refine (HU.out _).mono ?_
      rintro e wn ⟨rfl, hbn⟩
      have rs3 := (hbn.block (w.heap.size + 1) hsz).trans hrs
      replace hb := below_of hb hbn
      replace hn := hn.up hbn (by omega)
      replace hsz := Nat.lt_of_lt_of_le hsz hbn.size
      have t0 : wn.cell? ⟨w.heap.size + 1, 0, none⟩ = some (.int .i64 0) := by simp [World.cell?, rs3]
      have t1 : wn.cell? ⟨w.heap.size + 1, 1, none⟩ = some (.string ⟨#[]⟩) := by simp [World.cell?, rs3]
      have t2 : wn.cell? ⟨w.heap.size + 1, 2, none⟩ = some (.string ⟨#[]⟩) := by simp [World.cell?, rs3]
      have t3 : wn.cell? ⟨w.heap.size + 1, 3, none⟩ = some (.int .u64 0) := by simp [World.cell?, rs3]
      have t4 : wn.cell? ⟨w.heap.size + 1, 4, none⟩ = some (.int .i64 0) := by simp [World.cell?, rs3]
      have f0 : wn.frozen? ⟨w.heap.size + 1, 0, none⟩ = false := by simp [World.frozen?, rs3]
      have f1 : wn.frozen? ⟨w.heap.size + 1, 1, none⟩ = false := by simp [World.frozen?, rs3]
      have f2 : wn.frozen? ⟨w.heap.size + 1, 2, none⟩ = false := by simp [World.frozen?, rs3]
      have f3 : wn.frozen? ⟨w.heap.size + 1, 3, none⟩ = false := by simp [World.frozen?, rs3]
      have f4 : wn.frozen? ⟨w.heap.size + 1, 4, none⟩ = false := by simp [World.frozen?, rs3]
      clear hbn rs3 hrs x0 x1 x2 x3 x4
      obtain ⟨x0, x1, x2, x3, x4⟩ := id hn
      simp only [] at x0 x1 x2 x3 x4
      have A0 := alloc_cell x0 (show w.heap.size < wn.heap.size by omega)
      have B0 := alloc_cell t0 hsz
      have C0 := alloc_frozen f0 hsz
      have D0 := alloc_cell2 x0 (show w.heap.size < wn.heap.size by omega)
      have E0 := alloc_cell2 t0 hsz
      have G0 := alloc_frozen2 f0 hsz
      have A1 := alloc_cell x1 (show w.heap.size < wn.heap.size by omega)
      have B1 := alloc_cell t1 hsz
      have C1 := alloc_frozen f1 hsz
      have D1 := alloc_cell2 x1 (show w.heap.size < wn.heap.size by omega)
      have E1 := alloc_cell2 t1 hsz
      have G1 := alloc_frozen2 f1 hsz
      have A2 := alloc_cell x2 (show w.heap.size < wn.heap.size by omega)
      have B2 := alloc_cell t2 hsz
      have C2 := alloc_frozen f2 hsz
      have D2 := alloc_cell2 x2 (show w.heap.size < wn.heap.size by omega)
      have E2 := alloc_cell2 t2 hsz
      have G2 := alloc_frozen2 f2 hsz
      have A3 := alloc_cell x3 (show w.heap.size < wn.heap.size by omega)
      have B3 := alloc_cell t3 hsz
      have C3 := alloc_frozen f3 hsz
      have D3 := alloc_cell2 x3 (show w.heap.size < wn.heap.size by omega)
      have E3 := alloc_cell2 t3 hsz
      have G3 := alloc_frozen2 f3 hsz
      have A4 := alloc_cell x4 (show w.heap.size < wn.heap.size by omega)
      have B4 := alloc_cell t4 hsz
      have C4 := alloc_frozen f4 hsz
      have D4 := alloc_cell2 x4 (show w.heap.size < wn.heap.size by omega)
      have E4 := alloc_cell2 t4 hsz
      have G4 := alloc_frozen2 f4 hsz
      go_wp2_with fail
      all_goals
        exact bodyPost_ret (v := .agg #[.int .i64 kind, .string key, .string upto, .int .u64 (val : Int), .int .i64 limit]) (by simp [results, Try.results43, go_sem, *]) rfl ⟨rfl, five_set (below_of (below_of hb (below_alloc _ _)) (below_alloc _ _)) w.heap.size _ _ _ _ _ (Nat.le_succ _)⟩

end Go.Proofs.Ythbafbgnclpbpaa
