/- Contracts of package sorted: a row with one more. -/
import Derived.Test.YthbafbgnclpbpaaMake
import Derived.Deep.RegionLaw
namespace Go.Proofs.Ythbafbgnclpbpaa
open Go.RowKit

theorem heap_set {w : World} {g : Nat} {cs : List Value} {E : TypeId} {fr : Nat × Nat} (h : w.heap[g]? = some (.cells cs.toArray E fr)) (k : Nat) (u : Value) :
    (w.setCell ⟨g, k, none⟩ u).heap[g]? = some (.cells (cs.set k u).toArray E fr) := by
  simp [World.setCell, Array.getElem?_modify, h]
theorem heap_cell {w : World} {g : Nat} {cs : List Value} {E : TypeId} {fr : Nat × Nat} (h : w.heap[g]? = some (.cells cs.toArray E fr)) (k : Nat) (hk : k < cs.length) : w.cell? ⟨g, k, none⟩ = some cs[k] := by
  rw [cell_of_row w g k _ _ _ h]; simp [hk]
theorem heap_frozen {w : World} {g : Nat} {cs : Array Value} {E : TypeId} (h : w.heap[g]? = some (.cells cs E (0, 0))) (k : Nat) : w.frozen? ⟨g, k, none⟩ = false := by
  simp [World.frozen?, h]

/-- 'copy' run in any world: as many cells as the shorter of the two has go over. -/
theorem run_copy_any {P : Program} {w : World} (dT sT T0 elem : TypeId) (hu : P.underlying dT = some (.slice elem)) (hsz : (P.info? elem).map (·.size) = some 1)
    (dp sp : Option Addr) (dLen dCap sLen sCap : Nat) (g off : Nat) (cur : List Value) (t : TypeId) (hg : w.heap[g]? = some (.cells cur.toArray t (0, 0))) (cs : List Value) (hn : cs.length = Nat.min sLen dLen)
    (hpos : 0 < cs.length → dp = some ⟨g, off, none⟩ ∧ ∃ ad, sp = some ad ∧ ∀ (j : Nat) (v : Value), cs[j]? = some v → w.cell? (ad.add j) = some v)
    (hfit : off + cs.length ≤ cur.length) (h1 : ∀ v ∈ cs, v.oneCell' = true) (B : Nat) (w0 : World) (hb : Below B w0 w) (hBg : B ≤ g) :
    ∃ w', (Builtin.copy_ #[dT, sT] T0 #[.slice dp dLen dCap, .slice sp sLen sCap]).run P w = .ok (.int .i64 cs.length) w' ∧ Hid (w'.heap[g]? = some (.cells (splice cur off cs).toArray t (0, 0))) ∧ Below B w0 w' := by
  by_cases h0 : cs.length = 0
  · obtain rfl : cs = [] := List.eq_nil_of_length_eq_zero h0
    exact ⟨w, run_copy_none (P := P) w dT sT T0 elem dp sp dLen dCap sLen sCap hu hsz (by simpa using hn.symm), show _ = _ by simpa [splice] using hg, hb⟩
  · obtain ⟨rfl, ad, rfl, hsrc⟩ := hpos (by omega)
    exact ⟨_, run_copy_row (P := P) w dT sT T0 elem g off dLen dCap ad sLen sCap cur.toArray t cs hu hsz hg hn hsrc (by simpa using hfit) h1, show _ = _ by simpa [splice] using setRow_heap w g _ _ t _ hg, below_setRow hb hBg _⟩

theorem splice_none {α : Type} (L : List α) (off : Nat) : splice L off [] = L := by simp [splice]

/-- A row with one more at k. -/
def ins {α : Type} (xs : List α) (k : Nat) (x : α) : List α := xs.take k ++ x :: xs.drop k
theorem ins_length {α : Type} (xs : List α) (k : Nat) (x : α) (h : k ≤ xs.length) : (ins xs k x).length = xs.length + 1 := by simp [ins]; omega
theorem splice_ins {α : Type} (Z xs : List α) (k : Nat) (x : α) (h : Z.length = xs.length + 1) (hk : k ≤ xs.length) : splice ((splice Z 0 (xs.take k)).set k x) (k + 1) (xs.drop k) = ins xs k x := by
  have hz : splice Z 0 (xs.take k) = xs.take k ++ Z.drop k := by simp [splice, Nat.min_eq_left hk]
  rw [hz]
  obtain ⟨z, tl, hd⟩ : ∃ z tl, Z.drop k = z :: tl := by
    match hd : Z.drop k with
    | [] => have := congrArg List.length hd; simp at this; omega
    | z :: tl => exact ⟨z, tl, rfl⟩
  have htl : tl.length = xs.length - k := by have := congrArg List.length hd; simp at this; omega
  rw [hd]
  have hlen : (xs.take k).length = k := by simp [Nat.min_eq_left hk]
  have e1 : (xs.take k ++ z :: tl).set k x = xs.take k ++ x :: tl := by
    rw [List.set_append_right _ _ (by omega), hlen, Nat.sub_self, List.set_cons_zero]
  rw [e1, splice, ins]
  have e2 : (xs.take k ++ x :: tl).take (k + 1) = xs.take k ++ [x] := by
    rw [List.take_append, hlen, show k + 1 - k = 1 from by omega, List.take_of_length_le (by omega)]; rfl
  have e3 : (xs.take k ++ x :: tl).drop (k + 1 + (xs.drop k).length) = [] := by
    apply List.drop_eq_nil_of_le; simp [htl]; omega
  rw [e2, e3]; simp

end Go.Proofs.Ythbafbgnclpbpaa
