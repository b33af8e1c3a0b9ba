/- Contracts of package sorted: a row without one, with another one, a part of a row. -/
import Derived.Test.YthbafbgnclpbpaaMake2
namespace Go.Proofs.Ythbafbgnclpbpaa
open Go.RowKit

theorem splice_cut {α : Type} (Z xs : List α) (k : Nat) (h : Z.length + 1 = xs.length) (hk : k < xs.length) : splice (splice Z 0 (xs.take k)) k (xs.drop (k + 1)) = xs.eraseIdx k := by
  have hz : splice Z 0 (xs.take k) = xs.take k ++ Z.drop k := by simp [splice, Nat.min_eq_left (Nat.le_of_lt hk)]
  have hlen : (xs.take k).length = k := by simp; omega
  rw [hz, splice, List.eraseIdx_eq_take_drop_succ]
  have e2 : (xs.take k ++ Z.drop k).take k = xs.take k := by
    rw [List.take_append, hlen, Nat.sub_self, List.take_zero, List.append_nil, List.take_of_length_le (by omega)]
  have e3 : (xs.take k ++ Z.drop k).drop (k + (xs.drop (k + 1)).length) = [] := by
    apply List.drop_eq_nil_of_le; simp; omega
  rw [e2, e3]; simp

/-- A part of a row. -/
def part {α : Type} (xs : List α) (i j : Int) : List α := (xs.drop i.toNat).take (j.toNat - i.toNat)
theorem strs_ins (ss : List ByteArray) (k : Nat) (x : ByteArray) : ins (strs ss) k (.string x) = strs (ins ss k x) := by simp [ins, strs]
theorem strs_erase (ss : List ByteArray) (k : Nat) : (strs ss).eraseIdx k = strs (ss.eraseIdx k) := by simp [strs, List.eraseIdx_eq_take_drop_succ]
theorem strs_part (ss : List ByteArray) (i j : Int) : part (strs ss) i j = strs (part ss i j) := by simp [part, strs]
theorem strs_one (ss : List ByteArray) : ∀ u ∈ strs ss, u.oneCell' = true := by
  intro u hu
  obtain ⟨s, _, rfl⟩ := List.mem_map.1 hu
  rfl
theorem i64s_one (zs : List Int) : ∀ u ∈ i64s zs, u.oneCell' = true := by
  intro u hu
  obtain ⟨s, _, rfl⟩ := List.mem_map.1 hu
  rfl
theorem u64s_one (zs : List Int) : ∀ u ∈ u64s zs, u.oneCell' = true := by
  intro u hu
  obtain ⟨s, _, rfl⟩ := List.mem_map.1 hu
  rfl
/-- What is made in the first new block; nothing, where it has nothing. -/
def Newly (w w' : World) (E : TypeId) (A : Option Addr) (xs : List Value) : Prop := 0 < xs.length → A = some ⟨w.heap.size, 0, none⟩ ∧ w'.heap[w.heap.size]? = some (.cells xs.toArray E (0, 0))
theorem Newly.rd {w w' : World} {E : TypeId} {A : Option Addr} {xs : List Value} (h : Newly w w' E A xs) : Rd w' w'.heap.size 1 A xs.length xs := by
  by_cases h0 : 0 < xs.length
  · obtain ⟨rfl, hh⟩ := h h0
    exact Rd.new hh
  · obtain rfl : xs = [] := List.eq_nil_of_length_eq_zero (by omega)
    exact Rd.nil _ _ _ _
theorem ret_slice {A : Option Addr} {n n' c c' : Nat} (h : n = n') (k : c = c') : Ending.returned (.slice A n c) = .returned (.slice A n' c') := by rw [h, k]

end Go.Proofs.Ythbafbgnclpbpaa
