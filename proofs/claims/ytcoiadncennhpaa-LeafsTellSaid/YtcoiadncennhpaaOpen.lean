/- What the row's step hands over of an argument, as my walks want it. No program. -/
import Derived.Test.YtcoiadncennhpaaWords
import Derived.ProofKit
import Derived.Deep.Slices
namespace Go.Proofs.Ytcoiadncennhpaa
open Go.ChangeShapes Go.WideShapes Go.ChangeAt Go.RowKit Go.Deep

theorem bd_i64 {x : Int} (h : (Lit.int .i64 x).wf = true) : -9223372036854775808 ≤ x ∧ x ≤ 9223372036854775807 := by
  simp [Lit.wf, IntKind.min, IntKind.max, IntKind.signed, IntKind.bits] at h
  exact ⟨by omega, by omega⟩
theorem bd_u64 {x : Int} (h : (Lit.int .u64 x).wf = true) : 0 ≤ x ∧ x ≤ 18446744073709551615 := by
  simp [Lit.wf, IntKind.min, IntKind.max, IntKind.signed, IntKind.bits] at h
  exact ⟨by omega, by omega⟩

section
variable {H : Type} {enc : TypeId × Value → H} {P : Program} {w : World} {base : Nat} {spare : Nat → Bool} {held : Bool}

/-- A cell that is there lies at no spot within it. -/
theorem lit_of_cell {a : Addr} {v : Value} (h : w.cell? (a.add 0) = some v) : ∃ b off, a = ⟨b, off, none⟩ ∧ b < w.heap.size := by
  have h' : w.cell? a = some v := h
  have hs := World.cell?_spot h'
  have hb := World.block_lt_of_cell? w _ h'
  obtain ⟨b, off, sp⟩ := a
  simp at hs hb
  subst hs
  exact ⟨b, off, rfl, hb⟩

theorem rd_of_cells {a : Addr} {n : Nat} {xs : List Value} (hn : xs.length = n) (h : ∀ i u, xs[i]? = some u → w.cell? (a.add i) = some u) : Rd w w.heap.size 1 (some a) n xs := by
  refine ⟨by omega, fun h0 => ?_⟩
  obtain ⟨b, off, rfl, hb⟩ := lit_of_cell (h 0 _ (List.getElem?_eq_getElem (by omega)))
  exact ⟨b, off, rfl, hb, fun j u hu => by have := h j u hu; rwa [Addr.add_lit] at this⟩

theorem open_texts {t e : TypeId} {r : Reach} {b0 : Nat} {v : Value} {d : DataW H} {p : List MemPlace} (ht : P.underlying t = some (.slice e)) (he : P.underlying e = some .string) (hc : P.cellsOf e = 1)
    (hv : Value.okWide P w r b0 t v) (h : DataW.Trod enc P w base spare held t v d p) :
    ∃ (A : Option Addr) (n c : Nat) (ss : List ByteArray), v = .slice A n c ∧ RdS w A n ss ∧ (∀ (j : Nat) (hj : j < ss.length), ss[j].size ≤ maxLen) ∧ n ≤ c ∧ n ≤ 9223372036854775807 := by
  obtain ⟨A, n, c, rfl⟩ := okWide_slice ht hv
  obtain ⟨fuel, hf⟩ := h
  rcases open_strings ht he hc hf with ⟨hcs, _⟩ | ⟨a, l, c', ss, hcs, _, hl, hm, hz, _, hcell, hwz⟩
  · simp [Value.cells] at hcs
    obtain ⟨rfl, rfl, rfl⟩ := hcs
    exact ⟨_, _, _, [], rfl, Rd.nil _ _ _ _, fun j hj => absurd hj (Nat.not_lt_zero _), Nat.le_refl _, by omega⟩
  · simp [Value.cells] at hcs
    obtain ⟨rfl, rfl, rfl⟩ := hcs
    have hle : n ≤ ss.length := by rw [hz]; split <;> omega
    refine ⟨_, _, _, ss.take n, rfl, ?_, fun j hj => ?_, hl, by unfold maxLen at hm; omega⟩
    · refine rd_of_cells (by simp [Go.Proofs.Ytcoiadncennhpaa.strs]; omega) fun i u hu => ?_
      have hi : i < n := by have := (List.getElem?_eq_some_iff.1 hu).1; simp [Go.Proofs.Ytcoiadncennhpaa.strs] at this; omega
      rw [hcell i (by omega)]
      have e : (Go.Proofs.Ytcoiadncennhpaa.strs (ss.take n))[i]? = some (.string (ss.getD i ByteArray.empty)) := by
        simp [Go.Proofs.Ytcoiadncennhpaa.strs, hi, List.getD, show i < ss.length by omega]
      rw [e] at hu
      exact hu
    · rw [List.getElem_take]
      exact hwz _ (List.getElem_mem _)

theorem open_nums {t e : TypeId} {r : Reach} {b0 : Nat} {k : IntKind} {v : Value} {d : DataW H} {p : List MemPlace} (ht : P.underlying t = some (.slice e)) (he : P.underlying e = some (.int k)) (hc : P.cellsOf e = 1)
    (hv : Value.okWide P w r b0 t v) (h : DataW.Trod enc P w base spare held t v d p) :
    ∃ (A : Option Addr) (n c : Nat) (zs : List Int), v = .slice A n c ∧ Rd w w.heap.size 1 A n (zs.map (Value.int k)) ∧ (∀ z ∈ zs, (Lit.int k z).wf = true) ∧ n ≤ c ∧ n ≤ 9223372036854775807 := by
  obtain ⟨A, n, c, rfl⟩ := okWide_slice ht hv
  obtain ⟨fuel, hf⟩ := h
  rcases open_ints ht he hc hf with ⟨hcs, _⟩ | ⟨a, l, c', zs, hcs, _, hl, hm, hz, _, hcell, hwz⟩
  · simp [Value.cells] at hcs
    obtain ⟨rfl, rfl, rfl⟩ := hcs
    exact ⟨_, _, _, [], rfl, Rd.nil _ _ _ _, fun z hz => absurd hz (by simp), Nat.le_refl _, by omega⟩
  · simp [Value.cells] at hcs
    obtain ⟨rfl, rfl, rfl⟩ := hcs
    have hle : n ≤ zs.length := by rw [hz]; split <;> omega
    refine ⟨_, _, _, zs.take n, rfl, ?_, fun z hz' => hwz z (List.mem_of_mem_take hz'), hl, by unfold maxLen at hm; omega⟩
    refine rd_of_cells (by simp; omega) fun i u hu => ?_
    have hi : i < n := by have := (List.getElem?_eq_some_iff.1 hu).1; simp at this; omega
    rw [hcell i (by omega)]
    have e : ((zs.take n).map (Value.int k))[i]? = some (.int k (zs.getD i 0)) := by
      simp [hi, List.getD, show i < zs.length by omega]
    rw [e] at hu
    exact hu
end

end Go.Proofs.Ytcoiadncennhpaa
