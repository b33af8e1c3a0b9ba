/- What the row's step hands over of a node that comes in, as my walks want it. No walk. -/
import Derived.Test.YtcoiadncennhpaaOpen
import Derived.Test.YtcoiadncennhpaaNodeLaw
import Derived.Lib.SmallJoins
namespace Go.Proofs.Ytcoiadncennhpaa
open Go.Joins Go.ChangeShapes Go.WideShapes Go.ChangeAt Go.RowKit Go.Deep

section
variable {H : Type} {enc : TypeId × Value → H} {P : Program} {w : World} {base : Nat} {spare : Nat → Bool} {held : Bool}

theorem open_agg8 {r : Reach} {b0 : Nat} {t : TypeId} {f0 f1 f2 f3 f4 f5 f6 f7 : Field} {v : Value} {d : DataW H} {p : List MemPlace} (hs : P.underlying t = some (.struct #[f0, f1, f2, f3, f4, f5, f6, f7])) (hone : oneCellFields P #[f0, f1, f2, f3, f4, f5, f6, f7] = true) (hC : P.cellsOf t = 8)
    (hv : Value.okWide P w r b0 t v) (h : DataW.Trod enc P w base spare held t v d p) :
    ∃ (v0 v1 v2 v3 v4 v5 v6 v7 : Value) (y0 y1 y2 y3 y4 y5 y6 y7 : DataW H × List MemPlace) (n : Nat), v = .agg #[v0, v1, v2, v3, v4, v5, v6, v7] ∧
      DataW.trod enc P w base spare held n f0.type [v0] = some y0 ∧ DataW.trod enc P w base spare held n f1.type [v1] = some y1 ∧ DataW.trod enc P w base spare held n f2.type [v2] = some y2 ∧ DataW.trod enc P w base spare held n f3.type [v3] = some y3 ∧ DataW.trod enc P w base spare held n f4.type [v4] = some y4 ∧ DataW.trod enc P w base spare held n f5.type [v5] = some y5 ∧ DataW.trod enc P w base spare held n f6.type [v6] = some y6 ∧ DataW.trod enc P w base spare held n f7.type [v7] = some y7 := by
  obtain ⟨cs, rfl, hsz⟩ := okWide_struct hs hv
  obtain ⟨l⟩ := cs
  match l, hsz.trans hC with
  | [c0, c1, c2, c3, c4, c5, c6, c7], _ =>
    obtain ⟨fuel, hf⟩ := h
    obtain ⟨xs, n, _, hx, _, hlen, hg⟩ := DataW.trod_struct hs hf
    obtain ⟨o0, k0⟩ := hone_of hone 0 f0 rfl
    obtain ⟨o1, k1⟩ := hone_of hone 1 f1 rfl
    obtain ⟨o2, k2⟩ := hone_of hone 2 f2 rfl
    obtain ⟨o3, k3⟩ := hone_of hone 3 f3 rfl
    obtain ⟨o4, k4⟩ := hone_of hone 4 f4 rfl
    obtain ⟨o5, k5⟩ := hone_of hone 5 f5 rfl
    obtain ⟨o6, k6⟩ := hone_of hone 6 f6 rfl
    obtain ⟨o7, k7⟩ := hone_of hone 7 f7 rfl
    match xs, hlen with
    | [y0, y1, y2, y3, y4, y5, y6, y7], _ =>
      exact ⟨c0, c1, c2, c3, c4, c5, c6, c7, y0, y1, y2, y3, y4, y5, y6, y7, n, rfl, by simpa [Value.cells, o0, k0] using hg 0 f0 rfl, by simpa [Value.cells, o1, k1] using hg 1 f1 rfl, by simpa [Value.cells, o2, k2] using hg 2 f2 rfl, by simpa [Value.cells, o3, k3] using hg 3 f3 rfl, by simpa [Value.cells, o4, k4] using hg 4 f4 rfl, by simpa [Value.cells, o5, k5] using hg 5 f5 rfl, by simpa [Value.cells, o6, k6] using hg 6 f6 rfl, by simpa [Value.cells, o7, k7] using hg 7 f7 rfl⟩

theorem f_int {t : TypeId} {k : IntKind} {n : Nat} {v : Value} {y : DataW H × List MemPlace} (ht : P.underlying t = some (.int k)) (h : DataW.trod enc P w base spare held n t [v] = some y) : ∃ x, v = .int k x ∧ (Lit.int k x).wf = true := by
  obtain ⟨x, hc, _, hw⟩ := DataW.trod_int ht h
  simp at hc
  exact ⟨x, hc, hw⟩
theorem f_bool {t : TypeId} {n : Nat} {v : Value} {y : DataW H × List MemPlace} (ht : P.underlying t = some .bool) (h : DataW.trod enc P w base spare held n t [v] = some y) : ∃ x, v = .bool x := by
  obtain ⟨x, hc, _⟩ := DataW.trod_bool ht h
  simp at hc
  exact ⟨x, hc⟩
theorem f_string {t : TypeId} {n : Nat} {v : Value} {y : DataW H × List MemPlace} (ht : P.underlying t = some .string) (h : DataW.trod enc P w base spare held n t [v] = some y) : ∃ x : ByteArray, v = .string x ∧ x.size ≤ maxLen := by
  obtain ⟨x, hc, _, hw⟩ := DataW.trod_string ht h
  simp at hc
  exact ⟨x, hc, hw⟩
theorem f_texts {t e : TypeId} {m : Nat} {v : Value} {y : DataW H × List MemPlace} (ht : P.underlying t = some (.slice e)) (he : P.underlying e = some .string) (hc : P.cellsOf e = 1) (h : DataW.trod enc P w base spare held m t [v] = some y) :
    ∃ (A : Option Addr) (c : Nat) (ss : List ByteArray), v = .slice A ss.length c ∧ RdS w A ss.length ss ∧ (∀ (j : Nat) (hj : j < ss.length), ss[j].size ≤ maxLen) ∧ ss.length ≤ c ∧ ss.length ≤ 9223372036854775807 := by
  rcases open_strings ht he hc h with ⟨hcs, _⟩ | ⟨a, l, c', ss, hcs, _, hl, hm, hz, _, hcell, hwz⟩
  · simp at hcs
    subst hcs
    exact ⟨none, 0, [], rfl, Rd.nil _ _ _ _, fun j hj => absurd hj (Nat.not_lt_zero _), Nat.le_refl _, by simp⟩
  · simp at hcs
    subst hcs
    have hle : l ≤ ss.length := by rw [hz]; split <;> omega
    have hlen : (ss.take l).length = l := by simp; omega
    refine ⟨some a, c', ss.take l, by rw [hlen], ?_, fun j hj => ?_, by omega, by unfold maxLen at hm; omega⟩
    · rw [hlen]
      refine rd_of_cells (by simp [Go.Proofs.Ytcoiadncennhpaa.strs]; omega) fun i u hu => ?_
      have hi : i < l := by have := (List.getElem?_eq_some_iff.1 hu).1; simp [Go.Proofs.Ytcoiadncennhpaa.strs] at this; omega
      rw [hcell i (by omega)]
      have e : (Go.Proofs.Ytcoiadncennhpaa.strs (ss.take l))[i]? = some (.string (ss.getD i ByteArray.empty)) := by
        simp [Go.Proofs.Ytcoiadncennhpaa.strs, hi, List.getD, show i < ss.length by omega]
      rw [e] at hu
      exact hu
    · rw [List.getElem_take]
      exact hwz _ (List.getElem_mem _)
theorem f_nums {t e : TypeId} {k : IntKind} {m : Nat} {v : Value} {y : DataW H × List MemPlace} (ht : P.underlying t = some (.slice e)) (he : P.underlying e = some (.int k)) (hc : P.cellsOf e = 1) (h : DataW.trod enc P w base spare held m t [v] = some y) :
    ∃ (A : Option Addr) (c : Nat) (zs : List Int), v = .slice A zs.length c ∧ Rd w w.heap.size 1 A zs.length (zs.map (Value.int k)) ∧ (∀ z ∈ zs, (Lit.int k z).wf = true) ∧ zs.length ≤ c ∧ zs.length ≤ 9223372036854775807 := by
  rcases open_ints ht he hc h with ⟨hcs, _⟩ | ⟨a, l, c', zs, hcs, _, hl, hm, hz, _, hcell, hwz⟩
  · simp at hcs
    subst hcs
    exact ⟨none, 0, [], rfl, Rd.nil _ _ _ _, fun z hz => absurd hz (by simp), Nat.le_refl _, by simp⟩
  · simp at hcs
    subst hcs
    have hle : l ≤ zs.length := by rw [hz]; split <;> omega
    have hlen : (zs.take l).length = l := by simp; omega
    refine ⟨some a, c', zs.take l, by rw [hlen], ?_, fun z hz' => hwz z (List.mem_of_mem_take hz'), by omega, by unfold maxLen at hm; omega⟩
    rw [hlen]
    refine rd_of_cells (by simp; omega) fun i u hu => ?_
    have hi : i < l := by have := (List.getElem?_eq_some_iff.1 hu).1; simp at this; omega
    rw [hcell i (by omega)]
    have e : ((zs.take l).map (Value.int k))[i]? = some (.int k (zs.getD i 0)) := by
      simp [hi, List.getD, show i < zs.length by omega]
    rw [e] at hu
    exact hu
end

set_option maxRecDepth 100000 in
theorem open_node {H : Type} {enc : TypeId × Value → H} {w : World} {base : Nat} {spare : Nat → Bool} {held : Bool} {r : Reach} {b0 : Nat} {v : Value} {d : DataW H} {p : List MemPlace}
    (hv : Value.okWide Try.prog w r b0 26 v) (h : DataW.Trod enc Try.prog w base spare held 26 v d p) :
    ∃ (d : Nd) (A B C : Option Addr) (ca cb cc : Nat), v = .agg (ndCells d A B C ca cb cc) ∧ Lies w d A B C ca cb cc ∧ Bnd d := by
  obtain ⟨v0, v1, v2, v3, v4, v5, v6, v7, y0, y1, y2, y3, y4, y5, y6, y7, n, rfl, h0, h1, h2, h3, h4, h5, h6, h7⟩ := open_agg8 Try.underlying26 (by kernel_rfl) (by kernel_rfl) hv h
  obtain ⟨level, rfl, w0⟩ := f_int Try.underlying3 h0
  obtain ⟨low, rfl, w1⟩ := f_string Try.underlying9 h1
  obtain ⟨high, rfl, w2⟩ := f_string Try.underlying9 h2
  obtain ⟨last, rfl⟩ := f_bool Try.underlying4 h3
  obtain ⟨next, rfl, w4⟩ := f_int Try.underlying3 h4
  obtain ⟨A, ca, keys, rfl, hk, hkf, hka, hkl⟩ := f_texts Try.underlying22 Try.underlying9 (by kernel_rfl) h5
  obtain ⟨B, cb, vals, rfl, hu, hub, hua, hul⟩ := f_nums Try.underlying23 Try.underlying35 (by kernel_rfl) h6
  obtain ⟨C, cc, kids, rfl, hi, hib, hia, hil⟩ := f_nums Try.underlying24 Try.underlying3 (by kernel_rfl) h7
  exact ⟨⟨level, low, high, last, next, keys, vals, kids⟩, A, B, C, ca, cb, cc, rfl, ⟨hk, hu, hi, hka, hua, hia, hkl, hul, hil, w1, w2, hkf⟩, ⟨bd_i64 w0, bd_i64 w4, fun z hz => bd_u64 (hub z hz), fun z hz => bd_i64 (hib z hz)⟩⟩

end Go.Proofs.Ytcoiadncennhpaa
