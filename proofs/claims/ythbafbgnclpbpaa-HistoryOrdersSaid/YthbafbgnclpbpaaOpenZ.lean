/- What the row's step hands over of an argument, as my walks want it. No program. -/
import Derived.Test.YthbafbgnclpbpaaWords
import Derived.ProofKit
import Derived.Deep.Slices
import Derived.Deep.Fields
import Derived.ChangeSame
import Derived.Lib.SmallJoins
import Derived.Test.YthbafbgnclpbpaaAnsA
import Derived.Test.YthbafbgnclpbpaaZOpl
import Derived.Test.YthbafbgnclpbpaaHistA
namespace Go.Proofs.Ythbafbgnclpbpaa
open Go.ChangeShapes Go.WideShapes Go.ChangeAt Go.RowKit Go.Deep

theorem bd_i64 {x : Int} (h : (Lit.int .i64 x).wf = true) : -9223372036854775808 ≤ x ∧ x ≤ 9223372036854775807 := by
  simp [Lit.wf, IntKind.min, IntKind.max, IntKind.signed, IntKind.bits] at h
  exact ⟨by omega, by omega⟩
theorem bd_u64 {x : Int} (h : (Lit.int .u64 x).wf = true) : 0 ≤ x ∧ x ≤ 18446744073709551615 := by
  simp [Lit.wf, IntKind.min, IntKind.max, IntKind.signed, IntKind.bits] at h
  exact ⟨by omega, by omega⟩

section
variable {H : Type} {enc : TypeId × Value → H} {P : Program} {w : World} {base : Nat} {spare : Nat → Bool} {held : Bool}

/-- A cell that is there lies at no spot within it. -/
theorem lit_of_cell {a : Addr} {v : Value} (h : w.cell? (a.add 0) = some v) : ∃ b off, a = ⟨b, off, none⟩ ∧ b < w.heap.size := by
  have h' : w.cell? a = some v := h
  have hs := World.cell?_spot h'
  have hb := World.block_lt_of_cell? w _ h'
  obtain ⟨b, off, sp⟩ := a
  simp at hs hb
  subst hs
  exact ⟨b, off, rfl, hb⟩

theorem rd_of_cells {a : Addr} {n : Nat} {xs : List Value} (hn : xs.length = n) (h : ∀ i u, xs[i]? = some u → w.cell? (a.add i) = some u) : Rd w w.heap.size 1 (some a) n xs := by
  refine ⟨by omega, fun h0 => ?_⟩
  obtain ⟨b, off, rfl, hb⟩ := lit_of_cell (h 0 _ (List.getElem?_eq_getElem (by omega)))
  exact ⟨b, off, rfl, hb, fun j u hu => by have := h j u hu; rwa [Addr.add_lit] at this⟩

theorem open_texts {t e : TypeId} {r : Reach} {b0 : Nat} {v : Value} {d : DataW H} {p : List MemPlace} (ht : P.underlying t = some (.slice e)) (he : P.underlying e = some .string) (hc : P.cellsOf e = 1)
    (hv : Value.okWide P w r b0 t v) (h : DataW.Trod enc P w base spare held t v d p) :
    ∃ (A : Option Addr) (n c : Nat) (ss : List ByteArray), v = .slice A n c ∧ RdS w A n ss ∧ (∀ (j : Nat) (hj : j < ss.length), ss[j].size ≤ maxLen) ∧ n ≤ c ∧ n ≤ 9223372036854775807 := by
  obtain ⟨A, n, c, rfl⟩ := okWide_slice ht hv
  obtain ⟨fuel, hf⟩ := h
  rcases open_strings ht he hc hf with ⟨hcs, _⟩ | ⟨a, l, c', ss, hcs, _, hl, hm, hz, _, hcell, hwz⟩
  · simp [Value.cells] at hcs
    obtain ⟨rfl, rfl, rfl⟩ := hcs
    exact ⟨_, _, _, [], rfl, Rd.nil _ _ _ _, fun j hj => absurd hj (Nat.not_lt_zero _), Nat.le_refl _, by omega⟩
  · simp [Value.cells] at hcs
    obtain ⟨rfl, rfl, rfl⟩ := hcs
    have hle : n ≤ ss.length := by rw [hz]; split <;> omega
    refine ⟨_, _, _, ss.take n, rfl, ?_, fun j hj => ?_, hl, by unfold maxLen at hm; omega⟩
    · refine rd_of_cells (by simp [Go.Proofs.Ythbafbgnclpbpaa.strs]; omega) fun i u hu => ?_
      have hi : i < n := by have := (List.getElem?_eq_some_iff.1 hu).1; simp [Go.Proofs.Ythbafbgnclpbpaa.strs] at this; omega
      rw [hcell i (by omega)]
      have e : (Go.Proofs.Ythbafbgnclpbpaa.strs (ss.take n))[i]? = some (.string (ss.getD i ByteArray.empty)) := by
        simp [Go.Proofs.Ythbafbgnclpbpaa.strs, hi, List.getD, show i < ss.length by omega]
      rw [e] at hu
      exact hu
    · rw [List.getElem_take]
      exact hwz _ (List.getElem_mem _)

theorem open_nums {t e : TypeId} {r : Reach} {b0 : Nat} {k : IntKind} {v : Value} {d : DataW H} {p : List MemPlace} (ht : P.underlying t = some (.slice e)) (he : P.underlying e = some (.int k)) (hc : P.cellsOf e = 1)
    (hv : Value.okWide P w r b0 t v) (h : DataW.Trod enc P w base spare held t v d p) :
    ∃ (A : Option Addr) (n c : Nat) (zs : List Int), v = .slice A n c ∧ Rd w w.heap.size 1 A n (zs.map (Value.int k)) ∧ (∀ z ∈ zs, (Lit.int k z).wf = true) ∧ n ≤ c ∧ n ≤ 9223372036854775807 := by
  obtain ⟨A, n, c, rfl⟩ := okWide_slice ht hv
  obtain ⟨fuel, hf⟩ := h
  rcases open_ints ht he hc hf with ⟨hcs, _⟩ | ⟨a, l, c', zs, hcs, _, hl, hm, hz, _, hcell, hwz⟩
  · simp [Value.cells] at hcs
    obtain ⟨rfl, rfl, rfl⟩ := hcs
    exact ⟨_, _, _, [], rfl, Rd.nil _ _ _ _, fun z hz => absurd hz (by simp), Nat.le_refl _, by omega⟩
  · simp [Value.cells] at hcs
    obtain ⟨rfl, rfl, rfl⟩ := hcs
    have hle : n ≤ zs.length := by rw [hz]; split <;> omega
    refine ⟨_, _, _, zs.take n, rfl, ?_, fun z hz' => hwz z (List.mem_of_mem_take hz'), hl, by unfold maxLen at hm; omega⟩
    refine rd_of_cells (by simp; omega) fun i u hu => ?_
    have hi : i < n := by have := (List.getElem?_eq_some_iff.1 hu).1; simp at this; omega
    rw [hcell i (by omega)]
    have e : ((zs.take n).map (Value.int k))[i]? = some (.int k (zs.getD i 0)) := by
      simp [hi, List.getD, show i < zs.length by omega]
    rw [e] at hu
    exact hu
end

end Go.Proofs.Ythbafbgnclpbpaa

namespace Go.Proofs.Ythbafbgnclpbpaa
open Go.Joins Go.ChangeShapes Go.WideShapes Go.ChangeAt Go.RowKit Go.Deep

section
variable {H : Type} {enc : TypeId × Value → H} {P : Program} {w : World} {base : Nat} {spare : Nat → Bool} {held : Bool}
theorem open_slice_fields {t e : TypeId} {fs : Array Field} {fuel : Nat} {cs : List Value} {x : DataW H × List MemPlace} (ht : P.underlying t = some (.slice e)) (he : P.underlying e = some (.struct fs))
    (hone : oneCellFields P fs = true) (hC : P.cellsOf e = fs.size) (h : DataW.trod enc P w base spare held fuel t cs = some x) :
    (cs = [.slice none 0 0] ∧ x = (.nil, [])) ∨
    ∃ (a : Addr) (len cap m : Nat) (D : Nat → DataW H) (Pl : Nat → List MemPlace), cs = [.slice (some a) len cap] ∧ base ≤ a.block ∧ len ≤ cap ∧ cap ≤ maxLen ∧ m = (if spare a.block then cap else len) ∧
      x = (.slice ((List.range len).map D) ((List.range (m - len)).map fun j => D (len + j)), MemPlace.row a (m * fs.size) ++ (List.range m).flatMap Pl) ∧
      ∀ i, i < m → ∃ (ys : List (DataW H × List MemPlace)) (n : Nat), D i = .agg (ys.map (·.1)) ∧ Pl i = ys.flatMap (·.2) ∧ ys.length = fs.size ∧
        ∀ (j : Nat) (f : Field), fs[j]? = some f → ∃ (v : Value) (y : DataW H × List MemPlace), w.cell? (a.add (i * fs.size + j)) = some v ∧ ys[j]? = some y ∧ DataW.trod enc P w base spare held n f.type [v] = some y := by
  rcases open_slice ht h with h0 | ⟨a, len, cap, m, n, D, Pl, hcs, hb, hl, hm, hmm, hx, hi⟩
  · exact .inl h0
  · refine .inr ⟨a, len, cap, m, D, Pl, hcs, hb, hl, hm, hmm, by rw [hC] at hx; exact hx, fun i him => ?_⟩
    obtain ⟨cs', hc, ht'⟩ := hi i him
    rw [hC] at hc
    obtain ⟨ys, n', hn', hy, hlen, hyl, hf⟩ := DataW.trod_struct he ht'
    obtain ⟨_, hcl, hat⟩ := World.cells?_some hc
    simp only [Prod.mk.injEq] at hy
    refine ⟨ys, n', hy.1, hy.2, hyl, fun j f hj => ?_⟩
    obtain ⟨ho, hk⟩ := hone_of hone j f hj
    have hjl : j < fs.size := (Array.getElem?_eq_some_iff.1 hj).1
    have hcell := hat j hjl
    have hv : cs'[j]? = some (cs'[j]'(by omega)) := List.getElem?_eq_getElem (by omega)
    have h1 := hf j f hj
    rw [ho, hk] at h1
    have hone' : (cs'.drop j).take 1 = [cs'[j]'(by omega)] := by
      rw [List.drop_eq_getElem_cons (by omega)]
      rfl
    rw [hone'] at h1
    have hys : ys[j]? = some (ys[j]'(by omega)) := List.getElem?_eq_getElem (by omega)
    refine ⟨_, _, ?_, hys, h1.trans hys⟩
    rw [← Go.Deep.add_add, hcell, hv]

theorem open_agg5 {r : Reach} {b0 : Nat} {t : TypeId} {f0 f1 f2 f3 f4 : Field} {v : Value} {d : DataW H} {p : List MemPlace} (hs : P.underlying t = some (.struct #[f0, f1, f2, f3, f4])) (hone : oneCellFields P #[f0, f1, f2, f3, f4] = true) (hC : P.cellsOf t = 5)
    (hv : Value.okWide P w r b0 t v) (h : DataW.Trod enc P w base spare held t v d p) :
    ∃ (v0 v1 v2 v3 v4 : Value) (y0 y1 y2 y3 y4 : DataW H × List MemPlace) (n : Nat), v = .agg #[v0, v1, v2, v3, v4] ∧
      DataW.trod enc P w base spare held n f0.type [v0] = some y0 ∧ DataW.trod enc P w base spare held n f1.type [v1] = some y1 ∧ DataW.trod enc P w base spare held n f2.type [v2] = some y2 ∧ DataW.trod enc P w base spare held n f3.type [v3] = some y3 ∧ DataW.trod enc P w base spare held n f4.type [v4] = some y4 := by
  obtain ⟨cs, rfl, hsz⟩ := okWide_struct hs hv
  obtain ⟨l⟩ := cs
  match l, hsz.trans hC with
  | [c0, c1, c2, c3, c4], _ =>
    obtain ⟨fuel, hf⟩ := h
    obtain ⟨xs, n, _, hx, _, hlen, hg⟩ := DataW.trod_struct hs hf
    obtain ⟨o0, k0⟩ := hone_of hone 0 f0 rfl
    obtain ⟨o1, k1⟩ := hone_of hone 1 f1 rfl
    obtain ⟨o2, k2⟩ := hone_of hone 2 f2 rfl
    obtain ⟨o3, k3⟩ := hone_of hone 3 f3 rfl
    obtain ⟨o4, k4⟩ := hone_of hone 4 f4 rfl
    match xs, hlen with
    | [y0, y1, y2, y3, y4], _ =>
      exact ⟨c0, c1, c2, c3, c4, y0, y1, y2, y3, y4, n, rfl, by simpa [Value.cells, o0, k0] using hg 0 f0 rfl, by simpa [Value.cells, o1, k1] using hg 1 f1 rfl, by simpa [Value.cells, o2, k2] using hg 2 f2 rfl, by simpa [Value.cells, o3, k3] using hg 3 f3 rfl, by simpa [Value.cells, o4, k4] using hg 4 f4 rfl⟩

theorem open_agg4 {r : Reach} {b0 : Nat} {t : TypeId} {f0 f1 f2 f3 : Field} {v : Value} {d : DataW H} {p : List MemPlace} (hs : P.underlying t = some (.struct #[f0, f1, f2, f3])) (hone : oneCellFields P #[f0, f1, f2, f3] = true) (hC : P.cellsOf t = 4)
    (hv : Value.okWide P w r b0 t v) (h : DataW.Trod enc P w base spare held t v d p) :
    ∃ (v0 v1 v2 v3 : Value) (y0 y1 y2 y3 : DataW H × List MemPlace) (n : Nat), v = .agg #[v0, v1, v2, v3] ∧
      DataW.trod enc P w base spare held n f0.type [v0] = some y0 ∧ DataW.trod enc P w base spare held n f1.type [v1] = some y1 ∧ DataW.trod enc P w base spare held n f2.type [v2] = some y2 ∧ DataW.trod enc P w base spare held n f3.type [v3] = some y3 := by
  obtain ⟨cs, rfl, hsz⟩ := okWide_struct hs hv
  obtain ⟨l⟩ := cs
  match l, hsz.trans hC with
  | [c0, c1, c2, c3], _ =>
    obtain ⟨fuel, hf⟩ := h
    obtain ⟨xs, n, _, hx, _, hlen, hg⟩ := DataW.trod_struct hs hf
    obtain ⟨o0, k0⟩ := hone_of hone 0 f0 rfl
    obtain ⟨o1, k1⟩ := hone_of hone 1 f1 rfl
    obtain ⟨o2, k2⟩ := hone_of hone 2 f2 rfl
    obtain ⟨o3, k3⟩ := hone_of hone 3 f3 rfl
    match xs, hlen with
    | [y0, y1, y2, y3], _ =>
      exact ⟨c0, c1, c2, c3, y0, y1, y2, y3, n, rfl, by simpa [Value.cells, o0, k0] using hg 0 f0 rfl, by simpa [Value.cells, o1, k1] using hg 1 f1 rfl, by simpa [Value.cells, o2, k2] using hg 2 f2 rfl, by simpa [Value.cells, o3, k3] using hg 3 f3 rfl⟩

theorem g_int {t : TypeId} {k : IntKind} {n : Nat} {v : Value} {y : DataW H × List MemPlace} (ht : P.underlying t = some (.int k)) (h : DataW.trod enc P w base spare held n t [v] = some y) : ∃ x, v = .int k x ∧ (Lit.int k x).wf = true := by
  obtain ⟨x, hc, _, hw⟩ := DataW.trod_int ht h
  simp at hc
  exact ⟨x, hc, hw⟩
theorem g_bool {t : TypeId} {n : Nat} {v : Value} {y : DataW H × List MemPlace} (ht : P.underlying t = some .bool) (h : DataW.trod enc P w base spare held n t [v] = some y) : ∃ x, v = .bool x := by
  obtain ⟨x, hc, _⟩ := DataW.trod_bool ht h
  simp at hc
  exact ⟨x, hc⟩
theorem g_string {t : TypeId} {n : Nat} {v : Value} {y : DataW H × List MemPlace} (ht : P.underlying t = some .string) (h : DataW.trod enc P w base spare held n t [v] = some y) : ∃ x : ByteArray, v = .string x ∧ x.size ≤ maxLen := by
  obtain ⟨x, hc, _, hw⟩ := DataW.trod_string ht h
  simp at hc
  exact ⟨x, hc, hw⟩
theorem g_u64 {t : TypeId} {n : Nat} {v : Value} {y : DataW H × List MemPlace} (ht : P.underlying t = some (.int .u64)) (h : DataW.trod enc P w base spare held n t [v] = some y) : ∃ x : Nat, v = .int .u64 (x : Int) ∧ x < 18446744073709551616 := by
  obtain ⟨x, rfl, hw⟩ := g_int ht h
  have hb := bd_u64 hw
  refine ⟨x.toNat, ?_, by omega⟩
  rw [Int.toNat_of_nonneg hb.1]
end

/-- A list out of its members. -/
theorem list_of {α : Type} {Q : Nat → α → Prop} : ∀ (n : Nat), (∀ i, i < n → ∃ x, Q i x) → ∃ xs : List α, xs.length = n ∧ ∀ (i : Nat) (hi : i < xs.length), Q i xs[i] := by
  intro n
  induction n with
  | zero => intro _; exact ⟨[], rfl, fun i hi => absurd hi (Nat.not_lt_zero _)⟩
  | succ n ih =>
    intro h
    obtain ⟨xs, hl, hq⟩ := ih (fun i hi => h i (by omega))
    obtain ⟨x, hx⟩ := h n (by omega)
    refine ⟨xs ++ [x], by simp [hl], fun i hi => ?_⟩
    rcases Nat.lt_or_ge i xs.length with g | g
    · rw [List.getElem_append_left g]; exact hq i g
    · rw [List.length_append, List.length_singleton] at hi
      obtain rfl : i = xs.length := by omega
      rw [List.getElem_append_right g]
      simpa [hl] using hx

end Go.Proofs.Ythbafbgnclpbpaa

namespace Go.Proofs.Ythbafbgnclpbpaa
open Go.Joins Go.ChangeShapes Go.WideShapes Go.ChangeAt Go.RowKit Go.Deep

set_option maxRecDepth 100000 in
theorem f_pairs {H : Type} {enc : TypeId × Value → H} {w : World} {base : Nat} {spare : Nat → Bool} {held : Bool} {n0 : Nat} {v : Value} {y : DataW H × List MemPlace}
    (hf : DataW.trod enc Try.prog w base spare held n0 23 [v] = some y) :
    ∃ (A : Option Addr) (c : Nat) (ps : List PairD), v = .slice A ps.length c ∧ Prs w A ps.length ps ∧ (∀ p ∈ ps, p.key.size ≤ maxLen ∧ p.val < 18446744073709551616) ∧ ps.length ≤ c ∧ ps.length ≤ 9223372036854775807 := by
  rcases open_slice_fields Try.underlying23 Try.underlying32 (by kernel_rfl) (by kernel_rfl) hf with ⟨hcs, _⟩ | ⟨a, n, c, m, D, Pl, hcs, _, hl, hm, hmm, _, hat⟩
  · simp at hcs
    subst hcs
    exact ⟨none, 0, [], rfl, ⟨rfl, fun h => absurd h (Nat.lt_irrefl 0)⟩, fun x hx => absurd hx (by simp), Nat.le_refl _, by simp⟩
  · simp at hcs
    subst hcs
    have hle : n ≤ m := by rw [hmm]; split <;> omega
    have hone : ∀ i, i < n → ∃ x : PairD, (x.key.size ≤ maxLen ∧ x.val < 18446744073709551616) ∧ ∀ (k : Nat) (v : Value), (prCells x)[k]? = some v → w.cell? (a.add (i * 2 + k)) = some v := by
      intro i hi
      obtain ⟨ys, q, _, _, _, hf⟩ := hat i (by omega)
      obtain ⟨v0, y0, c0, _, t0⟩ := hf 0 _ rfl
      obtain ⟨v1, y1, c1, _, t1⟩ := hf 1 _ rfl
      obtain ⟨key, rfl, w0⟩ := g_string Try.underlying9 t0
      obtain ⟨val, rfl, w1⟩ := g_u64 Try.underlying22 t1
      refine ⟨⟨key, val⟩, ⟨w0, w1⟩, fun k v hk => ?_⟩
      match k, hk with
      | 0, hk => simp [prCells] at hk; subst hk; exact c0
      | 1, hk => simp [prCells] at hk; subst hk; exact c1
      | k + 2, hk => simp [prCells] at hk
    obtain ⟨xs, hxl, hq⟩ := list_of n hone
    subst hxl
    refine ⟨_, _, xs, rfl, ⟨rfl, fun h0 => ?_⟩, fun x hx => ?_, hl, by unfold maxLen at hm; omega⟩
    · have hc0 := (hq 0 h0).2 0 _ rfl
      obtain ⟨b, off, rfl, hb⟩ := lit_of_cell hc0
      refine ⟨b, off, rfl, hb, fun j hj k v hk => ?_⟩
      have := (hq j hj).2 k v hk
      rwa [Addr.add_lit, ← Nat.add_assoc] at this
    · obtain ⟨i, hi, rfl⟩ := List.getElem_of_mem hx
      exact (hq i hi).1

set_option maxRecDepth 100000 in
theorem open_ans {H : Type} {enc : TypeId × Value → H} {w : World} {base : Nat} {spare : Nat → Bool} {held : Bool} {r : Reach} {b0 : Nat} {v : Value} {d : DataW H} {p : List MemPlace}
    (hv : Value.okWide Try.prog w r b0 25 v) (h : DataW.Trod enc Try.prog w base spare held 25 v d p) :
    ∃ (x : AnsD) (A : Option Addr) (c : Nat), v = .agg (ansCells x A c) ∧ Prs w A x.pairs.length x.pairs ∧ AnsOk x := by
  obtain ⟨v0, v1, v2, v3, y0, y1, y2, y3, n, rfl, t0, t1, t2, t3⟩ := open_agg4 Try.underlying25 (by kernel_rfl) (by kernel_rfl) hv h
  obtain ⟨code, rfl, w0⟩ := g_int Try.underlying3 t0
  obtain ⟨key, rfl, w1⟩ := g_string Try.underlying9 t1
  obtain ⟨val, rfl, w2⟩ := g_u64 Try.underlying22 t2
  obtain ⟨A, c, ps, rfl, hp, hpo, _, hpl⟩ := f_pairs t3
  exact ⟨⟨code, key, val, ps⟩, A, c, rfl, hp, ⟨bd_i64 w0, w1, w2, hpo, hpl⟩⟩

end Go.Proofs.Ythbafbgnclpbpaa

namespace Go.Proofs.Ythbafbgnclpbpaa
open Go.Joins Go.ChangeShapes Go.WideShapes Go.ChangeAt Go.RowKit Go.Deep

set_option maxRecDepth 100000 in
theorem open_op {H : Type} {enc : TypeId × Value → H} {w : World} {base : Nat} {spare : Nat → Bool} {held : Bool} {r : Reach} {b0 : Nat} {v : Value} {d : DataW H} {p : List MemPlace}
    (hv : Value.okWide Try.prog w r b0 58 v) (h : DataW.Trod enc Try.prog w base spare held 58 v d p) :
    ∃ x : OpD, v = .agg (opCells x) ∧ OpOk x := by
  obtain ⟨v0, v1, v2, v3, v4, y0, y1, y2, y3, y4, n, rfl, t0, t1, t2, t3, t4⟩ := open_agg5 Try.underlying58 (by kernel_rfl) (by kernel_rfl) hv h
  obtain ⟨kind, rfl, w0⟩ := g_int Try.underlying3 t0
  obtain ⟨key, rfl, w1⟩ := g_string Try.underlying9 t1
  obtain ⟨upto, rfl, w2⟩ := g_string Try.underlying9 t2
  obtain ⟨val, rfl, w3⟩ := g_u64 Try.underlying22 t3
  obtain ⟨limit, rfl, w4⟩ := g_int Try.underlying3 t4
  exact ⟨⟨kind, key, upto, val, limit⟩, rfl, ⟨bd_i64 w0, w1, w2, w3, bd_i64 w4⟩⟩

end Go.Proofs.Ythbafbgnclpbpaa

namespace Go.Proofs.Ythbafbgnclpbpaa
open Go.Joins Go.ChangeShapes Go.WideShapes Go.ChangeAt Go.RowKit Go.Deep

section
variable {H : Type} {enc : TypeId × Value → H} {w : World} {base : Nat} {spare : Nat → Bool} {held : Bool}
theorem cells_int : Try.prog.cellsOf 3 = 1 := by kernel_rfl
theorem cells_str : Try.prog.cellsOf 9 = 1 := by kernel_rfl
theorem cells_u64 : Try.prog.cellsOf 22 = 1 := by kernel_rfl
theorem cells_bool : Try.prog.cellsOf 4 = 1 := by kernel_rfl
theorem cells_pairs : Try.prog.cellsOf 23 = 1 := by kernel_rfl
theorem cells_op : Try.prog.cellsOf 58 = 5 := by kernel_rfl
theorem cells_ans : Try.prog.cellsOf 25 = 4 := by kernel_rfl
theorem cells_call : Try.prog.cellsOf 71 = 15 := by kernel_rfl

set_option maxRecDepth 100000 in
theorem f_op {n0 : Nat} {v1 v2 v3 v4 v5 : Value} {y : DataW H × List MemPlace} (hf : DataW.trod enc Try.prog w base spare held n0 58 [v1, v2, v3, v4, v5] = some y) : ∃ o : OpD, OpOk o ∧ [v1, v2, v3, v4, v5] = (opCells o).toList := by
  obtain ⟨ys, n, _, _, _, hyl, hg⟩ := DataW.trod_struct Try.underlying58 hf
  match ys, hyl with
  | [y0, y1, y2, y3, y4], _ =>
    have t0 : DataW.trod enc Try.prog w base spare held n 3 [v1] = some y0 := by simpa [cells_int] using hg 0 _ rfl
    have t1 : DataW.trod enc Try.prog w base spare held n 9 [v2] = some y1 := by simpa [cells_str] using hg 1 _ rfl
    have t2 : DataW.trod enc Try.prog w base spare held n 9 [v3] = some y2 := by simpa [cells_str] using hg 2 _ rfl
    have t3 : DataW.trod enc Try.prog w base spare held n 22 [v4] = some y3 := by simpa [cells_u64] using hg 3 _ rfl
    have t4 : DataW.trod enc Try.prog w base spare held n 3 [v5] = some y4 := by simpa [cells_int] using hg 4 _ rfl
    obtain ⟨kind, rfl, w0⟩ := g_int Try.underlying3 t0
    obtain ⟨key, rfl, w1⟩ := g_string Try.underlying9 t1
    obtain ⟨upto, rfl, w2⟩ := g_string Try.underlying9 t2
    obtain ⟨val, rfl, w3⟩ := g_u64 Try.underlying22 t3
    obtain ⟨limit, rfl, w4⟩ := g_int Try.underlying3 t4
    exact ⟨⟨kind, key, upto, val, limit⟩, ⟨bd_i64 w0, w1, w2, w3, bd_i64 w4⟩, rfl⟩

set_option maxRecDepth 100000 in
theorem f_ans {n0 : Nat} {v1 v2 v3 v4 : Value} {y : DataW H × List MemPlace} (hf : DataW.trod enc Try.prog w base spare held n0 25 [v1, v2, v3, v4] = some y) :
    ∃ (x : AnsD) (A : Option Addr) (c : Nat), AnsOk x ∧ Prs w A x.pairs.length x.pairs ∧ [v1, v2, v3, v4] = (ansCells x A c).toList := by
  obtain ⟨ys, n, _, _, _, hyl, hg⟩ := DataW.trod_struct Try.underlying25 hf
  match ys, hyl with
  | [y0, y1, y2, y3], _ =>
    have t0 : DataW.trod enc Try.prog w base spare held n 3 [v1] = some y0 := by simpa [cells_int] using hg 0 _ rfl
    have t1 : DataW.trod enc Try.prog w base spare held n 9 [v2] = some y1 := by simpa [cells_str] using hg 1 _ rfl
    have t2 : DataW.trod enc Try.prog w base spare held n 22 [v3] = some y2 := by simpa [cells_u64] using hg 2 _ rfl
    have t3 : DataW.trod enc Try.prog w base spare held n 23 [v4] = some y3 := by simpa [cells_pairs] using hg 3 _ rfl
    obtain ⟨code, rfl, w0⟩ := g_int Try.underlying3 t0
    obtain ⟨key, rfl, w1⟩ := g_string Try.underlying9 t1
    obtain ⟨val, rfl, w2⟩ := g_u64 Try.underlying22 t2
    obtain ⟨A, c, ps, rfl, hp, hpo, _, hpl⟩ := f_pairs t3
    exact ⟨⟨code, key, val, ps⟩, A, c, ⟨bd_i64 w0, w1, w2, hpo, hpl⟩, hp, rfl⟩

set_option maxRecDepth 100000 in
theorem f_call {n0 : Nat} {cs : List Value} {y : DataW H × List MemPlace} (hl : cs.length = 15) (hf : DataW.trod enc Try.prog w base spare held n0 71 cs = some y) :
    ∃ x : CallD, CallOk x ∧ Prs w x.pa x.ans.pairs.length x.ans.pairs ∧ cs = (callCells x).toList := by
  match cs, hl with
  | [v0, v1, v2, v3, v4, v5, v6, v7, v8, v9, v10, v11, v12, v13, v14], _ =>
    obtain ⟨ys, n, _, _, _, hyl, hg⟩ := DataW.trod_struct Try.underlying71 hf
    match ys, hyl with
    | [y0, y1, y2, y3, y4, y5, y6, y7], _ =>
      have t0 : DataW.trod enc Try.prog w base spare held n 3 [v0] = some y0 := by simpa [cells_int] using hg 0 _ rfl
      have t1 : DataW.trod enc Try.prog w base spare held n 58 [v1, v2, v3, v4, v5] = some y1 := by simpa [cells_op] using hg 1 _ rfl
      have t2 : DataW.trod enc Try.prog w base spare held n 3 [v6] = some y2 := by simpa [cells_int] using hg 2 _ rfl
      have t3 : DataW.trod enc Try.prog w base spare held n 3 [v7] = some y3 := by simpa [cells_int] using hg 3 _ rfl
      have t4 : DataW.trod enc Try.prog w base spare held n 3 [v8] = some y4 := by simpa [cells_int] using hg 4 _ rfl
      have t5 : DataW.trod enc Try.prog w base spare held n 3 [v9] = some y5 := by simpa [cells_int] using hg 5 _ rfl
      have t6 : DataW.trod enc Try.prog w base spare held n 4 [v10] = some y6 := by simpa [cells_bool] using hg 6 _ rfl
      have t7 : DataW.trod enc Try.prog w base spare held n 25 [v11, v12, v13, v14] = some y7 := by simpa [cells_ans] using hg 7 _ rfl
      obtain ⟨thread, rfl, w0⟩ := g_int Try.underlying3 t0
      obtain ⟨o, wo, eo⟩ := f_op t1
      obtain ⟨since, rfl, w2⟩ := g_int Try.underlying3 t2
      obtain ⟨done, rfl, w3⟩ := g_int Try.underlying3 t3
      obtain ⟨upto, rfl, w4⟩ := g_int Try.underlying3 t4
      obtain ⟨steps, rfl, w5⟩ := g_int Try.underlying3 t5
      obtain ⟨short, rfl⟩ := g_bool Try.underlying4 t6
      obtain ⟨a, A, c, wa, hp, ea⟩ := f_ans t7
      refine ⟨⟨thread, o, since, done, upto, steps, short, a, A, c⟩, ⟨bd_i64 w0, wo, bd_i64 w2, bd_i64 w3, bd_i64 w4, bd_i64 w5, wa⟩, hp, ?_⟩
      simp only [opCells, ansCells, List.cons.injEq] at eo ea
      obtain ⟨rfl, rfl, rfl, rfl, rfl, _⟩ := eo
      obtain ⟨rfl, rfl, rfl, rfl, _⟩ := ea
      rfl
end

set_option maxRecDepth 100000 in
theorem open_calls {H : Type} {enc : TypeId × Value → H} {w : World} {base : Nat} {spare : Nat → Bool} {held : Bool} {r : Reach} {b0 : Nat} {v : Value} {d : DataW H} {p : List MemPlace}
    (hv : Value.okWide Try.prog w r b0 67 v) (h : DataW.Trod enc Try.prog w base spare held 67 v d p) :
    ∃ (A : Option Addr) (c : Nat) (xs : List CallD), v = .slice A xs.length c ∧ Cls w A xs.length xs ∧ (∀ x ∈ xs, CallOk x) ∧ xs.length ≤ c ∧ xs.length ≤ 9223372036854775807 := by
  obtain ⟨A, n, c, rfl⟩ := okWide_slice Try.underlying67 hv
  obtain ⟨fuel, hf⟩ := h
  rcases open_slice Try.underlying67 hf with ⟨hcs, _⟩ | ⟨a, l, c', m, k, D, Pl, hcs, _, hl, hm, hmm, _, hat⟩
  · simp [Value.cells] at hcs
    obtain ⟨rfl, rfl, rfl⟩ := hcs
    exact ⟨_, _, [], rfl, ⟨rfl, fun x hx => absurd hx (by simp), fun h => absurd h (Nat.lt_irrefl 0)⟩, fun x hx => absurd hx (by simp), Nat.le_refl _, by simp⟩
  · simp [Value.cells] at hcs
    obtain ⟨rfl, rfl, rfl⟩ := hcs
    have hle : n ≤ m := by rw [hmm]; split <;> omega
    have hone : ∀ i, i < n → ∃ x : CallD, (CallOk x ∧ Prs w x.pa x.ans.pairs.length x.ans.pairs) ∧ ∀ (k : Nat) (v : Value), (callCells x)[k]? = some v → w.cell? (a.add (i * 15 + k)) = some v := by
      intro i hi
      obtain ⟨cs', hc, ht⟩ := hat i (by omega)
      rw [cells_call] at hc
      obtain ⟨_, hcl, hcells⟩ := World.cells?_some hc
      obtain ⟨x, hx, hp, e⟩ := f_call hcl ht
      refine ⟨x, ⟨hx, hp⟩, fun k v hk => ?_⟩
      have hk15 : k < 15 := (Array.getElem?_eq_some_iff.1 hk).1
      have h2 := hcells k hk15
      rw [Go.Deep.add_add] at h2
      rw [h2, e]
      simpa using hk
    obtain ⟨xs, hxl, hq⟩ := list_of n hone
    subst hxl
    refine ⟨_, _, xs, rfl, ⟨rfl, fun x hx => ?_, fun h0 => ?_⟩, fun x hx => ?_, hl, by unfold maxLen at hm; omega⟩
    · obtain ⟨i, hi, rfl⟩ := List.getElem_of_mem hx
      exact (hq i hi).1.2
    · have hc0 := (hq 0 h0).2 0 _ rfl
      obtain ⟨b, off, rfl, hb⟩ := lit_of_cell hc0
      refine ⟨b, off, rfl, hb, fun j hj k v hk => ?_⟩
      have := (hq j hj).2 k v hk
      rwa [Addr.add_lit, ← Nat.add_assoc] at this
    · obtain ⟨i, hi, rfl⟩ := List.getElem_of_mem hx
      exact (hq i hi).1.1

end Go.Proofs.Ythbafbgnclpbpaa
