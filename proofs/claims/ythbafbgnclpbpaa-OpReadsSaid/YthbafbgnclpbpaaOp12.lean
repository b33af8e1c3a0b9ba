/- Contracts of package op: what is read. -/
import Derived.Test.YthbafbgnclpbpaaOpTells
namespace Go.Proofs.Ythbafbgnclpbpaa
open Go.RowKit

theorem wrongL_sub (l : List Nat) (f : Int) : ∃ k, wrongL l f = l.drop k := by
  unfold wrongL
  split
  · exact ⟨l.length, by simp⟩
  · exact ⟨0, rfl⟩
theorem sub_trans {l m n : List Nat} (h : ∃ k, m = l.drop k) (h2 : ∃ k, n = m.drop k) : ∃ k, n = l.drop k := by
  obtain ⟨k, rfl⟩ := h
  obtain ⟨j, rfl⟩ := h2
  exact ⟨k + j, by rw [List.drop_drop]⟩
theorem eyeTxt_sub (top : Int) (l : List Nat) (f : Int) : ∃ k, (eyeTxt top l f).2.1 = l.drop k := by
  unfold eyeTxt
  split
  · exact wrongL_sub l f
  · split
    · exact sub_trans (eyeUp_sub top.toNat l f) (wrongL_sub _ _)
    · exact sub_trans (eyeUp_sub top.toNat l f) ⟨_, rfl⟩
theorem eyeTxt_size (top : Int) (l : List Nat) (f : Int) : (eyeTxt top l f).1.size ≤ l.length := by
  unfold eyeTxt
  split
  · exact Nat.zero_le _
  · split
    · exact Nat.zero_le _
    · have h := drop_le (eyeUp_sub top.toNat l f)
      show (bstr _).size ≤ _
      rw [show ∀ m : List Nat, (bstr m).size = m.length from fun m => by simp [bstr, ByteArray.size], List.length_take]
      omega
theorem eyeUp_le (top : Nat) (l : List Nat) (f : Int) : (eyeUp top l f).1 ≤ top := by
  unfold eyeUp
  split
  · split
    · exact Nat.zero_le _
    · simp only []; omega
  · exact Nat.zero_le _

/-- What is read of the parts of an operation. -/
def rdNum (top : Nat) (u : Bool) (l : List Nat) (f : Int) : Nat × List Nat × Int := if u = true then eyeUp top l f else (0, l, f)
def rdTxt (u : Bool) (l : List Nat) (f : Int) : ByteArray × List Nat × Int := if u = true then eyeTxt 64 l f else (⟨#[]⟩, l, f)
def raw4 (tu : Bool) (k : Nat) (a b : ByteArray) (c : Nat) (l : List Nat) (f : Int) : OpD × List Nat × Int :=
  (⟨k, a, b, c, (rdNum 4096 tu l f).1⟩, (rdNum 4096 tu l f).2)
def raw3 (tu vu : Bool) (k : Nat) (a b : ByteArray) (l : List Nat) (f : Int) : OpD × List Nat × Int :=
  raw4 tu k a b (rdNum 18446744073709551615 vu l f).1 (rdNum 18446744073709551615 vu l f).2.1 (rdNum 18446744073709551615 vu l f).2.2
def raw2 (tu vu : Bool) (k : Nat) (a : ByteArray) (l : List Nat) (f : Int) : OpD × List Nat × Int :=
  raw3 tu vu k a (rdTxt tu l f).1 (rdTxt tu l f).2.1 (rdTxt tu l f).2.2
def raw1 (ku tu vu : Bool) (k : Nat) (l : List Nat) (f : Int) : OpD × List Nat × Int :=
  raw2 tu vu k (rdTxt ku l f).1 (rdTxt ku l f).2.1 (rdTxt ku l f).2.2
def raw0 (r : Nat × List Nat × Int) : OpD × List Nat × Int := raw1 (usesKey r.1) (usesTo r.1) (usesVal r.1) r.1 r.2.1 r.2.2
def opZero : OpD := ⟨0, ⟨#[]⟩, ⟨#[]⟩, 0, 0⟩
def opFin (r : OpD × List Nat × Int) : Bool × OpD × List Nat × Int :=
  if r.2.2 = 0 then (if opB r.1 = true then (true, r.1, r.2.1, 0) else (false, opZero, [], 10)) else (false, opZero, r.2.1, r.2.2)
/-- What is read as an operation: whether it is one, it, what is left, the fault. -/
def opRd (l : List Nat) (f : Int) : Bool × OpD × List Nat × Int := opFin (raw0 (eyeUp 10 l f))

theorem uses_kinds (k : Int) : (usesKey k = false ∧ usesTo k = false ∧ usesVal k = false) ∨ (usesKey k = true ∧ usesTo k = false ∧ usesVal k = false) ∨ (usesKey k = true ∧ usesTo k = false ∧ usesVal k = true) ∨ (usesKey k = true ∧ usesTo k = true ∧ usesVal k = false) := by
  unfold usesKey usesTo usesVal
  simp only [decide_eq_true_iff, decide_eq_false_iff_not]
  omega

/-- An eye that reads an operation: the eye, the result's variable, the operation's, what it uses. -/
structure Rs (w X : World) (ep : Nat) (sb : Option Nat) (l : List Nat) (f : Int) (g4 g5 : Nat) (o : OpD) (a b c : Bool) : Prop where
  eye : EyeAt X ep sb l f
  off : Off (fun k => k = ep) w X
  res : X.heap[w.heap.size]? = some (.cells opZ 58 (0, 0))
  box : X.heap[g4]? = some (.cells (opCells o) 58 (0, 0))
  used : X.heap[g5]? = some (.cells #[.bool a, .bool b, .bool c, .bool b] 110 (0, 0))
  n4 : w.heap.size < g4
  n5 : g4 < g5
  epw : ep < w.heap.size
  sbw : ∀ b, sb = some b → b < w.heap.size
  bytes : ∀ x ∈ l, x < 256
  len : l.length ≤ 1000000
  ok : OpOk o

theorem cells_set {w : World} {g i : Nat} {xs ys : Array Value} {T : TypeId} {v : Value} (h : w.heap[g]? = some (.cells xs T (0, 0))) (e : ys = xs.setIfInBounds i v) : (w.setCell ⟨g, i, none⟩ v).heap[g]? = some (.cells ys T (0, 0)) := by
  rw [e]
  simp [World.setCell, Array.getElem?_modify, h]
theorem cells_away {w : World} {g g' i : Nat} {v : Value} (h : g ≠ g') : (w.setCell ⟨g', i, none⟩ v).heap[g]? = w.heap[g]? := Below.heap_setCell w ⟨g', i, none⟩ v g (fun e => h e)

theorem Rs.step {w X X1 : World} {ep : Nat} {sb : Option Nat} {l l1 : List Nat} {f f1 : Int} {g4 g5 : Nat} {o o' : OpD} {a b c : Bool} (h : Rs w X ep sb l f g4 g5 o a b c)
    (hE : EyeAt X1 ep sb l1 f1) (hO : Off (fun k => k = ep) X X1) (hsub : ∃ k, l1 = l.drop k) (i : Nat) (v : Value) (ho : opCells o' = (opCells o).setIfInBounds i v) (hok : OpOk o') :
    Rs w (X1.setCell ⟨g4, i, none⟩ v) ep sb l1 f1 g4 g5 o' a b c := by
  have h4 : g4 < X.heap.size := (Array.getElem?_eq_some_iff.1 h.box).1
  have h5 : g5 < X.heap.size := (Array.getElem?_eq_some_iff.1 h.used).1
  have hn4 := h.n4
  have hn5 := h.n5
  have hep := h.epw
  have hs := Off.of_setCell X1 ⟨g4, i, none⟩ v
  refine ⟨hE.off hs (fun e => by simp only [] at e; omega) (fun b hb e => by have := h.sbw b hb; simp only [] at e; omega), (h.off.trans hO (fun _ _ e => e)).trans hs (fun j hj e => by simp only [] at e; omega), ?_, ?_, ?_, hn4, hn5, hep, h.sbw, drop_lt h.bytes hsub, Nat.le_trans (drop_le hsub) h.len, hok⟩
  · rw [cells_away (by omega)]
    exact (hO.block _ (by omega) (by omega)).trans h.res
  · exact cells_set ((hO.block _ h4 (by omega)).trans h.box) ho
  · rw [cells_away (by omega)]
    exact (hO.block _ h5 (by omega)).trans h.used

theorem uses_facts {w : World} {g : Nat} {a b c : Bool} (h : w.heap[g]? = some (.cells #[.bool a, .bool b, .bool c, .bool b] 110 (0, 0))) :
    w.cell? ⟨g, 0, none⟩ = some (.bool a) ∧ w.cell? ⟨g, 1, none⟩ = some (.bool b) ∧ w.cell? ⟨g, 2, none⟩ = some (.bool c) ∧ w.cell? ⟨g, 3, none⟩ = some (.bool b) := by
  simp [World.cell?, h]

/-- The result is laid into its variable. -/
theorem Rs.fin {w X W : World} {ep : Nat} {sb : Option Nat} {l l1 : List Nat} {f f1 : Int} {g4 g5 : Nat} {o : OpD} {a b c : Bool} (h : Rs w X ep sb l f g4 g5 o a b c) (hO : Off (fun k => k = ep) X W) (hE : EyeAt W ep sb l1 f1) (v0 v1 v2 v3 v4 : Value) :
    EyeAt (((((W.setCell ⟨w.heap.size, 0, none⟩ v0).setCell ⟨w.heap.size, 1, none⟩ v1).setCell ⟨w.heap.size, 2, none⟩ v2).setCell ⟨w.heap.size, 3, none⟩ v3).setCell ⟨w.heap.size, 4, none⟩ v4) ep sb l1 f1 ∧
    Off (fun k => k = ep) w (((((W.setCell ⟨w.heap.size, 0, none⟩ v0).setCell ⟨w.heap.size, 1, none⟩ v1).setCell ⟨w.heap.size, 2, none⟩ v2).setCell ⟨w.heap.size, 3, none⟩ v3).setCell ⟨w.heap.size, 4, none⟩ v4) := by
  have hep := h.epw
  have k := ((((Off.of_setCell W ⟨w.heap.size, 0, none⟩ v0).trans (Off.of_setCell _ ⟨w.heap.size, 1, none⟩ v1) (fun _ _ e => e)).trans (Off.of_setCell _ ⟨w.heap.size, 2, none⟩ v2) (fun _ _ e => e)).trans (Off.of_setCell _ ⟨w.heap.size, 3, none⟩ v3) (fun _ _ e => e)).trans (Off.of_setCell _ ⟨w.heap.size, 4, none⟩ v4) (fun _ _ e => e)
  exact ⟨hE.off k (fun e => by simp only [] at e; omega) (fun b hb e => by have := h.sbw b hb; simp only [] at e; omega), (h.off.trans hO (fun _ _ e => e)).trans k (fun j hj e => by simp only [] at e; omega)⟩

theorem Rs.at_ {w X X1 : World} {ep : Nat} {sb : Option Nat} {l : List Nat} {f : Int} {g4 g5 : Nat} {o : OpD} {a b c : Bool} (h : Rs w X ep sb l f g4 g5 o a b c) (hO : Off (fun k => k = ep) X X1) :
    X1.heap[w.heap.size]? = some (.cells opZ 58 (0, 0)) ∧ X1.heap[g4]? = some (.cells (opCells o) 58 (0, 0)) ∧ X1.heap[g5]? = some (.cells #[.bool a, .bool b, .bool c, .bool b] 110 (0, 0)) := by
  have h4 : g4 < X.heap.size := (Array.getElem?_eq_some_iff.1 h.box).1
  have h5 : g5 < X.heap.size := (Array.getElem?_eq_some_iff.1 h.used).1
  have hn4 := h.n4
  have hn5 := h.n5
  have hep := h.epw
  exact ⟨(hO.block _ (by omega) (by omega)).trans h.res, (hO.block _ h4 (by omega)).trans h.box, (hO.block _ h5 (by omega)).trans h.used⟩
theorem Rs.start {w X1 X3 : World} {ep : Nat} {sb : Option Nat} {l l1 : List Nat} {f1 : Int} {k : Nat} {a b c : Bool} (hn : (w.alloc (.cells opZ 58)).heap[w.heap.size]? = some (.cells opZ 58 (0, 0)))
    (hE : EyeAt X1 ep sb l1 f1) (hO : Off (fun k => k = ep) (w.alloc (.cells opZ 58)) X1) (hb : Below (X1.alloc (.cells (opCells ⟨k, ⟨#[]⟩, ⟨#[]⟩, 0, 0⟩) 58)).heap.size (X1.alloc (.cells (opCells ⟨k, ⟨#[]⟩, ⟨#[]⟩, 0, 0⟩) 58)) X3)
    (hep : ep < w.heap.size) (hsb : ∀ b, sb = some b → b < w.heap.size) (hx : ∀ x ∈ l, x < 256) (hl : l.length ≤ 1000000) (hsub : ∃ k, l1 = l.drop k) (hk : k ≤ 10) :
    Rs w (X3.alloc (.cells #[.bool a, .bool b, .bool c, .bool b] 110)) ep sb l1 f1 X1.heap.size X3.heap.size ⟨k, ⟨#[]⟩, ⟨#[]⟩, 0, 0⟩ a b c := by
  have s0 : (w.alloc (.cells opZ 58)).heap.size = w.heap.size + 1 := by simp
  have s1 : (X1.alloc (.cells (opCells ⟨k, ⟨#[]⟩, ⟨#[]⟩, 0, 0⟩) 58)).heap.size = X1.heap.size + 1 := by simp
  have s2 := hO.size
  have s3 := hb.size
  have b1 := below_alloc X1 (.cells (opCells ⟨k, ⟨#[]⟩, ⟨#[]⟩, 0, 0⟩) 58)
  have b3 := below_alloc X3 (.cells #[.bool a, .bool b, .bool c, .bool b] 110)
  have B := below_of (below_of b1 hb) b3
  refine ⟨hE.below B, ?_, ?_, ?_, heap_alloc_new X3 _, by omega, by omega, hep, hsb, drop_lt hx hsub, Nat.le_trans (drop_le hsub) hl, ⟨by simp only []; omega, Nat.zero_le _, Nat.zero_le _, by simp, by simp⟩⟩
  · exact ((Off.of_below (below_alloc w _) (fun k => k = ep)).trans hO (fun _ _ e => e)).trans (Off.of_below B (fun k => k = ep)) (fun _ _ e => e)
  · exact (B.block _ (by omega)).trans ((hO.block _ (by omega) (by omega)).trans hn)
  · exact (b3.block _ (by omega)).trans ((hb.block _ (by omega)).trans (heap_alloc_new X1 _))

theorem opFin_fault {o : OpD} {l : List Nat} {f : Int} (h : f ≠ 0) : opFin (o, l, f) = (false, opZero, l, f) := if_neg h
theorem opFin_bad {o : OpD} {l : List Nat} (h : opB o = false) : opFin (o, l, 0) = (false, opZero, [], 10) := (if_pos rfl).trans (if_neg (by rw [h]; exact Bool.false_ne_true))
theorem opFin_good {o : OpD} {l : List Nat} (h : opB o = true) : opFin (o, l, 0) = (true, o, l, 0) := (if_pos rfl).trans (if_pos h)

theorem spoil_any (ep : Nat) (sb : Option Nat) (l : List Nat) (f : Int) (w : World) (h : EyeAt w ep sb l f) (hx : ∀ x ∈ l, x < 256) (hl : l.length ≤ 1000000) :
    Calls Try.prog 95 #[.pointer (some ⟨ep, 0, none⟩)] w (EyeTo (.tuple #[]) w ep sb (wrongL l f) (wrongF f 10)) := by
  have Hup := Lib.hid (eyetext_any ep sb l f (-1) w h hx hl (by omega))
  have e : eyeTxt (-1) l f = (ByteArray.empty, wrongL l f, wrongF f 10) := if_pos (by omega)
  rw [e] at Hup
  clear e
  go_enter Try.func95, Try.ntmps95
  go_wp2_with fail
  refine Hup.out.mono ?_
  rintro e w1 ⟨rfl, hE⟩
  have HE := Lib.hid hE
  clear hE
  go_wp2_with fail
  first | go_end0 | refine bodyPost_ret (results_none rfl _ _ _) rfl ?_
  exact ⟨rfl, HE.out⟩

end Go.Proofs.Ythbafbgnclpbpaa
