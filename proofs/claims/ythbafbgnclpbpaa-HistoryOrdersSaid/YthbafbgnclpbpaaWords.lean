/- My words for memory that is read: a slice value that reads as a list of cells; steps of a world. No program. -/
import Derived.WalkKit
import Derived.WalkSpells
import Derived.WalkLawsBesides
import Derived.Lib.Hide
import Derived.Deep.QuietTactic
import Derived.Deep.RegionHeld3
import Derived.BigQuiet
import Derived.Laws.CopyOwn
import Derived.Deep.AppendLies
import Derived.Deep.DeepCutAuto
import Derived.StillTailTactics
namespace Go.Proofs.Ythbafbgnclpbpaa
open Go.RowKit

/-- A call hands this value back, and nothing that was there has turned. -/
def Ret (v : Value) (w : World) (e : Ending) (w' : World) : Prop := e = .returned v ∧ Below w.heap.size w w'

theorem below_drewN {B : Nat} {a w : World} (h : Below B a w) (n : Nat) : Below B a (w.drewN n) := ⟨h.os, h.tape, h.output, h.size, h.block⟩
theorem below_alloc (w : World) (o : Obj) : Below w.heap.size w (w.alloc o) := (Below.refl _ _).alloc (Nat.le_refl _) o
theorem below_of {a w w1 : World} (h : Below a.heap.size a w) (k : Below w.heap.size w w1) : Below a.heap.size a w1 := h.trans (k.mono h.size)
theorem size_new {w w1 : World} {o : Obj} (hb : Below (w.alloc o).heap.size (w.alloc o) w1) : w.heap.size < w1.heap.size := by have := hb.size; rw [World.size_alloc] at this; omega
theorem new_cell (w : World) (c : Array Value) (t : TypeId) (i : Nat) (v : Value) (h : c[i]? = some v) : (w.alloc (.cells c t)).cell? ⟨w.heap.size, i, none⟩ = some v := by
  rw [World.cell?_alloc_new]; exact h

theorem ret_i64 {a b : Int} (h : a = b) : Ending.returned (.int .i64 a) = .returned (.int .i64 b) := by rw [h]
theorem ret_u64 {a b : Int} (h : a = b) : Ending.returned (.int .u64 a) = .returned (.int .u64 b) := by rw [h]
theorem ret_bool {a b : Bool} (h : a = b) : Ending.returned (.bool a) = .returned (.bool b) := by rw [h]

/-- The slice value '.slice A n c' reads as the cells xs ('size' cells an element), and lies below block B. -/
def Rd (w : World) (B size : Nat) (A : Option Addr) (n : Nat) (xs : List Value) : Prop :=
  xs.length = n * size ∧ (0 < n → ∃ b off, A = some ⟨b, off, none⟩ ∧ b < B ∧ ∀ (j : Nat) (u : Value), xs[j]? = some u → w.cell? ⟨b, off + j, none⟩ = some u)

section
variable {w w' : World} {B B' size n : Nat} {A : Option Addr} {xs : List Value}

theorem Rd.nil (w : World) (B size : Nat) (A : Option Addr) : Rd w B size A 0 [] := ⟨by simp, fun h => absurd h (Nat.lt_irrefl 0)⟩
theorem Rd.keep (h : Rd w B size A n xs) (hB : B ≤ B') (hk : ∀ b off, b < B → w'.cell? ⟨b, off, none⟩ = w.cell? ⟨b, off, none⟩) : Rd w' B' size A n xs := by
  refine ⟨h.1, fun hn => ?_⟩
  obtain ⟨b, off, e, hb, hc⟩ := h.2 hn
  exact ⟨b, off, e, Nat.lt_of_lt_of_le hb hB, fun j u hu => (hk b (off + j) hb).trans (hc j u hu)⟩
theorem Rd.mono (h : Rd w B size A n xs) (hB : B ≤ B') : Rd w B' size A n xs := h.keep hB fun _ _ _ => rfl
theorem Rd.below (h : Rd w B size A n xs) (hb : Below B w w') : Rd w' B size A n xs := h.keep (Nat.le_refl _) fun b off hlt => hb.cell (p := ⟨b, off, none⟩) hlt
/-- Behind a call that turned nothing. -/
theorem Rd.on (h : Rd w B size A n xs) (hB : B ≤ w.heap.size) (hb : Below w.heap.size w w') : Rd w' B size A n xs := h.below (hb.mono hB)
theorem Rd.up (h : Rd w w.heap.size size A n xs) (hb : Below w.heap.size w w') : Rd w' w'.heap.size size A n xs := (h.below hb).mono hb.size
theorem Rd.drewN (h : Rd w B size A n xs) (k : Nat) : Rd (w.drewN k) B size A n xs := h
theorem Rd.cut_ (h : Rd w B size A n xs) {k cap : Nat} (hk : k ≤ n) (hc : n ≤ cap) :
    Rd w B size (if cap = k then A else A.map (·.add (k * size))) (n - k) (xs.drop (k * size)) := by
  refine ⟨by rw [List.length_drop, h.1, Nat.sub_mul], fun hn => ?_⟩
  obtain ⟨b, off, rfl, hb, hcell⟩ := h.2 (by omega)
  rw [if_neg (by omega)]
  refine ⟨b, off + k * size, by simp [Addr.add_lit], hb, fun j u hu => ?_⟩
  rw [Nat.add_assoc]
  exact hcell _ u (by rw [← hu, List.getElem?_drop])
theorem Rd.first (h : Rd w B size A n xs) {k : Nat} (hk : k ≤ n) : Rd w B size A k (xs.take (k * size)) := by
  refine ⟨by rw [List.length_take, h.1]; exact Nat.min_eq_left (Nat.mul_le_mul_right _ hk), fun hn => ?_⟩
  obtain ⟨b, off, e, hb, hcell⟩ := h.2 (by omega)
  refine ⟨b, off, e, hb, fun j u hu => hcell j u ?_⟩
  rw [List.getElem?_take] at hu
  split at hu
  · exact hu
  · cases hu
theorem Rd.of_own {base : Nat} {e : TypeId} {c : Nat} (h : w.ownsRow base e size (.slice A n c) n xs) : Rd w w.heap.size size A n xs := by
  refine ⟨h.1, fun hn => ?_⟩
  obtain ⟨g, cap, hv, _, hlt⟩ := h.form hn
  have hA : A = some ⟨g, 0, none⟩ := by injection hv
  subst hA
  refine ⟨g, 0, rfl, hlt, fun j u hu => ?_⟩
  have := h.cells (g := g) rfl j u hu
  rwa [Addr.add_lit] at this
end

/-- Texts as cells. -/
def strs (ss : List ByteArray) : List Value := ss.map Value.string
def i64s (zs : List Int) : List Value := zs.map (Value.int .i64)
def u64s (zs : List Int) : List Value := zs.map (Value.int .u64)
theorem strs_length (ss : List ByteArray) : (strs ss).length = ss.length := by simp [strs]
theorem i64s_length (zs : List Int) : (i64s zs).length = zs.length := by simp [i64s]
theorem u64s_length (zs : List Int) : (u64s zs).length = zs.length := by simp [u64s]
theorem strs_at (ss : List ByteArray) (k : Nat) (h : k < ss.length) : (strs ss)[k]? = some (.string ss[k]) := by simp [strs, h]
theorem i64s_at (zs : List Int) (k : Nat) (h : k < zs.length) : (i64s zs)[k]? = some (.int .i64 zs[k]) := by simp [i64s, h]
theorem u64s_at (zs : List Int) (k : Nat) (h : k < zs.length) : (u64s zs)[k]? = some (.int .u64 zs[k]) := by simp [u64s, h]

/-- A slice of texts, of numbers. -/
def RdS (w : World) (A : Option Addr) (n : Nat) (ss : List ByteArray) : Prop := Rd w w.heap.size 1 A n (strs ss)
def RdI (w : World) (A : Option Addr) (n : Nat) (zs : List Int) : Prop := Rd w w.heap.size 1 A n (i64s zs)
def RdU (w : World) (A : Option Addr) (n : Nat) (zs : List Int) : Prop := Rd w w.heap.size 1 A n (u64s zs)
section
variable {w w' : World} {n : Nat} {A : Option Addr} {ss : List ByteArray} {zs : List Int}
theorem RdS.len (h : RdS w A n ss) : ss.length = n := by have := h.1; rw [strs_length] at this; omega
theorem RdI.len (h : RdI w A n zs) : zs.length = n := by have := h.1; rw [i64s_length] at this; omega
theorem RdU.len (h : RdU w A n zs) : zs.length = n := by have := h.1; rw [u64s_length] at this; omega
theorem RdS.up (h : RdS w A n ss) (hb : Below w.heap.size w w') : RdS w' A n ss := Rd.up h hb
theorem RdI.up (h : RdI w A n zs) (hb : Below w.heap.size w w') : RdI w' A n zs := Rd.up h hb
theorem RdU.up (h : RdU w A n zs) (hb : Below w.heap.size w w') : RdU w' A n zs := Rd.up h hb
theorem RdS.drewN (h : RdS w A n ss) (k : Nat) : RdS (w.drewN k) A n ss := h
theorem RdI.drewN (h : RdI w A n zs) (k : Nat) : RdI (w.drewN k) A n zs := h
theorem RdU.drewN (h : RdU w A n zs) (k : Nat) : RdU (w.drewN k) A n zs := h
theorem RdS.spot (h : RdS w A n ss) (hn : 0 < n) : ∃ b off, A = some ⟨b, off, none⟩ ∧ b < w.heap.size ∧ ∀ (j : Nat) (hj : j < ss.length), w.cell? ⟨b, off + j, none⟩ = some (.string ss[j]) := by
  obtain ⟨b, off, e, hb, hc⟩ := h.2 hn
  exact ⟨b, off, e, hb, fun j hj => hc j _ (strs_at ss j hj)⟩
theorem RdI.spot (h : RdI w A n zs) (hn : 0 < n) : ∃ b off, A = some ⟨b, off, none⟩ ∧ b < w.heap.size ∧ ∀ (j : Nat) (hj : j < zs.length), w.cell? ⟨b, off + j, none⟩ = some (.int .i64 zs[j]) := by
  obtain ⟨b, off, e, hb, hc⟩ := h.2 hn
  exact ⟨b, off, e, hb, fun j hj => hc j _ (i64s_at zs j hj)⟩
theorem RdU.spot (h : RdU w A n zs) (hn : 0 < n) : ∃ b off, A = some ⟨b, off, none⟩ ∧ b < w.heap.size ∧ ∀ (j : Nat) (hj : j < zs.length), w.cell? ⟨b, off + j, none⟩ = some (.int .u64 zs[j]) := by
  obtain ⟨b, off, e, hb, hc⟩ := h.2 hn
  exact ⟨b, off, e, hb, fun j hj => hc j _ (u64s_at zs j hj)⟩
/-- A row that was just made of texts. -/
theorem RdS.new (w : World) (ss : List ByteArray) (t : TypeId) : RdS (w.alloc (.cells (strs ss).toArray t)) (some ⟨w.heap.size, 0, none⟩) ss.length ss := by
  refine ⟨by rw [strs_length]; omega, fun _ => ⟨_, _, rfl, by simp, fun j u hu => ?_⟩⟩
  rw [Nat.zero_add, World.cell?_alloc_new]
  simpa using hu
end

end Go.Proofs.Ythbafbgnclpbpaa
