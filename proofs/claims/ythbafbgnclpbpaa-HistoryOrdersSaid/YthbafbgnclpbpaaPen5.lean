/- A pen that writes what lies in variables. -/
import Derived.Test.YthbafbgnclpbpaaLives01
namespace Go.Proofs.Ythbafbgnclpbpaa
open Go.RowKit

theorem Calls.as_ {P : Program} {f : FuncId} {args : Array Value} {w : World} {v v' : Value} (h : Calls P f args w (Ret v w)) (e : v = v') : Calls P f args w (Ret v' w) := e ▸ h
theorem Told.up_ {w w' : World} {bp : Nat} {r : Option Nat} {g : Nat} {xs : List Value} (h : Told w bp r g xs) (hb : Below w.heap.size w w') : Told w' bp r g xs :=
  ⟨Nat.lt_of_lt_of_le h.1 hb.size, h.2.1, h.2.2.1, fun j u hu => (hb.cell (p := ⟨g, j, none⟩) h.1).trans (h.2.2.2 j u hu)⟩

/-- A pen that writes: the pen, a variable. -/
structure Wr (w : World) (bp : Nat) (r : Option Nat) (X : World) (rX : Option Nat) (lX : List Nat) (g : Nat) (xs : List Value) (N : Nat) : Prop where
  rel : PenRel w bp r X rX lX
  box : Told X bp rX g xs
  len : lX.length ≤ N
theorem Wr.adv {w X X1 wp : World} {bp g N : Nat} {r rX rq : Option Nat} {lX m : List Nat} {xs : List Value} (h : Wr w bp r X rX lX g xs N) (hb : Below X.heap.size X X1) (k : PenRel X1 bp rX wp rq (lX ++ m)) (hm : m.length ≤ 1011) : Wr w bp r wp rq (lX ++ m) g xs (N + 1011) :=
  ⟨h.rel.trans (PenRel.of_below hb k), (h.box.up_ hb).on k, by rw [List.length_append]; have := h.len; omega⟩
theorem one_le (n : Nat) : ([n].flatMap dig).length ≤ 1011 := by have := flat_len [n]; simp at this ⊢; omega
theorem txt_le {s : ByteArray} (h : s.size ≤ 1000) : (dig s.size ++ tb s).length ≤ 1011 := by rw [List.length_append, tb_length]; have := dig_len s.size; omega

end Go.Proofs.Ythbafbgnclpbpaa
