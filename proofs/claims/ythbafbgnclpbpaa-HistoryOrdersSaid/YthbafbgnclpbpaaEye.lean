/- Contracts of package sip: the eye. -/
import Derived.Test.YthbafbgnclpbpaaPen4
import Derived.Test.YthbafbgnclpbpaaPlScan
namespace Go.Proofs.Ythbafbgnclpbpaa
open Go.RowKit

/-- An eye: its variable is block ep, the bytes that are left lie in block sb. -/
def EyeAt (w : World) (ep : Nat) (sb : Option Nat) (l : List Nat) (f : Int) : Prop :=
  sb ≠ some ep ∧ ∃ A c, w.heap[ep]? = some (.cells #[.slice A l.length c, .int .i64 f] 55 (0, 0)) ∧ l.length ≤ c ∧
    (0 < l.length → ∃ b off, A = some ⟨b, off, none⟩ ∧ sb = some b ∧ b < w.heap.size ∧ ∀ (j : Nat) (u : Value), (u8s l)[j]? = some u → w.cell? ⟨b, off + j, none⟩ = some u)
theorem EyeAt.lt {w : World} {ep : Nat} {sb : Option Nat} {l : List Nat} {f : Int} (h : EyeAt w ep sb l f) : ep < w.heap.size := by
  obtain ⟨_, A, c, hb, _⟩ := h
  exact (Array.getElem?_eq_some_iff.1 hb).1
theorem EyeAt.off {S : Nat → Prop} {w w' : World} {ep : Nat} {sb : Option Nat} {l : List Nat} {f : Int} (h : EyeAt w ep sb l f) (hb : Off S w w') (h1 : ¬ S ep) (h2 : ∀ b, sb = some b → ¬ S b) : EyeAt w' ep sb l f := by
  have hlt := h.lt
  obtain ⟨hne, A, c, hbp, hc, hr⟩ := h
  refine ⟨hne, A, c, (hb.block ep hlt h1).trans hbp, hc, fun h0 => ?_⟩
  obtain ⟨b, off, e, hs, hbl, hcell⟩ := hr h0
  exact ⟨b, off, e, hs, Nat.lt_of_lt_of_le hbl hb.size, fun j u hu => (hb.cell (p := ⟨b, off + j, none⟩) hbl (h2 b hs)).trans (hcell j u hu)⟩
theorem EyeAt.below {w w' : World} {ep : Nat} {sb : Option Nat} {l : List Nat} {f : Int} (h : EyeAt w ep sb l f) (hb : Below w.heap.size w w') : EyeAt w' ep sb l f := h.off (Off.of_below hb (fun _ => False)) (fun q => q) (fun _ _ q => q)

/-- What a call of the eye leaves. -/
def EyeTo (v : Value) (w : World) (ep : Nat) (sb : Option Nat) (l : List Nat) (f : Int) (e : Ending) (w' : World) : Prop :=
  e = .returned v ∧ EyeAt w' ep sb l f ∧ Off (fun k => k = ep) w w'
theorem EyeTo.to {v v' : Value} {w : World} {ep : Nat} {sb : Option Nat} {l l' : List Nat} {f f' : Int} {P : Program} {g : FuncId} {a : Array Value} (h : Calls P g a w (EyeTo v w ep sb l f)) (hv : v = v') (hl : l = l') (hf : f = f') : Calls P g a w (EyeTo v' w ep sb l' f') := by
  subst hv; subst hl; subst hf; exact h

/-- The store of a slice into an eye. -/
theorem eye_set {w : World} {ep : Nat} {A : Option Addr} {n c : Nat} {f : Int} (hb : w.heap[ep]? = some (.cells #[.slice A n c, .int .i64 f] 55 (0, 0))) :
    w.cell? ⟨ep, 0, none⟩ = some (.slice A n c) ∧ w.cell? ⟨ep, 1, none⟩ = some (.int .i64 f) ∧ w.frozen? ⟨ep, 0, none⟩ = false ∧ w.frozen? ⟨ep, 1, none⟩ = false := by
  refine ⟨by simp [World.cell?, hb], by simp [World.cell?, hb], by simp [World.frozen?, hb], by simp [World.frozen?, hb]⟩

/-- The eye's bytes and its fault behind 'wrong'. -/
def wrongL (l : List Nat) (f : Int) : List Nat := if f = 0 then [] else l
def wrongF (f g : Int) : Int := if f = 0 then g else f

theorem eye_nil {w : World} {ep : Nat} {A : Option Addr} {n c : Nat} {f : Int} {sb : Option Nat} (hne : sb ≠ some ep) (hb : w.heap[ep]? = some (.cells #[.slice A n c, .int .i64 f] 55 (0, 0))) (g : Int) :
    EyeAt ((w.setCell ⟨ep, 1, none⟩ (.int .i64 g)).setCell ⟨ep, 0, none⟩ (.slice none 0 0)) ep sb [] g ∧ Off (fun k => k = ep) w ((w.setCell ⟨ep, 1, none⟩ (.int .i64 g)).setCell ⟨ep, 0, none⟩ (.slice none 0 0)) := by
  refine ⟨⟨hne, none, 0, ?_, Nat.le_refl _, fun h => absurd h (Nat.lt_irrefl 0)⟩, (Off.of_setCell w ⟨ep, 1, none⟩ _).trans (Off.of_setCell _ ⟨ep, 0, none⟩ _) (fun _ _ h => h)⟩
  simp [World.setCell, Array.getElem?_modify, hb]

theorem eyewrong_any (ep : Nat) (sb : Option Nat) (l : List Nat) (f g : Int) (w : World) (h : EyeAt w ep sb l f) :
    Calls Try.prog 81 #[.pointer (some ⟨ep, 0, none⟩), .int .i64 g] w (EyeTo (.tuple #[]) w ep sb (wrongL l f) (wrongF f g)) := by
  obtain ⟨hne, A, c, hb, hc, hr⟩ := id h
  obtain ⟨c0, c1, z0, z1⟩ := eye_set hb
  by_cases hf : f = 0
  · subst hf
    have Hn := Lib.hid (eye_nil hne hb g)
    have c0' : (w.setCell ⟨ep, 1, none⟩ (.int .i64 g)).cell? ⟨ep, 0, none⟩ = some (.slice A l.length c) := by simp [World.cell?, World.setCell, Array.getElem?_modify, hb]
    have z0' : (w.setCell ⟨ep, 1, none⟩ (.int .i64 g)).frozen? ⟨ep, 0, none⟩ = false := by simp [World.frozen?, World.setCell, Array.getElem?_modify, hb]
    clear hb hc hr h hne
    go_enter Try.func81, Try.ntmps81
    go_wp2_with fail
    go_end0
    exact ⟨rfl, Hn.out⟩
  · have Hl := Lib.hid (And.intro h (Off.refl (fun k => k = ep) w))
    have e1 : wrongL l f = l := if_neg hf
    have e2 : wrongF f g = f := if_neg hf
    rw [e1, e2]
    clear hb hc hr h hne e1 e2
    go_enter Try.func81, Try.ntmps81
    go_wp2_with fail
    go_end0
    exact ⟨rfl, Hl.out⟩

/-- What 'digits' reads. -/
def eyeDig (l : List Nat) (f : Int) : Nat × Bool × List Nat × Int :=
  if f = 0 then (match scan 0 0 l with | .got n k => (n, true, l.drop k, 0) | .bad => (0, false, [], 10) | .short => (0, false, [], 11)) else (0, false, l, f)

theorem and_u8 (x : Nat) (h : x < 256) : bits .and .u8 (x : Int) 127 = ((x % 128 : Nat) : Int) := by
  rw [u8_and (x : Int) 127 (by omega) (by omega) (by omega) (by omega)]
  congr 1
  have key : ∀ n : Fin 256, n.val &&& 127 = n.val % 128 := by decide +kernel
  exact key ⟨x, h⟩

theorem or_shl {acc x j : Nat} (ha : acc < 128 ^ j) (hx : x < 128) (hj : j ≤ 9) (h9 : j = 9 → x ≤ 1) : bits .or .u64 (acc : Int) (IntKind.u64.wrap ((x : Int) * 2 ^ (7 * j))) = ((acc + x * 128 ^ j : Nat) : Int) := by
  have e128 : (128 : Nat) ^ j = 2 ^ (7 * j) := by rw [Nat.pow_mul]
  have hxb : x * 128 ^ j < 18446744073709551616 := by
    rcases Nat.lt_or_ge j 9 with g | g
    · have : (128 : Nat) ^ j ≤ 128 ^ 8 := Nat.pow_le_pow_right (by omega) (by omega)
      calc x * 128 ^ j ≤ 127 * 128 ^ 8 := Nat.mul_le_mul (by omega) this
        _ < 18446744073709551616 := by decide
    · have : j = 9 := by omega
      subst this
      have := h9 rfl
      have : x = 0 ∨ x = 1 := by omega
      rcases this with rfl | rfl <;> decide
  have ea : IntKind.u64.wrap ((x : Int) * 2 ^ (7 * j)) = ((x * 128 ^ j : Nat) : Int) := by
    rw [IntKind.wrap_u64, e128]
    have : (x : Int) * 2 ^ (7 * j) = ((x * 2 ^ (7 * j) : Nat) : Int) := by simp
    rw [this]
    rw [e128] at hxb
    omega
  have hj9 : (128 : Nat) ^ j ≤ 128 ^ 9 := Nat.pow_le_pow_right (by omega) hj
  rw [ea, u64_or_nat acc (x * 128 ^ j) (by omega) hxb]
  congr 1
  rw [e128] at ha ⊢
  rw [Nat.mul_comm x, Nat.or_comm, ← Nat.two_pow_add_eq_or_of_lt ha, Nat.add_comm]

end Go.Proofs.Ythbafbgnclpbpaa
