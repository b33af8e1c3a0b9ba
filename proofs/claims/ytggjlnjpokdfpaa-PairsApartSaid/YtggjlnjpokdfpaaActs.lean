/- What is done with a map: acts, and where they lie; whether they are light. -/
import Derived.Test.YtggjlnjpokdfpaaPNil
namespace Go.Proofs.Ytggjlnjpokdfpaa
open Go.RowKit

structure ActD where
  kind : Int
  key : ByteArray
  val : Int
  high : ByteArray
  limit : Int
def acCells (a : ActD) : Array Value := #[.int .i64 a.kind, .string a.key, .int .u64 a.val, .string a.high, .int .i64 a.limit]
structure ActOk (a : ActD) : Prop where
  key : a.key.size ≤ maxLen
  high : a.high.size ≤ maxLen
/-- A slice of acts. -/
def Acl (w : World) (A : Option Addr) (xs : List ActD) : Prop :=
  0 < xs.length → ∃ b off, A = some ⟨b, off, none⟩ ∧ b < w.heap.size ∧ ∀ (j : Nat) (hj : j < xs.length) (k : Nat) (v : Value), (acCells xs[j])[k]? = some v → w.cell? ⟨b, off + j * 5 + k, none⟩ = some v
theorem Acl.up {w w' : World} {A : Option Addr} {xs : List ActD} (h : Acl w A xs) (hb : Below w.heap.size w w') : Acl w' A xs := fun h0 => by
  obtain ⟨b, off, e, hbl, hc⟩ := h h0
  exact ⟨b, off, e, Nat.lt_of_lt_of_le hbl hb.size, fun j hj k v hv => (hb.cell (p := ⟨b, off + j * 5 + k, none⟩) hbl).trans (hc j hj k v hv)⟩
theorem Acl.at_ {w : World} {A : Option Addr} {xs : List ActD} (h : Acl w A xs) {j : Nat} (hj : j < xs.length) : ∃ b off, A = some ⟨b, off, none⟩ ∧ b < w.heap.size ∧ w.cell? ⟨b, off + j * 5, none⟩ = some (.int .i64 xs[j].kind) ∧ w.cell? ⟨b, off + j * 5 + 1, none⟩ = some (.string xs[j].key) ∧ w.cell? ⟨b, off + j * 5 + 2, none⟩ = some (.int .u64 xs[j].val) ∧
    w.cell? ⟨b, off + j * 5 + 3, none⟩ = some (.string xs[j].high) ∧ w.cell? ⟨b, off + j * 5 + 4, none⟩ = some (.int .i64 xs[j].limit) := by
  obtain ⟨b, off, e, hbl, hc⟩ := h (by omega)
  exact ⟨b, off, e, hbl, hc j hj 0 _ rfl, hc j hj 1 _ rfl, hc j hj 2 _ rfl, hc j hj 3 _ rfl, hc j hj 4 _ rfl⟩
theorem ac_facts {W : World} {g : Nat} {a b c d e : Value} {T : TypeId} (h : W.heap[g]? = some (.cells #[a, b, c, d, e] T (0, 0))) : W.cell? ⟨g, 0, none⟩ = some a ∧ W.cell? ⟨g, 1, none⟩ = some b ∧ W.cell? ⟨g, 2, none⟩ = some c ∧ W.cell? ⟨g, 3, none⟩ = some d ∧ W.cell? ⟨g, 4, none⟩ = some e := by
  simp [World.cell?, h]
def actL (a : ActD) : Bool := decide (a.key.size ≤ 100) && decide (a.high.size ≤ 100)
def lightAc (xs : List ActD) : Bool := xs.all actL && decide (xs.length ≤ 60)
theorem lightAc_spec {xs : List ActD} (h : lightAc xs = true) : xs.length ≤ 60 ∧ ∀ x ∈ xs, x.key.size ≤ 100 ∧ x.high.size ≤ 100 := by
  unfold lightAc actL at h
  rw [Bool.and_eq_true, decide_eq_true_iff, List.all_eq_true] at h
  refine ⟨h.2, fun x hx => ?_⟩
  have := h.1 x hx
  rw [Bool.and_eq_true, decide_eq_true_iff, decide_eq_true_iff] at this
  exact this

set_option maxRecDepth 100000 in
set_option maxHeartbeats 4000000 in
theorem light06_any (A : Option Addr) (c : Nat) (xs : List ActD) (w : World) (h : Acl w A xs) (hx : ∀ x ∈ xs, ActOk x) (hl : xs.length ≤ 9223372036854775807) :
    Calls Try.prog 48 #[.slice A xs.length c] w (Ret (.bool (lightAc xs)) w) := by
  have HH := Lib.hid h
  have HX := Lib.hid hx
  clear h hx
  go_enter Try.func48, Try.ntmps48
  go_wp2_with fail
  go_loopw [4, 7] (fun _ i wr => ∃ j : Nat, i = .int .i64 j ∧ Hid (j ≤ xs.length ∧ (∀ (q : Nat) (hq : q < xs.length), q < j → actL xs[q] = true) ∧ Below w.heap.size w wr)) (fun _ i _ => xs.length - (intOf i).toNat)
  case atStart => exact ⟨0, rfl, Nat.zero_le _, fun q _ hq => absurd hq (Nat.not_lt_zero _), Below.refl _ _⟩
  case round =>
    obtain ⟨j, rfl, H⟩ := hrel
    by_cases hlt : j < xs.length
    · obtain ⟨b, off, hA, hbw, x0, x1, x2, x3, x4⟩ := (HH.out.up H.out.2.2).at_ hlt
      subst hA
      have hok := HX.out _ (List.getElem_mem hlt)
      have HNX := Lib.hid (fun (g : actL xs[j] = true) (q : Nat) (hq : q < xs.length) (hqj : q < j + 1) => show actL xs[q] = true from by
        rcases Nat.lt_succ_iff_lt_or_eq.1 hqj with g2 | rfl
        · exact H.out.2.1 q hq g2
        · exact g)
      have HNO := Lib.hid (fun (g : actL xs[j] = false) => show false = lightAc xs from by
        unfold lightAc
        cases hall : xs.all actL
        · rfl
        · rw [List.all_eq_true] at hall
          rw [hall _ (List.getElem_mem hlt)] at g
          cases g)
      have HB0 := Lib.hid H.out.2.2
      clear H hbw
      generalize xs[j] = x at x0 x1 x2 x3 x4 hok HNX HNO
      have hk1 : x.key.size ≤ 9223372036854775807 := hok.key
      have hk2 : x.high.size ≤ 9223372036854775807 := hok.high
      have hba := below_alloc wr (.cells (acCells x) 70)
      have hn := heap_new wr (acCells x) 70
      have HB4 := Lib.hid (below_of HB0.out hba)
      simp only [acCells] at hn HB4
      clear hba HB0 hok
      have hal : actL x = (decide (x.key.size ≤ 100) && decide (x.high.size ≤ 100)) := rfl
      go_upto_region 4 with fail
      clear x0 x1 x2 x3 x4
      generalize wr.alloc _ = V at hn HB4 ⊢
      generalize wr.heap.size = g at hn ⊢
      obtain ⟨x0, x1, x2, x3, x4⟩ := ac_facts hn
      by_cases h1 : 100 < x.key.size
      · have h1b : decide ((100 : Int) < (x.key.size : Int)) = true := decide_eq_true (by omega)
        have HF := Lib.hid (HNO.out (by rw [hal, decide_eq_false (show ¬ x.key.size ≤ 100 by omega)]; rfl))
        clear h1 hal HNX HNO
        go_wp2_with fail
        go_ret
        exact ⟨ret_bool HF.out, HB4.out⟩
      · have h1b : decide ((100 : Int) < (x.key.size : Int)) = false := decide_eq_false (by omega)
        by_cases h2 : 100 < x.high.size
        · have h2b : decide ((100 : Int) < (x.high.size : Int)) = true := decide_eq_true (by omega)
          have HF := Lib.hid (HNO.out (by rw [hal, decide_eq_false (show ¬ x.high.size ≤ 100 by omega)]; simp))
          clear h1 h2 hal HNX HNO
          go_wp2_with fail
          go_ret
          exact ⟨ret_bool HF.out, HB4.out⟩
        · have h2b : decide ((100 : Int) < (x.high.size : Int)) = false := decide_eq_false (by omega)
          have HF := Lib.hid (HNX.out (by rw [hal, decide_eq_true (show x.key.size ≤ 100 by omega), decide_eq_true (show x.high.size ≤ 100 by omega)]; rfl))
          clear h1 h2 hal HNX HNO
          go_wp2_with fail
          go_roundw
          case rel => exact ⟨j + 1, by go_num, by omega, HF.out, HB4.out⟩
          case measure => simp [intOf]; omega
    · have hall : xs.all actL = true := by
        rw [List.all_eq_true]
        intro x hxm
        obtain ⟨q, hq, rfl⟩ := List.getElem_of_mem hxm
        exact H.out.2.1 q hq (by omega)
      have HF := Lib.hid (show decide ((xs.length : Int) ≤ 60) = lightAc xs from by
        unfold lightAc
        rw [hall, Bool.true_and, Bool.eq_iff_iff, decide_eq_true_iff, decide_eq_true_iff]
        omega)
      clear hall
      go_wp2_with fail
      go_ret
      exact ⟨ret_bool HF.out, H.out.2.2⟩

end Go.Proofs.Ytggjlnjpokdfpaa
