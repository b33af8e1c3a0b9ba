/- Lists of operations: where they lie; Light. -/
import Derived.Test.YthbafbgnclpbpaaOpB
namespace Go.Proofs.Ythbafbgnclpbpaa
open Go.RowKit

/-- A slice of operations. -/
def Opl (w : World) (A : Option Addr) (xs : List OpD) : Prop :=
  0 < xs.length → ∃ b off, A = some ⟨b, off, none⟩ ∧ b < w.heap.size ∧ ∀ (j : Nat) (hj : j < xs.length) (k : Nat) (v : Value), (opCells xs[j])[k]? = some v → w.cell? ⟨b, off + j * 5 + k, none⟩ = some v
theorem Opl.up {w w' : World} {A : Option Addr} {xs : List OpD} (h : Opl w A xs) (hb : Below w.heap.size w w') : Opl w' A xs := fun h0 => by
  obtain ⟨b, off, e, hbl, hc⟩ := h h0
  exact ⟨b, off, e, Nat.lt_of_lt_of_le hbl hb.size, fun j hj k v hv => (hb.cell (p := ⟨b, off + j * 5 + k, none⟩) hbl).trans (hc j hj k v hv)⟩
theorem Opl.at_ {w : World} {A : Option Addr} {xs : List OpD} (h : Opl w A xs) {j : Nat} (hj : j < xs.length) : ∃ b off, A = some ⟨b, off, none⟩ ∧ b < w.heap.size ∧ w.cell? ⟨b, off + j * 5, none⟩ = some (.int .i64 xs[j].kind) ∧ w.cell? ⟨b, off + j * 5 + 1, none⟩ = some (.string xs[j].key) ∧
    w.cell? ⟨b, off + j * 5 + 2, none⟩ = some (.string xs[j].upto) ∧ w.cell? ⟨b, off + j * 5 + 3, none⟩ = some (.int .u64 (xs[j].val : Int)) ∧ w.cell? ⟨b, off + j * 5 + 4, none⟩ = some (.int .i64 xs[j].limit) := by
  obtain ⟨b, off, e, hb, hc⟩ := h (by omega)
  exact ⟨b, off, e, hb, hc j hj 0 _ rfl, hc j hj 1 _ rfl, hc j hj 2 _ rfl, hc j hj 3 _ rfl, hc j hj 4 _ rfl⟩

def lightOp (o : OpD) : Bool := decide (o.key.size ≤ 200 ∧ o.upto.size ≤ 200)
def light16 (xs : List OpD) : Bool := xs.all lightOp && decide (xs.length ≤ 40)
theorem light16_spec {xs : List OpD} (h : light16 xs = true) : (∀ x ∈ xs, x.key.size ≤ 200 ∧ x.upto.size ≤ 200) ∧ xs.length ≤ 40 := by
  unfold light16 at h
  rw [Bool.and_eq_true, List.all_eq_true, decide_eq_true_iff] at h
  exact ⟨fun x hx => of_decide_eq_true (h.1 x hx), h.2⟩

set_option maxRecDepth 100000 in
set_option maxHeartbeats 2000000 in
theorem light16_any (A : Option Addr) (c : Nat) (xs : List OpD) (w : World) (h : Opl w A xs) (hx : ∀ x ∈ xs, OpOk x) (hl : xs.length ≤ 9223372036854775807) :
    Calls Try.prog 39 #[.slice A xs.length c] w (Ret (.bool (light16 xs)) w) := by
  go_enter Try.func39, Try.ntmps39
  go_wp2_with fail
  go_loopw [4, 7] (fun _ i wr => ∃ j : Nat, j ≤ xs.length ∧ i = .int .i64 j ∧ Hid (∀ (q : Nat) (hq : q < xs.length), q < j → lightOp xs[q] = true) ∧ Below w.heap.size w wr) (fun _ i _ => xs.length - (intOf i).toNat)
  case atStart => exact ⟨0, Nat.zero_le _, rfl, fun q _ hq => absurd hq (Nat.not_lt_zero _), Below.refl _ _⟩
  case round =>
    obtain ⟨j, hj, rfl, hpre, hbel⟩ := hrel
    by_cases hlt : j < xs.length
    · obtain ⟨b, off, rfl, hbl, d0, d1, d2, d3, d4⟩ := (h.up hbel).at_ hlt
      have hok := hx _ (List.getElem_mem hlt)
      generalize hxj : xs[j] = x at d0 d1 d2 d3 d4 hok
      have HX := Lib.hid hxj
      clear hxj
      obtain ⟨kind, key, upto, val, limit⟩ := x
      simp only [] at d0 d1 d2 d3 d4
      have hks : key.size ≤ 9223372036854775807 := hok.key
      have hus : upto.size ≤ 9223372036854775807 := hok.upto
      by_cases hs : key.size ≤ 200
      · have hs' : decide ((200 : Int) < (key.size : Int)) = false := decide_eq_false (by omega)
        by_cases hu : upto.size ≤ 200
        · have hu' : decide ((200 : Int) < (upto.size : Int)) = false := decide_eq_false (by omega)
          go_wp2_with fail
          go_round
          case rel =>
            refine ⟨j + 1, by omega, by go_num, fun q hq hqj => ?_, below_of hbel (below_alloc _ _)⟩
            rcases Nat.lt_succ_iff_lt_or_eq.1 hqj with g | rfl
            · exact hpre.out q hq g
            · rw [HX.out]; exact decide_eq_true ⟨hs, hu⟩
          case measure => simp [intOf]; omega
        · have hu' : decide ((200 : Int) < (upto.size : Int)) = true := decide_eq_true (by omega)
          go_wp2_with fail
          go_ret
          refine ⟨ret_bool ?_, below_of hbel (below_alloc _ _)⟩
          symm
          unfold light16
          rw [Bool.and_eq_false_iff]
          left
          rw [List.all_eq_false]
          refine ⟨xs[j], List.getElem_mem hlt, ?_⟩
          rw [HX.out]
          exact fun g => hu (of_decide_eq_true g).2
      · have hs' : decide ((200 : Int) < (key.size : Int)) = true := decide_eq_true (by omega)
        go_wp2_with fail
        go_ret
        refine ⟨ret_bool ?_, below_of hbel (below_alloc _ _)⟩
        symm
        unfold light16
        rw [Bool.and_eq_false_iff]
        left
        rw [List.all_eq_false]
        refine ⟨xs[j], List.getElem_mem hlt, ?_⟩
        rw [HX.out]
        exact fun g => hs (of_decide_eq_true g).1
    · go_wp2_with fail
      go_ret
      refine ⟨ret_bool ?_, hbel⟩
      unfold light16
      have hall : xs.all lightOp = true := by
        rw [List.all_eq_true]
        intro x hxm
        obtain ⟨q, hq, rfl⟩ := List.getElem_of_mem hxm
        exact hpre.out q hq (by omega)
      rw [hall, Bool.true_and]
      rw [Bool.eq_iff_iff, decide_eq_true_iff, decide_eq_true_iff]
      omega

end Go.Proofs.Ythbafbgnclpbpaa
