/- The laws of layer 1: lists of items. -/
import Derived.Test.YthbafbgnclpbpaaSip
namespace Go.Proofs.Ythbafbgnclpbpaa
open Go.RowKit

/-- A slice of items. -/
def Its (w : World) (A : Option Addr) (xs : List It) : Prop :=
  0 < xs.length → ∃ b off, A = some ⟨b, off, none⟩ ∧ b < w.heap.size ∧ ∀ (j : Nat) (hj : j < xs.length) (k : Nat) (v : Value), (itCells xs[j])[k]? = some v → w.cell? ⟨b, off + j * 5 + k, none⟩ = some v
theorem Its.up {w w' : World} {A : Option Addr} {xs : List It} (h : Its w A xs) (hb : Below w.heap.size w w') : Its w' A xs := fun h0 => by
  obtain ⟨b, off, e, hbl, hc⟩ := h h0
  exact ⟨b, off, e, Nat.lt_of_lt_of_le hbl hb.size, fun j hj k v hv => (hb.cell (p := ⟨b, off + j * 5 + k, none⟩) hbl).trans (hc j hj k v hv)⟩

theorem Its.at_ {w : World} {A : Option Addr} {xs : List It} (h : Its w A xs) {j : Nat} (hj : j < xs.length) : ∃ b off, A = some ⟨b, off, none⟩ ∧ b < w.heap.size ∧ w.cell? ⟨b, off + j * 5, none⟩ = some (.int .i64 xs[j].kind) ∧ w.cell? ⟨b, off + j * 5 + 1, none⟩ = some (.int .u64 (xs[j].num : Int)) ∧
    w.cell? ⟨b, off + j * 5 + 2, none⟩ = some (.int .i64 xs[j].int) ∧ w.cell? ⟨b, off + j * 5 + 3, none⟩ = some (.string xs[j].text) ∧ w.cell? ⟨b, off + j * 5 + 4, none⟩ = some (.int .i64 xs[j].most) := by
  obtain ⟨b, off, e, hb, hc⟩ := h (by omega)
  exact ⟨b, off, e, hb, hc j hj 0 _ rfl, hc j hj 1 _ rfl, hc j hj 2 _ rfl, hc j hj 3 _ rfl, hc j hj 4 _ rfl⟩

def light01 (xs : List It) : Bool := xs.all (fun x => decide (x.text.size ≤ 300)) && decide (xs.length ≤ 40)

set_option maxRecDepth 100000 in
set_option maxHeartbeats 1000000 in
theorem light01_any (A : Option Addr) (c : Nat) (xs : List It) (w : World) (h : Its w A xs) (hx : ∀ x ∈ xs, ItOk x) (hl : xs.length ≤ 9223372036854775807) :
    Calls Try.prog 24 #[.slice A xs.length c] w (Ret (.bool (light01 xs)) w) := by
  go_enter Try.func24, Try.ntmps24
  go_wp2_with fail
  go_loopw [4, 7] (fun _ i wr => ∃ j : Nat, j ≤ xs.length ∧ i = .int .i64 j ∧ Hid (∀ (q : Nat) (hq : q < xs.length), q < j → xs[q].text.size ≤ 300) ∧ Below w.heap.size w wr) (fun _ i _ => xs.length - (intOf i).toNat)
  case atStart => exact ⟨0, Nat.zero_le _, rfl, fun q _ hq => absurd hq (Nat.not_lt_zero _), Below.refl _ _⟩
  case round =>
    obtain ⟨j, hj, rfl, hpre, hbel⟩ := hrel
    by_cases hlt : j < xs.length
    · obtain ⟨b, off, rfl, hbl, d0, d1, d2, d3, d4⟩ := (h.up hbel).at_ hlt
      have hok := hx _ (List.getElem_mem hlt)
      have Hx := Lib.hid (rfl : xs[j] = xs[j])
      generalize hxj : xs[j] = x at d0 d1 d2 d3 d4 hok
      have HX := Lib.hid hxj
      clear hxj Hx
      obtain ⟨kind, num, int, text, most⟩ := x
      simp only [] at d0 d1 d2 d3 d4
      have hts : text.size ≤ 9223372036854775807 := hok.text
      by_cases hs : text.size ≤ 300
      · have hs' : ¬ (300 : Int) < (text.size : Int) := by omega
        go_wp2_with fail
        go_round
        case rel =>
          refine ⟨j + 1, by omega, by go_num, fun q hq hqj => ?_, below_of hbel (below_alloc _ _)⟩
          rcases Nat.lt_succ_iff_lt_or_eq.1 hqj with g | rfl
          · exact hpre.out q hq g
          · rw [HX.out]; exact hs
        case measure => simp [intOf]; omega
      · have hs' : (300 : Int) < (text.size : Int) := by omega
        go_wp2_with fail
        go_ret
        refine ⟨ret_bool ?_, below_of hbel (below_alloc _ _)⟩
        symm
        unfold light01
        rw [Bool.and_eq_false_iff]
        left
        rw [List.all_eq_false]
        refine ⟨xs[j], List.getElem_mem hlt, ?_⟩
        rw [HX.out, decide_eq_true_iff]
        exact hs
    · go_wp2_with fail
      go_ret
      refine ⟨ret_bool ?_, hbel⟩
      unfold light01
      have hall : (xs.all fun x => decide (x.text.size ≤ 300)) = true := by
        rw [List.all_eq_true]
        intro x hxm
        obtain ⟨q, hq, rfl⟩ := List.getElem_of_mem hxm
        exact decide_eq_true (hpre.out q hq (by omega))
      rw [hall, Bool.true_and]
      rw [Bool.eq_iff_iff, decide_eq_true_iff, decide_eq_true_iff]
      omega

theorem light01_spec {xs : List It} (h : light01 xs = true) : (∀ x ∈ xs, x.text.size ≤ 300) ∧ xs.length ≤ 40 := by
  unfold light01 at h
  rw [Bool.and_eq_true, List.all_eq_true, decide_eq_true_iff] at h
  exact ⟨fun x hx => of_decide_eq_true (h.1 x hx), h.2⟩

end Go.Proofs.Ythbafbgnclpbpaa
