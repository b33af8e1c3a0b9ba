/- Lists of operations: Light, Write, the example of chapter 16. -/
import Derived.Test.YthbafbgnclpbpaaOpA
import Derived.Test.YthbafbgnclpbpaaZOpl
namespace Go.Proofs.Ythbafbgnclpbpaa
open Go.RowKit

def opsBytes (xs : List OpD) : List Nat := xs.flatMap opBytes
theorem opBytes_len (o : OpD) (hk : o.key.size ≤ 1000) (ht : o.upto.size ≤ 1000) : (opBytes o).length ≤ 2100 := by
  unfold opBytes
  have h1 := dig_len o.kind.toNat
  have h2 := dig_len o.key.size
  have h3 := dig_len o.upto.size
  have h4 := dig_len o.val
  have h5 := dig_len o.limit.toNat
  have h6 := tb_length o.key
  have h7 := tb_length o.upto
  split
  · rw [List.length_append, List.length_append, List.length_append, List.length_append]
    have a1 : (if usesKey o.kind = true then dig o.key.size ++ tb o.key else []).length ≤ 1011 := by split <;> first | (rw [List.length_append]; omega) | simp
    have a2 : (if usesTo o.kind = true then dig o.upto.size ++ tb o.upto else []).length ≤ 1011 := by split <;> first | (rw [List.length_append]; omega) | simp
    have a3 : (if usesVal o.kind = true then dig o.val else []).length ≤ 11 := by split <;> first | omega | simp
    have a4 : (if usesTo o.kind = true then dig o.limit.toNat else []).length ≤ 11 := by split <;> first | omega | simp
    omega
  · simp

theorem opsBytes_take (xs : List OpD) (j : Nat) (h : j < xs.length) : opsBytes (xs.take (j + 1)) = opsBytes (xs.take j) ++ opBytes xs[j] := flat_take opBytes xs j h
theorem opsBytes_len (xs : List OpD) (h : ∀ x ∈ xs, x.key.size ≤ 200 ∧ x.upto.size ≤ 200) : (opsBytes xs).length ≤ 522 * xs.length := by
  unfold opsBytes
  induction xs with
  | nil => simp
  | cons x xs ih =>
    rw [List.flatMap_cons, List.length_append, List.length_cons]
    have h2 := h x (by simp)
    have h3 := ih (fun y hy => h y (by simp [hy]))
    have h1 : (opBytes x).length ≤ 522 := by
      unfold opBytes
      have h1 := dig_len x.kind.toNat
      have h4 := dig_len x.key.size
      have h5 := dig_len x.upto.size
      have h6 := dig_len x.val
      have h7 := dig_len x.limit.toNat
      have h8 := tb_length x.key
      have h9 := tb_length x.upto
      split
      · rw [List.length_append, List.length_append, List.length_append, List.length_append]
        have a1 : (if usesKey x.kind = true then dig x.key.size ++ tb x.key else []).length ≤ 211 := by split <;> first | (rw [List.length_append]; omega) | simp
        have a2 : (if usesTo x.kind = true then dig x.upto.size ++ tb x.upto else []).length ≤ 211 := by split <;> first | (rw [List.length_append]; omega) | simp
        have a3 : (if usesVal x.kind = true then dig x.val else []).length ≤ 11 := by split <;> first | omega | simp
        have a4 : (if usesTo x.kind = true then dig x.limit.toNat else []).length ≤ 11 := by split <;> first | omega | simp
        omega
      · simp
    omega

set_option maxRecDepth 100000 in
set_option maxHeartbeats 4000000 in
theorem opwrite_any (bp : Nat) (r : Option Nat) (A : Option Addr) (c : Nat) (xs : List OpD) (w : World) (hp : PenAt w bp r []) (h : Opl w A xs) (hfar : ∀ a, A = some a → ¬ penS bp r a.block) (hx : ∀ x ∈ xs, OpOk x) (hs : ∀ x ∈ xs, x.key.size ≤ 200 ∧ x.upto.size ≤ 200) (hl : xs.length ≤ 40) :
    Calls Try.prog 63 #[.pointer (some ⟨bp, 0, none⟩), .slice A xs.length c] w (PenTo w bp r (opsBytes xs)) := by
  go_enter Try.func63, Try.ntmps63
  go_wp2_with fail
  go_loopw [5, 8] (fun _ i wr => ∃ (j : Nat) (r' : Option Nat), i = .int .i64 j ∧ Hid (j ≤ xs.length ∧ PenRel w bp r wr r' (opsBytes (xs.take j)))) (fun _ i _ => xs.length - (intOf i).toNat)
  case atStart => exact ⟨0, r, rfl, Nat.zero_le _, PenRel.refl hp⟩
  case round =>
    obtain ⟨j, r1, rfl, H⟩ := hrel
    by_cases hlt : j < xs.length
    · obtain ⟨b, off, rfl, hbl, d0, d1, d2, d3, d4⟩ := h.at_ hlt
      have hf := hfar _ rfl
      have hn2 : ∀ i, wr.cell? ⟨b, i, none⟩ = w.cell? ⟨b, i, none⟩ := fun i => H.out.2.2.1.cell (p := ⟨b, i, none⟩) hbl hf
      replace d0 := (hn2 _).trans d0
      replace d1 := (hn2 _).trans d1
      replace d2 := (hn2 _).trans d2
      replace d3 := (hn2 _).trans d3
      replace d4 := (hn2 _).trans d4
      have hok := hx _ (List.getElem_mem hlt)
      have hsz := hs _ (List.getElem_mem hlt)
      have HT := Lib.hid (opsBytes_take xs j hlt)
      have hlen := opsBytes_len (xs.take j) (fun x hxm => hs x (List.mem_of_mem_take hxm))
      rw [List.length_take] at hlen
      have hlen2 : (opsBytes (xs.take j)).length ≤ 21000 := by omega
      generalize opsBytes (xs.take j) = L at H HT hlen2 ⊢
      clear hlen hn2
      generalize hxj : xs[j] = x at d0 d1 d2 d3 d4 hok hsz HT
      clear hxj
      have HB := Lib.hid (below_alloc wr (.cells (opCells x) 58))
      have HW := Lib.hid (opwrite1_any bp r1 L x (wr.alloc (.cells (opCells x) 58)) (H.out.2.1.below HB.out) hok (by omega) (by omega) (by omega))
      obtain ⟨kind, key, upto, val, limit⟩ := x
      simp only [] at d0 d1 d2 d3 d4
      simp only [opCells] at HB HW
      clear hok hsz
      go_wp2_with fail
      refine HW.out.mono ?_
      rintro e w3 ⟨rfl, r2, hrel3⟩
      have HN := Lib.hid (H.out.2.trans (PenRel.of_below HB.out hrel3))
      clear hrel3 HW HB
      go_wp2_with fail
      go_roundw
      case rel =>
        refine ⟨j + 1, r2, by go_num, by omega, ?_⟩
        rw [HT.out]
        exact HN.out
      case measure => simp [intOf]; omega
    · have hj : j = xs.length := by have := H.out.1; omega
      subst hj
      have hH := H.out.2
      rw [List.take_length] at hH
      have H' := Lib.hid hH
      clear hH
      go_wp2_with fail
      go_end0
      exact ⟨rfl, r1, H'.out⟩

end Go.Proofs.Ythbafbgnclpbpaa
