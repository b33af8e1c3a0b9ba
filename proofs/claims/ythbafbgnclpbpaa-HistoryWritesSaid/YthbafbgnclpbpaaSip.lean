/- The laws of layer 1: items, and what is written of them. -/
import Derived.Test.YthbafbgnclpbpaaLives01
namespace Go.Proofs.Ythbafbgnclpbpaa
open Go.RowKit

structure It where
  kind : Int
  num : Nat
  int : Int
  text : ByteArray
  most : Int
def itCells (x : It) : Array Value := #[.int .i64 x.kind, .int .u64 (x.num : Int), .int .i64 x.int, .string x.text, .int .i64 x.most]
structure ItOk (x : It) : Prop where
  num : x.num < 18446744073709551616
  int : -9223372036854775808 ≤ x.int ∧ x.int ≤ 9223372036854775807
  text : x.text.size ≤ maxLen
  kind : -9223372036854775808 ≤ x.kind ∧ x.kind ≤ 9223372036854775807
  most : -9223372036854775808 ≤ x.most ∧ x.most ≤ 9223372036854775807

/-- The bytes of an item. -/
def itBytes (x : It) : List Nat := if x.kind = 1 then dig (turn x.int) else if x.kind = 2 then [x.num % 2] else if x.kind = 3 then dig x.text.size ++ tb x.text else dig x.num
theorem itBytes_len (x : It) : 1 ≤ (itBytes x).length ∧ (itBytes x).length ≤ 11 + x.text.size := by
  unfold itBytes
  have h1 := dig_len (turn x.int)
  have h2 := dig_len x.text.size
  have h3 := dig_len x.num
  have p1 := dig_pos (turn x.int)
  have p2 := dig_pos x.text.size
  have p3 := dig_pos x.num
  split
  · omega
  · split
    · simp; omega
    · split
      · rw [List.length_append, tb_length]; omega
      · omega

/-- What 'write' leaves. -/
def WriteTo (w : World) (bp : Nat) (r : Option Nat) (l m : List Nat) (e : Ending) (w' : World) : Prop :=
  ∃ A c r', e = .returned (.slice A m.length c) ∧ Rd w' w'.heap.size 1 A m.length (u8s m) ∧ PenRel w bp r w' r' (l ++ m)

theorem PenAt.told1 {w : World} {bp : Nat} {r : Option Nat} {l : List Nat} (h : PenAt w bp r l) : bp < w.heap.size := h.lt.1

theorem pen_far {w : World} {bp : Nat} {r : Option Nat} {l : List Nat} (h : PenAt w bp r l) : ¬ penS bp r w.heap.size := by
  have hl := h.lt
  rintro (e | e)
  · omega
  · have := hl.2 _ e.symm; omega

set_option maxRecDepth 100000 in
set_option maxHeartbeats 2000000 in
theorem write_any (bp : Nat) (r : Option Nat) (l : List Nat) (x : It) (w : World) (hp : PenAt w bp r l) (hx : ItOk x) (ht : x.text.size ≤ 1000) (hl : l.length ≤ 50000) :
    Calls Try.prog 26 #[.pointer (some ⟨bp, 0, none⟩), .agg (itCells x)] w (WriteTo w bp r l (itBytes x)) := by
  obtain ⟨kind, num, int, text, most⟩ := x
  have hb := below_alloc w (.cells (itCells ⟨kind, num, int, text, most⟩) 42)
  have e : itBytes ⟨kind, num, int, text, most⟩ = if kind = 1 then dig (turn int) else if kind = 2 then [num % 2] else if kind = 3 then dig text.size ++ tb text else dig num := rfl
  have c0 : (w.alloc (.cells (itCells ⟨kind, num, int, text, most⟩) 42)).cell? ⟨w.heap.size, 0, none⟩ = some (.int .i64 kind) := new_cell w _ _ 0 _ rfl
  have c1 : (w.alloc (.cells (itCells ⟨kind, num, int, text, most⟩) 42)).cell? ⟨w.heap.size, 1, none⟩ = some (.int .u64 (num : Int)) := new_cell w _ _ 1 _ rfl
  have c2 : (w.alloc (.cells (itCells ⟨kind, num, int, text, most⟩) 42)).cell? ⟨w.heap.size, 2, none⟩ = some (.int .i64 int) := new_cell w _ _ 2 _ rfl
  have c3 : (w.alloc (.cells (itCells ⟨kind, num, int, text, most⟩) 42)).cell? ⟨w.heap.size, 3, none⟩ = some (.string text) := new_cell w _ _ 3 _ rfl
  have hs : (w.alloc (.cells (itCells ⟨kind, num, int, text, most⟩) 42)).heap.size = w.heap.size + 1 := by simp
  have hz : w.heap.size < (w.alloc (.cells (itCells ⟨kind, num, int, text, most⟩) 42)).heap.size := by simp
  have H := Lib.hid (And.intro (hp.below hb) (And.intro hx (And.intro hb (And.intro ht hp))))
  simp only [] at c0 c1 c2 c3 H ht
  clear hp hx hb
  simp only [itCells] at c0 c1 c2 c3 H hz hs ⊢
  have HS := Lib.hid hs
  clear hs
  by_cases k1 : kind = 1
  · rw [if_pos k1] at e
    have HE := Lib.hid e
    clear e
    subst k1
    go_enter Try.func26, Try.ntmps26
    go_wp2_with fail
    generalize w.alloc _ = W at H hz HS c0 c1 c2 c3 ⊢
    rw [← HS.out]
    refine (penint_any bp r l [int] W.heap.size 1 _ (H.out.1.below (below_alloc _ _)) (by intro n hn; simp at hn; subst hn; exact H.out.2.1.int) (told_new H.out.1 (i64s [int]) _) (by simp; omega)).mono ?_
    rintro e w2 ⟨rfl, r2, hrel⟩
    replace hrel := PenRel.of_below (below_alloc _ _) hrel
    rw [show ([int].flatMap fun z => dig (turn z)) = dig (turn int) from by simp] at hrel
    have hn2 : ∀ i, w2.cell? ⟨w.heap.size, i, none⟩ = W.cell? ⟨w.heap.size, i, none⟩ := fun i => hrel.2.1.cell (p := ⟨w.heap.size, i, none⟩) hz (pen_far H.out.2.2.2.2)
    have d1 := (hn2 1).trans c1
    have d2 := (hn2 2).trans c2
    have d3 := (hn2 3).trans c3
    have Hrel := Lib.hid hrel
    clear hrel hn2 c0 c1 c2 c3
    go_wp2_with fail
    refine (refturn_any int _ H.out.2.1.int).mono ?_
    rintro e w3 ⟨rfl, rfl⟩
    go_wp2_with fail
    refine (refnum_any (turn int) _ (turn_lt H.out.2.1.int)).mono ?_
    rintro e w3 ⟨A, c, rfl, ho, hb3⟩
    have HO := Lib.hid (And.intro (Rd.of_own ho) (PenRel.of_below H.out.2.2.1 (Hrel.out.then_below hb3)))
    clear ho hb3
    go_wp2_with fail
    go_ret
    exact ⟨A, c, r2, by rw [HE.out]; first | rfl | (rw [List.length_append]; rfl), by rw [HE.out]; exact HO.out.1, by rw [HE.out]; exact HO.out.2⟩
  · rw [if_neg k1] at e
    have k1b : (kind == (1 : Int)) = false := by simp [k1]
    by_cases k2 : kind = 2
    · rw [if_pos k2] at e
      have HE := Lib.hid e
      clear e
      subst k2
      have t1 : IntKind.u64.wrap ((num : Int) % 2) = (num : Int) % 2 := by rw [IntKind.wrap_u64]; omega
      have t2 : IntKind.u8.wrap ((num : Int) % 2) = ((num % 2 : Nat) : Int) := by rw [IntKind.wrap_u8]; omega
      clear k1b k1
      have hbit : bits1 ((num : Int) % 2 == 1) = num % 2 := by
        unfold bits1
        by_cases hq : num % 2 = 1
        · rw [hq, if_pos (by rw [beq_iff_eq]; omega)]
        · rw [if_neg (by rw [beq_iff_eq]; omega)]; omega
      have HB := Lib.hid hbit
      clear hbit
      go_enter Try.func26, Try.ntmps26
      go_wp2_with fail
      generalize w.alloc _ = W at H hz HS c0 c1 c2 c3 ⊢
      rw [← HS.out]
      refine (pentruth_any bp r l ((num : Int) % 2 == 1) W.heap.size 1 _ (H.out.1.below (below_alloc _ _)) (told_new H.out.1 [.bool ((num : Int) % 2 == 1)] _) (by omega)).mono ?_
      rintro e w2 ⟨rfl, r2, hrel⟩
      replace hrel := PenRel.of_below (below_alloc _ _) hrel
      rw [HB.out] at hrel
      have hn2 : ∀ i, w2.cell? ⟨w.heap.size, i, none⟩ = W.cell? ⟨w.heap.size, i, none⟩ := fun i => hrel.2.1.cell (p := ⟨w.heap.size, i, none⟩) hz (pen_far H.out.2.2.2.2)
      have d1 := (hn2 1).trans c1
      have d2 := (hn2 2).trans c2
      have d3 := (hn2 3).trans c3
      have Hrel := Lib.hid hrel
      clear hrel hn2 c0 c1 c2 c3
      go_wp2_with fail
      go_ret
      have hrd := rd_new w2 (u8s [num % 2]) 5
      have hrl := PenRel.of_below H.out.2.2.1 (Hrel.out.then_below (below_alloc w2 (.cells (u8s [num % 2]).toArray 5)))
      exact ⟨some ⟨w2.heap.size, 0, none⟩, 1, r2, by rw [HE.out]; rfl, by rw [HE.out]; exact hrd, by rw [HE.out]; exact hrl⟩
    · rw [if_neg k2] at e
      have k2b : (kind == (2 : Int)) = false := by simp [k2]
      by_cases k3 : kind = 3
      · rw [if_pos k3] at e
        have HE := Lib.hid e
        clear e
        subst k3
        have HT := Lib.hid ht
        clear k1b k1 k2 k2b
        go_enter Try.func26, Try.ntmps26
        go_wp2_with fail
        generalize w.alloc _ = W at H hz HS c0 c1 c2 c3 ⊢
        refine (pentext_any bp r l text _ H.out.1 (by omega)).mono ?_
        rintro e w2 ⟨rfl, r2, hrel⟩
        have hn2 : ∀ i, w2.cell? ⟨w.heap.size, i, none⟩ = W.cell? ⟨w.heap.size, i, none⟩ := fun i => hrel.2.1.cell (p := ⟨w.heap.size, i, none⟩) hz (pen_far H.out.2.2.2.2)
        have d1 := (hn2 1).trans c1
        have d2 := (hn2 2).trans c2
        have d3 := (hn2 3).trans c3
        have Hrel := Lib.hid hrel
        clear hrel hn2 c0 c1 c2 c3
        go_wp2_with fail
        refine (reftext_any text _ (by omega)).mono ?_
        rintro e w3 ⟨A, c, rfl, ho, hb3⟩
        have HO := Lib.hid (And.intro (Rd.of_own ho) (PenRel.of_below H.out.2.2.1 (Hrel.out.then_below hb3)))
        clear ho hb3
        go_wp2_with fail
        go_ret
        exact ⟨A, c, r2, by rw [HE.out]; first | rfl | (rw [List.length_append]; rfl), by rw [HE.out]; exact HO.out.1, by rw [HE.out]; exact HO.out.2⟩
      · rw [if_neg k3] at e
        have HE := Lib.hid e
        clear e
        have k3b : (kind == (3 : Int)) = false := by simp [k3]
        clear k1 k2 k3
        go_enter Try.func26, Try.ntmps26
        go_wp2_with fail
        generalize w.alloc _ = W at H hz HS c0 c1 c2 c3 ⊢
        rw [← HS.out]
        refine (pennum_any bp r l [num] W.heap.size 1 _ (H.out.1.below (below_alloc _ _)) (by intro n hn; simp at hn; subst hn; exact H.out.2.1.num) (told_new H.out.1 (u64n [num]) _) (by simp; omega)).mono ?_
        rintro e w2 ⟨rfl, r2, hrel⟩
        replace hrel := PenRel.of_below (below_alloc _ _) hrel
        rw [show ([num].flatMap dig) = dig num from by simp] at hrel
        have hn2 : ∀ i, w2.cell? ⟨w.heap.size, i, none⟩ = W.cell? ⟨w.heap.size, i, none⟩ := fun i => hrel.2.1.cell (p := ⟨w.heap.size, i, none⟩) hz (pen_far H.out.2.2.2.2)
        have d1 := (hn2 1).trans c1
        have d2 := (hn2 2).trans c2
        have d3 := (hn2 3).trans c3
        have Hrel := Lib.hid hrel
        clear hrel hn2 c0 c1 c2 c3
        go_wp2_with fail
        refine (refnum_any num _ H.out.2.1.num).mono ?_
        rintro e w3 ⟨A, c, rfl, ho, hb3⟩
        have HO := Lib.hid (And.intro (Rd.of_own ho) (PenRel.of_below H.out.2.2.1 (Hrel.out.then_below hb3)))
        clear ho hb3
        go_wp2_with fail
        go_ret
        exact ⟨A, c, r2, by rw [HE.out]; first | rfl | (rw [List.length_append]; rfl), by rw [HE.out]; exact HO.out.1, by rw [HE.out]; exact HO.out.2⟩

end Go.Proofs.Ythbafbgnclpbpaa
