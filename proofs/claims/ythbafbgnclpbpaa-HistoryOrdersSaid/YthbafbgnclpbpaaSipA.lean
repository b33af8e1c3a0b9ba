/- The laws of layer 1: items, and what is written of them. -/
import Derived.Test.YthbafbgnclpbpaaLives01
namespace Go.Proofs.Ythbafbgnclpbpaa
open Go.RowKit

structure It where
  kind : Int
  num : Nat
  int : Int
  text : ByteArray
  most : Int
def itCells (x : It) : Array Value := #[.int .i64 x.kind, .int .u64 (x.num : Int), .int .i64 x.int, .string x.text, .int .i64 x.most]
structure ItOk (x : It) : Prop where
  num : x.num < 18446744073709551616
  int : -9223372036854775808 ≤ x.int ∧ x.int ≤ 9223372036854775807
  text : x.text.size ≤ maxLen
  kind : -9223372036854775808 ≤ x.kind ∧ x.kind ≤ 9223372036854775807
  most : -9223372036854775808 ≤ x.most ∧ x.most ≤ 9223372036854775807

/-- The bytes of an item. -/
def itBytes (x : It) : List Nat := if x.kind = 1 then dig (turn x.int) else if x.kind = 2 then [x.num % 2] else if x.kind = 3 then dig x.text.size ++ tb x.text else dig x.num
theorem itBytes_len (x : It) : 1 ≤ (itBytes x).length ∧ (itBytes x).length ≤ 11 + x.text.size := by
  unfold itBytes
  have h1 := dig_len (turn x.int)
  have h2 := dig_len x.text.size
  have h3 := dig_len x.num
  have p1 := dig_pos (turn x.int)
  have p2 := dig_pos x.text.size
  have p3 := dig_pos x.num
  split
  · omega
  · split
    · simp; omega
    · split
      · rw [List.length_append, tb_length]; omega
      · omega

/-- What 'write' leaves. -/
def WriteTo (w : World) (bp : Nat) (r : Option Nat) (l m : List Nat) (e : Ending) (w' : World) : Prop :=
  ∃ A c r', e = .returned (.slice A m.length c) ∧ Rd w' w'.heap.size 1 A m.length (u8s m) ∧ PenRel w bp r w' r' (l ++ m)

theorem PenAt.told1 {w : World} {bp : Nat} {r : Option Nat} {l : List Nat} (h : PenAt w bp r l) : bp < w.heap.size := h.lt.1

theorem pen_far {w : World} {bp : Nat} {r : Option Nat} {l : List Nat} (h : PenAt w bp r l) : ¬ penS bp r w.heap.size := by
  have hl := h.lt
  rintro (e | e)
  · omega
  · have := hl.2 _ e.symm; omega

set_option maxRecDepth 100000 in
set_option maxHeartbeats 2000000 in
theorem write_any (bp : Nat) (r : Option Nat) (l : List Nat) (x : It) (w : World) (hp : PenAt w bp r l) (hx : ItOk x) (ht : x.text.size ≤ 1000) (hl : l.length ≤ 50000) :
    Calls Try.prog 26 #[.pointer (some ⟨bp, 0, none⟩), .agg (itCells x)] w (WriteTo w bp r l (itBytes x)) := by
  obtain ⟨kind, num, int, text, most⟩ := x
  have hb := below_alloc w (.cells (itCells ⟨kind, num, int, text, most⟩) 42)
  have e : itBytes ⟨kind, num, int, text, most⟩ = if kind = 1 then dig (turn int) else if kind = 2 then [num % 2] else if kind = 3 then dig text.size ++ tb text else dig num := rfl
  have c0 : (w.alloc (.cells (itCells ⟨kind, num, int, text, most⟩) 42)).cell? ⟨w.heap.size, 0, none⟩ = some (.int .i64 kind) := new_cell w _ _ 0 _ rfl
  have c1 : (w.alloc (.cells (itCells ⟨kind, num, int, text, most⟩) 42)).cell? ⟨w.heap.size, 1, none⟩ = some (.int .u64 (num : Int)) := new_cell w _ _ 1 _ rfl
  have c2 : (w.alloc (.cells (itCells ⟨kind, num, int, text, most⟩) 42)).cell? ⟨w.heap.size, 2, none⟩ = some (.int .i64 int) := new_cell w _ _ 2 _ rfl
  have c3 : (w.alloc (.cells (itCells ⟨kind, num, int, text, most⟩) 42)).cell? ⟨w.heap.size, 3, none⟩ = some (.string text) := new_cell w _ _ 3 _ rfl
  have hs : (w.alloc (.cells (itCells ⟨kind, num, int, text, most⟩) 42)).heap.size = w.heap.size + 1 := by simp
  have hz : w.heap.size < (w.alloc (.cells (itCells ⟨kind, num, int, text, most⟩) 42)).heap.size := by simp
  have H := Lib.hid (And.intro (hp.below hb) (And.intro hx (And.intro hb (And.intro ht hp))))
  simp only [] at c0 c1 c2 c3 H ht
  clear hp hx hb
  simp only [itCells] at c0 c1 c2 c3 H hz hs ⊢
  have HS := Lib.hid hs
  clear hs
  by_cases k1 : kind = 1
  · rw [if_pos k1] at e
    have HE := Lib.hid e
    clear e
    subst k1
    go_enter Try.func26, Try.ntmps26
    go_wp2_with fail
    generalize w.alloc _ = W at H hz HS c0 c1 c2 c3 ⊢
    rw [← HS.out]
    refine (penint_any bp r l [int] W.heap.size 1 _ (H.out.1.below (below_alloc _ _)) (by intro n hn; simp at hn; subst hn; exact H.out.2.1.int) (told_new H.out.1 (i64s [int]) _) (by simp; omega)).mono ?_
    rintro e w2 ⟨rfl, r2, hrel⟩
    replace hrel := PenRel.of_below (below_alloc _ _) hrel
    rw [show ([int].flatMap fun z => dig (turn z)) = dig (turn int) from by simp] at hrel
    have hn2 : ∀ i, w2.cell? ⟨w.heap.size, i, none⟩ = W.cell? ⟨w.heap.size, i, none⟩ := fun i => hrel.2.1.cell (p := ⟨w.heap.size, i, none⟩) hz (pen_far H.out.2.2.2.2)
    have d1 := (hn2 1).trans c1
    have d2 := (hn2 2).trans c2
    have d3 := (hn2 3).trans c3
    have Hrel := Lib.hid hrel
    clear hrel hn2 c0 c1 c2 c3
    go_wp2_with fail
    refine (refturn_any int _ H.out.2.1.int).mono ?_
    rintro e w3 ⟨rfl, rfl⟩
    go_wp2_with fail
    refine (refnum_any (turn int) _ (turn_lt H.out.2.1.int)).mono ?_
    rintro e w3 ⟨A, c, rfl, ho, hb3⟩
    have HO := Lib.hid (And.intro (Rd.of_own ho) (PenRel.of_below H.out.2.2.1 (Hrel.out.then_below hb3)))
    clear ho hb3
    go_wp2_with fail
    go_ret
    exact ⟨A, c, r2, by rw [HE.out]; first | rfl | (rw [List.length_append]; rfl), by rw [HE.out]; exact HO.out.1, by rw [HE.out]; exact HO.out.2⟩
  · rw [if_neg k1] at e
    have k1b : (kind == (1 : Int)) = false := by simp [k1]
    by_cases k2 : kind = 2
    · rw [if_pos k2] at e
      have HE := Lib.hid e
      clear e
      subst k2
      have t1 : IntKind.u64.wrap ((num : Int) % 2) = (num : Int) % 2 := by rw [IntKind.wrap_u64]; omega
      have t2 : IntKind.u8.wrap ((num : Int) % 2) = ((num % 2 : Nat) : Int) := by rw [IntKind.wrap_u8]; omega
      clear k1b k1
      have hbit : bits1 ((num : Int) % 2 == 1) = num % 2 := by
        unfold bits1
        by_cases hq : num % 2 = 1
        · rw [hq, if_pos (by rw [beq_iff_eq]; omega)]
        · rw [if_neg (by rw [beq_iff_eq]; omega)]; omega
      have HB := Lib.hid hbit
      clear hbit
      go_enter Try.func26, Try.ntmps26
      go_wp2_with fail
      generalize w.alloc _ = W at H hz HS c0 c1 c2 c3 ⊢
      rw [← HS.out]
      refine (pentruth_any bp r l ((num : Int) % 2 == 1) W.heap.size 1 _ (H.out.1.below (below_alloc _ _)) (told_new H.out.1 [.bool ((num : Int) % 2 == 1)] _) (by omega)).mono ?_
      rintro e w2 ⟨rfl, r2, hrel⟩
      replace hrel := PenRel.of_below (below_alloc _ _) hrel
      rw [HB.out] at hrel
      have hn2 : ∀ i, w2.cell? ⟨w.heap.size, i, none⟩ = W.cell? ⟨w.heap.size, i, none⟩ := fun i => hrel.2.1.cell (p := ⟨w.heap.size, i, none⟩) hz (pen_far H.out.2.2.2.2)
      have d1 := (hn2 1).trans c1
      have d2 := (hn2 2).trans c2
      have d3 := (hn2 3).trans c3
      have Hrel := Lib.hid hrel
      clear hrel hn2 c0 c1 c2 c3
      go_wp2_with fail
      go_ret
      have hrd := rd_new w2 (u8s [num % 2]) 5
      have hrl := PenRel.of_below H.out.2.2.1 (Hrel.out.then_below (below_alloc w2 (.cells (u8s [num % 2]).toArray 5)))
      exact ⟨some ⟨w2.heap.size, 0, none⟩, 1, r2, by rw [HE.out]; rfl, by rw [HE.out]; exact hrd, by rw [HE.out]; exact hrl⟩
    · rw [if_neg k2] at e
      have k2b : (kind == (2 : Int)) = false := by simp [k2]
      by_cases k3 : kind = 3
      · rw [if_pos k3] at e
        have HE := Lib.hid e
        clear e
        subst k3
        have HT := Lib.hid ht
        clear k1b k1 k2 k2b
        go_enter Try.func26, Try.ntmps26
        go_wp2_with fail
        generalize w.alloc _ = W at H hz HS c0 c1 c2 c3 ⊢
        refine (pentext_any bp r l text _ H.out.1 (by omega)).mono ?_
        rintro e w2 ⟨rfl, r2, hrel⟩
        have hn2 : ∀ i, w2.cell? ⟨w.heap.size, i, none⟩ = W.cell? ⟨w.heap.size, i, none⟩ := fun i => hrel.2.1.cell (p := ⟨w.heap.size, i, none⟩) hz (pen_far H.out.2.2.2.2)
        have d1 := (hn2 1).trans c1
        have d2 := (hn2 2).trans c2
        have d3 := (hn2 3).trans c3
        have Hrel := Lib.hid hrel
        clear hrel hn2 c0 c1 c2 c3
        go_wp2_with fail
        refine (reftext_any text _ (by omega)).mono ?_
        rintro e w3 ⟨A, c, rfl, ho, hb3⟩
        have HO := Lib.hid (And.intro (Rd.of_own ho) (PenRel.of_below H.out.2.2.1 (Hrel.out.then_below hb3)))
        clear ho hb3
        go_wp2_with fail
        go_ret
        exact ⟨A, c, r2, by rw [HE.out]; first | rfl | (rw [List.length_append]; rfl), by rw [HE.out]; exact HO.out.1, by rw [HE.out]; exact HO.out.2⟩
      · rw [if_neg k3] at e
        have HE := Lib.hid e
        clear e
        have k3b : (kind == (3 : Int)) = false := by simp [k3]
        clear k1 k2 k3
        go_enter Try.func26, Try.ntmps26
        go_wp2_with fail
        generalize w.alloc _ = W at H hz HS c0 c1 c2 c3 ⊢
        rw [← HS.out]
        refine (pennum_any bp r l [num] W.heap.size 1 _ (H.out.1.below (below_alloc _ _)) (by intro n hn; simp at hn; subst hn; exact H.out.2.1.num) (told_new H.out.1 (u64n [num]) _) (by simp; omega)).mono ?_
        rintro e w2 ⟨rfl, r2, hrel⟩
        replace hrel := PenRel.of_below (below_alloc _ _) hrel
        rw [show ([num].flatMap dig) = dig num from by simp] at hrel
        have hn2 : ∀ i, w2.cell? ⟨w.heap.size, i, none⟩ = W.cell? ⟨w.heap.size, i, none⟩ := fun i => hrel.2.1.cell (p := ⟨w.heap.size, i, none⟩) hz (pen_far H.out.2.2.2.2)
        have d1 := (hn2 1).trans c1
        have d2 := (hn2 2).trans c2
        have d3 := (hn2 3).trans c3
        have Hrel := Lib.hid hrel
        clear hrel hn2 c0 c1 c2 c3
        go_wp2_with fail
        refine (refnum_any num _ H.out.2.1.num).mono ?_
        rintro e w3 ⟨A, c, rfl, ho, hb3⟩
        have HO := Lib.hid (And.intro (Rd.of_own ho) (PenRel.of_below H.out.2.2.1 (Hrel.out.then_below hb3)))
        clear ho hb3
        go_wp2_with fail
        go_ret
        exact ⟨A, c, r2, by rw [HE.out]; first | rfl | (rw [List.length_append]; rfl), by rw [HE.out]; exact HO.out.1, by rw [HE.out]; exact HO.out.2⟩

end Go.Proofs.Ythbafbgnclpbpaa

namespace Go.Proofs.Ythbafbgnclpbpaa
open Go.RowKit

/-- A slice of items. -/
def Its (w : World) (A : Option Addr) (xs : List It) : Prop :=
  0 < xs.length → ∃ b off, A = some ⟨b, off, none⟩ ∧ b < w.heap.size ∧ ∀ (j : Nat) (hj : j < xs.length) (k : Nat) (v : Value), (itCells xs[j])[k]? = some v → w.cell? ⟨b, off + j * 5 + k, none⟩ = some v
theorem Its.up {w w' : World} {A : Option Addr} {xs : List It} (h : Its w A xs) (hb : Below w.heap.size w w') : Its w' A xs := fun h0 => by
  obtain ⟨b, off, e, hbl, hc⟩ := h h0
  exact ⟨b, off, e, Nat.lt_of_lt_of_le hbl hb.size, fun j hj k v hv => (hb.cell (p := ⟨b, off + j * 5 + k, none⟩) hbl).trans (hc j hj k v hv)⟩

theorem Its.at_ {w : World} {A : Option Addr} {xs : List It} (h : Its w A xs) {j : Nat} (hj : j < xs.length) : ∃ b off, A = some ⟨b, off, none⟩ ∧ b < w.heap.size ∧ w.cell? ⟨b, off + j * 5, none⟩ = some (.int .i64 xs[j].kind) ∧ w.cell? ⟨b, off + j * 5 + 1, none⟩ = some (.int .u64 (xs[j].num : Int)) ∧
    w.cell? ⟨b, off + j * 5 + 2, none⟩ = some (.int .i64 xs[j].int) ∧ w.cell? ⟨b, off + j * 5 + 3, none⟩ = some (.string xs[j].text) ∧ w.cell? ⟨b, off + j * 5 + 4, none⟩ = some (.int .i64 xs[j].most) := by
  obtain ⟨b, off, e, hb, hc⟩ := h (by omega)
  exact ⟨b, off, e, hb, hc j hj 0 _ rfl, hc j hj 1 _ rfl, hc j hj 2 _ rfl, hc j hj 3 _ rfl, hc j hj 4 _ rfl⟩

def light01 (xs : List It) : Bool := xs.all (fun x => decide (x.text.size ≤ 300)) && decide (xs.length ≤ 40)

set_option maxRecDepth 100000 in
set_option maxHeartbeats 1000000 in
theorem light01_any (A : Option Addr) (c : Nat) (xs : List It) (w : World) (h : Its w A xs) (hx : ∀ x ∈ xs, ItOk x) (hl : xs.length ≤ 9223372036854775807) :
    Calls Try.prog 24 #[.slice A xs.length c] w (Ret (.bool (light01 xs)) w) := by
  go_enter Try.func24, Try.ntmps24
  go_wp2_with fail
  go_loopw [4, 7] (fun _ i wr => ∃ j : Nat, j ≤ xs.length ∧ i = .int .i64 j ∧ Hid (∀ (q : Nat) (hq : q < xs.length), q < j → xs[q].text.size ≤ 300) ∧ Below w.heap.size w wr) (fun _ i _ => xs.length - (intOf i).toNat)
  case atStart => exact ⟨0, Nat.zero_le _, rfl, fun q _ hq => absurd hq (Nat.not_lt_zero _), Below.refl _ _⟩
  case round =>
    obtain ⟨j, hj, rfl, hpre, hbel⟩ := hrel
    by_cases hlt : j < xs.length
    · obtain ⟨b, off, rfl, hbl, d0, d1, d2, d3, d4⟩ := (h.up hbel).at_ hlt
      have hok := hx _ (List.getElem_mem hlt)
      have Hx := Lib.hid (rfl : xs[j] = xs[j])
      generalize hxj : xs[j] = x at d0 d1 d2 d3 d4 hok
      have HX := Lib.hid hxj
      clear hxj Hx
      obtain ⟨kind, num, int, text, most⟩ := x
      simp only [] at d0 d1 d2 d3 d4
      have hts : text.size ≤ 9223372036854775807 := hok.text
      by_cases hs : text.size ≤ 300
      · have hs' : ¬ (300 : Int) < (text.size : Int) := by omega
        go_wp2_with fail
        go_round
        case rel =>
          refine ⟨j + 1, by omega, by go_num, fun q hq hqj => ?_, below_of hbel (below_alloc _ _)⟩
          rcases Nat.lt_succ_iff_lt_or_eq.1 hqj with g | rfl
          · exact hpre.out q hq g
          · rw [HX.out]; exact hs
        case measure => simp [intOf]; omega
      · have hs' : (300 : Int) < (text.size : Int) := by omega
        go_wp2_with fail
        go_ret
        refine ⟨ret_bool ?_, below_of hbel (below_alloc _ _)⟩
        symm
        unfold light01
        rw [Bool.and_eq_false_iff]
        left
        rw [List.all_eq_false]
        refine ⟨xs[j], List.getElem_mem hlt, ?_⟩
        rw [HX.out, decide_eq_true_iff]
        exact hs
    · go_wp2_with fail
      go_ret
      refine ⟨ret_bool ?_, hbel⟩
      unfold light01
      have hall : (xs.all fun x => decide (x.text.size ≤ 300)) = true := by
        rw [List.all_eq_true]
        intro x hxm
        obtain ⟨q, hq, rfl⟩ := List.getElem_of_mem hxm
        exact decide_eq_true (hpre.out q hq (by omega))
      rw [hall, Bool.true_and]
      rw [Bool.eq_iff_iff, decide_eq_true_iff, decide_eq_true_iff]
      omega

theorem light01_spec {xs : List It} (h : light01 xs = true) : (∀ x ∈ xs, x.text.size ≤ 300) ∧ xs.length ≤ 40 := by
  unfold light01 at h
  rw [Bool.and_eq_true, List.all_eq_true, decide_eq_true_iff] at h
  exact ⟨fun x hx => of_decide_eq_true (h.1 x hx), h.2⟩

end Go.Proofs.Ythbafbgnclpbpaa

namespace Go.Proofs.Ythbafbgnclpbpaa
open Go.RowKit

theorem owns_off {S : Nat → Prop} {w w' : World} {B : Nat} {e : TypeId} {s n : Nat} {v : Value} {xs : List Value} (h : w.ownsRow B e s v n xs) (hb : Off S w w') (hs : ∀ k, v.ownBlock = some k → ¬ S k) : w'.ownsRow B e s v n xs := by
  refine ⟨h.1, ?_⟩
  rcases h.2 with hn | ⟨g, cap, cur, rfl, hb0, hgg, rest⟩
  · exact .inl hn
  · exact .inr ⟨g, cap, cur, rfl, hb0, (hb.block g (Array.getElem?_eq_some_iff.1 hgg).1 (hs g rfl)).trans hgg, rest⟩

/-- A pen, and a row of the law's own that has the same. -/
structure SW (B bp : Nat) (r : Option Nat) (A : Option Addr) (c : Nat) (L : List Nat) (w0 wr : World) : Prop where
  pen : PenAt wr bp r L
  row : wr.ownsRow B 5 1 (.slice A L.length c) L.length (u8s L)
  ne : ∀ k, (Value.slice A L.length c).ownBlock = some k → ¬ penS bp r k
  below : Below B w0 wr
  fresh : ∀ q, r = some q → B ≤ q
  bpB : B ≤ bp
theorem SW.up {B bp : Nat} {r : Option Nat} {A : Option Addr} {c : Nat} {L : List Nat} {w0 wr wx : World} (h : SW B bp r A c L w0 wr) (hb : Below wr.heap.size wr wx) : SW B bp r A c L w0 wx :=
  { h with pen := h.pen.below hb, row := owns_off h.row (Off.of_below hb (fun _ => False)) (fun _ _ q => q), below := h.below.trans (hb.mono (Nat.le_trans h.bpB (Nat.le_of_lt h.pen.lt.1))) }

/-- A row behind an own row. -/
theorem want_push {B : Nat} {w : World} {A A2 : Option Addr} {c c2 : Nat} {L m : List Nat} (ho : w.ownsRow B 5 1 (.slice A L.length c) L.length (u8s L)) (hB : B ≤ w.heap.size) (hr : Rd w w.heap.size 1 A2 m.length (u8s m)) (hm : 0 < m.length) (hl : L.length + m.length ≤ 1000000) (ty : TypeId) :
    ∃ A' c' w1, (Builtin.append_ #[38, 38] ty #[.slice A L.length c, .slice A2 m.length c2]).run Try.prog w = .ok (.slice A' (L.length + m.length) c') w1 ∧
      w1.ownsRow B 5 1 (.slice A' (L ++ m).length c') (L ++ m).length (u8s (L ++ m)) ∧ w.grownBy w1 (Value.slice A L.length c).ownBlock ∧ ((Value.slice A' (L ++ m).length c').ownBlock = (Value.slice A L.length c).ownBlock ∨ (Value.slice A' (L ++ m).length c').ownBlock = some w.heap.size) := by
  obtain ⟨i, hi, hz, hs, hb⟩ := info_parts pen_info
  obtain ⟨ad, rfl, hc⟩ := hr.src (by rw [u8s_length]; exact hm)
  obtain ⟨v', w1, hrun, h2, h3, _, h5⟩ := run_append_own_at (P := Try.prog) w B 38 ty 5 i (.int .u8 0) 1 1 Try.underlying38 hi hz hs hb rfl (by omega) (.slice A L.length c) L.length (u8s L) ho
    ad m.length c2 (u8s m) (by rw [u8s_length]; omega) hc (u8s_one m) (by unfold maxLen; omega) (by omega) hB
  obtain ⟨A', c', rfl, _⟩ := owns_slice h2
  rw [List.length_append]
  exact ⟨A', c', w1, hrun, by rw [u8s_append]; exact h2, h3, h5⟩

theorem SW.step {B bp : Nat} {r r2 : Option Nat} {A A' : Option Addr} {c c' : Nat} {L m : List Nat} {w0 wr w1 w2 w3 : World} (h : SW B bp r A c L w0 wr) (hb : Below wr.heap.size wr w1) (k : PenRel w1 bp r w2 r2 (L ++ m))
    (hrow : w3.ownsRow B 5 1 (.slice A' (L ++ m).length c') (L ++ m).length (u8s (L ++ m))) (hg : w2.grownBy w3 (Value.slice A L.length c).ownBlock) (hat : (Value.slice A' (L ++ m).length c').ownBlock = (Value.slice A L.length c).ownBlock ∨ (Value.slice A' (L ++ m).length c').ownBlock = some w2.heap.size) : SW B bp r2 A' c' (L ++ m) w0 w3 := by
  have hBw : B ≤ wr.heap.size := Nat.le_trans h.bpB (Nat.le_of_lt h.pen.lt.1)
  have hne2 : ∀ q, (Value.slice A L.length c).ownBlock = some q → ¬ penS bp r2 q := by
    intro q hq
    have hq1 := h.ne q hq
    have hlt := (h.row.lt q hq).2
    rintro (e | e)
    · exact hq1 (.inl e)
    · rcases k.2.2 with e2 | ⟨p, e2, hp⟩
      · exact hq1 (.inr (e.trans e2))
      · rw [e2] at e; injection e with e; have := hb.size; omega
  have hpl := k.1.lt
  obtain ⟨kb, kf⟩ := k.keeps (h.below.trans (hb.mono hBw)) (Nat.le_trans hBw hb.size) h.bpB h.fresh
  refine ⟨k.1.off (Off.of_grown hg) (fun q _ hs => hne2 q hs.symm), hrow, fun q hq => ?_, ?_, kf, h.bpB⟩
  · rcases hat with e | e
    · exact hne2 q (e.symm.trans hq)
    · rw [e] at hq; injection hq with hq
      rintro (e | e)
      · omega
      · have := hpl.2 q e.symm; omega
  · exact kb.grown hg (by have := k.2.1.size; have := hb.size; omega) (fun q hq => (h.row.lt q hq).1)

theorem SW.start {w : World} {B : Nat} {w0 : World} (hb : Below B w0 w) (hB : B ≤ w.heap.size) : SW B w.heap.size none none 0 [] w0 (w.alloc (.cells #[.slice none 0 0] 40)) :=
  ⟨pen_new w, World.ownsRow_nil _ _ _ _, fun k hk => (by cases hk), hb.alloc hB _, fun _ h => (by cases h), hB⟩

def itAll (xs : List It) : List Nat := xs.flatMap itBytes
theorem itAll_take (xs : List It) (j : Nat) (h : j < xs.length) : itAll (xs.take (j + 1)) = itAll (xs.take j) ++ itBytes xs[j] := flat_take itBytes xs j h
theorem itAll_len (xs : List It) (h : ∀ x ∈ xs, x.text.size ≤ 300) : (itAll xs).length ≤ 311 * xs.length := by
  unfold itAll
  induction xs with
  | nil => simp
  | cons x xs ih =>
    rw [List.flatMap_cons, List.length_append, List.length_cons]
    have h1 := (itBytes_len x).2
    have h2 := h x (by simp)
    have h3 := ih (fun y hy => h y (by simp [hy]))
    omega

set_option maxRecDepth 100000 in
set_option maxHeartbeats 4000000 in
theorem sipwrites_any (A : Option Addr) (c : Nat) (xs : List It) (w : World) (h : Its w A xs) (hx : ∀ x ∈ xs, ItOk x) (hl : xs.length ≤ 9223372036854775807) :
    Calls Try.prog 4 #[.slice A xs.length c] w (Ret (.bool true) w) := by
  go_enter Try.func4, Try.ntmps4
  go_wp2_with fail
  refine (light01_any A c xs w h hx hl).mono ?_
  rintro e w1 ⟨rfl, hb1⟩
  cases hli : light01 xs
  · clear hli
    go_wp2_with fail
    refine (lives01_any _).mono ?_
    rintro e w2 ⟨rfl, hb2⟩
    go_wp2_with fail
    go_ret
    exact ⟨rfl, below_of hb1 hb2⟩
  · have HL := Lib.hid (light01_spec hli)
    have HS := Lib.hid (SW.start hb1 hb1.size)
    have hbp : w.heap.size ≤ w1.heap.size := hb1.size
    clear hli
    go_wp2_with fail
    generalize w1.alloc (.cells #[.slice none 0 0] 40) = w2 at HS ⊢
    generalize w1.heap.size = bp at HS hbp ⊢
    clear hb1
    go_loopw [4, 6, 13] (fun want _ i wr => ∃ (j : Nat) (r A' : Option Nat) (V : Option Addr) (cv : Nat), i = .int .i64 j ∧ want = .slice V (itAll (xs.take j)).length cv ∧ Hid (j ≤ xs.length ∧ SW w.heap.size bp r V cv (itAll (xs.take j)) w wr)) (fun _ _ i _ => xs.length - (intOf i).toNat)
    case atStart => exact ⟨0, none, none, none, 0, rfl, rfl, Nat.zero_le _, HS.out⟩
    case round =>
      obtain ⟨j, r, _, V, cv, rfl, rfl, H⟩ := hrel
      by_cases hlt : j < xs.length
      · obtain ⟨b, off, rfl, hbl, d0, d1, d2, d3, d4⟩ := (h.up (H.out.2.below)).at_ hlt
        have hok := hx _ (List.getElem_mem hlt)
        have htx := HL.out.1 _ (List.getElem_mem hlt)
        have HT := Lib.hid (itAll_take xs j hlt)
        have hlen := itAll_len (xs.take j) (fun x hxm => HL.out.1 x (List.mem_of_mem_take hxm))
        rw [List.length_take] at hlen
        have hlen2 : (itAll (xs.take j)).length ≤ 20000 := by have := HL.out.2; omega
        generalize itAll (xs.take j) = L at H HT hlen2 ⊢
        clear hlen
        generalize hxj : xs[j] = x at d0 d1 d2 d3 d4 hok htx HT
        clear hxj
        have HB := Lib.hid (below_alloc wr (.cells (itCells x) 42))
        have HW := Lib.hid (write_any bp r L x (wr.alloc (.cells (itCells x) 42)) (H.out.2.pen.below HB.out) hok (by omega) (by omega))
        obtain ⟨kind, num, int, text, most⟩ := x
        simp only [] at d0 d1 d2 d3 d4 htx
        simp only [itCells] at HB HW
        have HK := Lib.hid (And.intro hok htx)
        clear hok htx
        go_wp2_with fail
        refine HW.out.mono ?_
        rintro e w3 ⟨A2, c2, r2, rfl, hrd, hrel3⟩
        have hil := itBytes_len ⟨kind, num, int, text, most⟩
        simp only [] at hil
        generalize itBytes ⟨kind, num, int, text, most⟩ = m at hil hrd hrel3 HT ⊢
        have htx := HK.out.2
        have hso := SW.up H.out.2 HB.out
        have hpw := hso.pen.lt
        have hB3 : w.heap.size ≤ w3.heap.size := by have := hrel3.2.1.size; have := hso.bpB; omega
        have ho3 : w3.ownsRow w.heap.size 5 1 (.slice V L.length cv) L.length (u8s L) := owns_off hso.row hrel3.2.1 hso.ne
        obtain ⟨A', c', w4, hrun, h2, h3, h5⟩ := want_push (c2 := c2) ho3 hB3 hrd (by omega) (by omega) 38
        have Hrun := Lib.hid hrun
        have HN := Lib.hid (And.intro (H.out.2.step HB.out hrel3 h2 h3 h5) hil)
        clear hrun h2 h3 h5 ho3 hB3 hpw hso hrd hrel3 hil htx HW HB
        go_upto_region 9 with (at_builtin; refine wpList_append_run rfl (.tmp 17) (.tmp 19) 38 rfl rfl rfl Hrun.out ?_)
        have hl2 : L.length + m.length = (L ++ m).length := by rw [List.length_append]
        have hL2 : (L ++ m).length ≤ 30000 := by have := HN.out.2; have := HK.out.2; rw [List.length_append]; omega
        rw [hl2]
        clear Hrun hl2
        generalize L ++ m = L2 at HN HT hL2 ⊢
        go_cut [31] (fun s wx => s = .bool false ∧ Below w4.heap.size w4 wx)
        case first =>
          have hcur : Below w4.heap.size w4 w4.drew := Below.drew (Below.refl _ _)
          have hc1 := made_conv (SW.up HN.out.1 hcur).row
          first | go_region_with (first | (go_at_call 27; refine (penlen_any bp r2 L2 _ (SW.up HN.out.1 hcur).pen (by omega)).mono ?_; rintro e wn ⟨rfl, rfl⟩) | (go_at_call 28; refine (penbytes_any bp r2 L2 _ (SW.up HN.out.1 hcur).pen (by omega)).mono ?_; rintro e wn ⟨A3, c3, rfl, ho3, hb3⟩; replace hcur := below_of hcur hb3; have hc2 := made_conv ho3; have hc1' := made_conv (SW.up HN.out.1 hcur).row)) | fail
          all_goals
            go_wp2_with fail
            go_meet
            exact ⟨rfl, hcur⟩
        case rest =>
          obtain ⟨rfl, hbx⟩ := hcut
          go_wp2_with fail
          go_round
          case rel =>
            refine ⟨j + 1, r2, none, A', c', by go_num, by rw [HT.out], by omega, ?_⟩
            rw [HT.out]
            exact SW.up HN.out.1 hbx
          case measure => simp [intOf]; omega
      · go_wp2_with fail
        refine (lives01_any _).mono ?_
        rintro e w3 ⟨rfl, hb3⟩
        go_wp2_with fail
        go_ret
        exact ⟨rfl, below_of H.out.2.below hb3⟩

end Go.Proofs.Ythbafbgnclpbpaa

namespace Go.Proofs.Ythbafbgnclpbpaa
open Go.RowKit

theorem eyeUp_dig {n top : Nat} (h : n < 18446744073709551616) (ht : n ≤ top) (r : List Nat) : eyeUp top (dig n ++ r) 0 = (n, r, 0) := by
  have e : eyeDig (dig n ++ r) 0 = (n, true, r, 0) := by
    unfold eyeDig
    rw [if_pos rfl, scan_back h r]
    simp
  unfold eyeUp
  rw [e, if_pos rfl, if_neg (by omega)]
theorem bstr_tb (s : ByteArray) : bstr (tb s) = s := by
  unfold bstr tb
  rw [List.map_map]
  have : (UInt8.ofNat ∘ fun x : UInt8 => x.toNat) = id := by funext x; simp
  rw [this, List.map_id]
theorem eyeTxt_tb {s : ByteArray} (h : s.size ≤ 100000) (r : List Nat) : eyeTxt (s.size : Int) (dig s.size ++ tb s ++ r) 0 = (s, r, 0) := by
  have e : eyeUp (s.size : Int).toNat (dig s.size ++ tb s ++ r) 0 = (s.size, tb s ++ r, 0) := by
    rw [List.append_assoc]
    exact eyeUp_dig (by omega) (by simp) _
  have h1 : (tb s).length = s.size := tb_length s
  unfold eyeTxt
  rw [e, if_neg (by omega), if_neg (by simp only [List.length_append]; omega)]
  simp only []
  rw [← h1, List.take_left, List.drop_left, bstr_tb]
theorem itBytes_lt {x : It} (h : ItOk x) : ∀ b ∈ itBytes x, b < 256 := by
  intro b hb
  unfold itBytes at hb
  split at hb
  · exact dig_lt (turn_lt h.int) b hb
  · split at hb
    · simp at hb; omega
    · split at hb
      · rw [List.mem_append] at hb
        rcases hb with hb | hb
        · exact dig_lt (by have := h.text; unfold maxLen at this; omega) b hb
        · simp [tb] at hb
          obtain ⟨u, _, rfl⟩ := hb
          exact u.toNat_lt
      · exact dig_lt h.num b hb
theorem itAll_lt {xs : List It} (h : ∀ x ∈ xs, ItOk x) : ∀ b ∈ itAll xs, b < 256 := by
  intro b hb
  simp [itAll] at hb
  obtain ⟨x, hx, hb⟩ := hb
  exact itBytes_lt (h x hx) b hb
theorem owns_cap {w : World} {B : Nat} {e : TypeId} {s n c : Nat} {A : Option Addr} {xs : List Value} (h : w.ownsRow B e s (.slice A n c) n xs) : n ≤ c := by
  rcases h.2 with ⟨e, h0⟩ | ⟨g, cap, cur, e, _, _, hnc, _⟩
  · injection e with _ e1 e2; omega
  · injection e with _ e1 e2; omega

set_option maxRecDepth 100000 in
set_option maxHeartbeats 8000000 in
theorem sipback_any (A : Option Addr) (c : Nat) (xs : List It) (w : World) (h : Its w A xs) (hx : ∀ x ∈ xs, ItOk x) (hl : xs.length ≤ 9223372036854775807) :
    Calls Try.prog 6 #[.slice A xs.length c] w (Ret (.bool true) w) := by
  go_enter Try.func6, Try.ntmps6
  go_wp2_with fail
  refine (light01_any A c xs w h hx hl).mono ?_
  rintro e w1 ⟨rfl, hb1⟩
  cases hli : light01 xs
  · clear hli
    go_wp2_with fail
    refine (lives01_any _).mono ?_
    rintro e w2 ⟨rfl, hb2⟩
    go_wp2_with fail
    go_ret
    exact ⟨rfl, below_of hb1 hb2⟩
  · have HL := Lib.hid (light01_spec hli)
    have HS := Lib.hid (And.intro (pen_new w1) (below_of hb1 (below_alloc w1 (.cells #[.slice none 0 0] 40))))
    have hbp : w.heap.size ≤ w1.heap.size := hb1.size
    clear hli
    go_wp2_with fail
    generalize w1.alloc (.cells #[.slice none 0 0] 40) = w2 at HS ⊢
    generalize w1.heap.size = bp at HS hbp ⊢
    clear hb1
    go_loopw [5, 16] (fun _ i wr => ∃ (j : Nat) (r : Option Nat), i = .int .i64 j ∧ Hid (j ≤ xs.length ∧ PenAt wr bp r (itAll (xs.take j)) ∧ Below w.heap.size w wr ∧ ∀ q, r = some q → w.heap.size ≤ q)) (fun _ i _ => xs.length - (intOf i).toNat)
    case atStart => exact ⟨0, none, rfl, Nat.zero_le _, HS.out.1, HS.out.2, fun q hq => by cases hq⟩
    case round =>
      obtain ⟨j, r, rfl, H⟩ := hrel
      by_cases hlt : j < xs.length
      · obtain ⟨b, off, rfl, hbl, d0, d1, d2, d3, d4⟩ := (h.up (H.out.2.2.1)).at_ hlt
        have hok := hx _ (List.getElem_mem hlt)
        have htx := HL.out.1 _ (List.getElem_mem hlt)
        have HT := Lib.hid (itAll_take xs j hlt)
        have hlen := itAll_len (xs.take j) (fun x hxm => HL.out.1 x (List.mem_of_mem_take hxm))
        rw [List.length_take] at hlen
        have hlen2 : (itAll (xs.take j)).length ≤ 20000 := by have := HL.out.2; omega
        generalize itAll (xs.take j) = L at H HT hlen2 ⊢
        clear hlen
        generalize hxj : xs[j] = x at d0 d1 d2 d3 d4 hok htx HT
        clear hxj
        have HB := Lib.hid (below_alloc wr (.cells (itCells x) 42))
        have HW := Lib.hid (write_any bp r L x (wr.alloc (.cells (itCells x) 42)) (H.out.2.1.below HB.out) hok (by omega) (by omega))
        obtain ⟨kind, num, int, text, most⟩ := x
        simp only [] at d0 d1 d2 d3 d4 htx
        simp only [itCells] at HB HW
        clear hok htx
        go_wp2_with fail
        refine HW.out.mono ?_
        rintro e w3 ⟨A2, c2, r2, rfl, hrd, hrel3⟩
        have hrel4 := PenRel.of_below HB.out hrel3
        have K := hrel4.keeps H.out.2.2.1 H.out.2.2.1.size hbp H.out.2.2.2
        have HN := Lib.hid (And.intro hrel4.1 K)
        clear hrd hrel3 hrel4 K HW HB
        go_wp2_with fail
        go_roundw
        case rel =>
          refine ⟨j + 1, r2, by go_num, by omega, ?_, HN.out.2⟩
          rw [HT.out]
          exact HN.out.1
        case measure => simp [intOf]; omega
      · have hj : j = xs.length := by have := H.out.1; omega
        subst hj
        have hH := H.out
        rw [List.take_length] at hH
        have H' := Lib.hid hH
        clear hH H
        have hlen := itAll_len xs HL.out.1
        have hlen2 : (itAll xs).length ≤ 20000 := by have := HL.out.2; omega
        have HLT := Lib.hid (itAll_lt hx)
        clear hlen
        go_wp2_with fail
        refine (penbytes_any bp r _ _ H'.out.2.1 (by omega)).mono ?_
        rintro e w4 ⟨A3, c3, rfl, ho3, hb3⟩
        have HM := Lib.hid (And.intro (Rd.of_own ho3) (And.intro (owns_cap ho3) (below_of H'.out.2.2.1 hb3)))
        clear ho3 hb3 H'
        go_wp2_with fail
        refine (eyelook_any A3 c3 _ _ HM.out.1 HM.out.2.1).mono ?_
        rintro e w5 ⟨rfl, hE, hb5⟩
        have hep : w.heap.size ≤ w4.heap.size := HM.out.2.2.size
        have HE := Lib.hid (And.intro hE (below_of HM.out.2.2 hb5))
        clear hE hb5 HM
        generalize w4.heap.size = ep at HE hep ⊢
        generalize srcOf A3 (itAll xs) = sb at HE
        go_wp2_with fail
        go_loopw [8, 9, 27] (fun _ _ i wr => ∃ (j : Nat), i = .int .i64 j ∧ Hid (j ≤ xs.length ∧ EyeAt wr ep sb (itAll (xs.drop j)) 0 ∧ Below w.heap.size w wr)) (fun _ _ i _ => xs.length - (intOf i).toNat)
        case atStart => exact ⟨0, rfl, Nat.zero_le _, HE.out.1, HE.out.2⟩
        case round =>
          obtain ⟨j, rfl, H⟩ := hrel
          by_cases hlt : j < xs.length
          · obtain ⟨b, off, rfl, hbl, d0, d1, d2, d3, d4⟩ := (h.up (H.out.2.2)).at_ hlt
            have hok := hx _ (List.getElem_mem hlt)
            have htx := HL.out.1 _ (List.getElem_mem hlt)
            have hT : itAll (xs.drop j) = itBytes xs[j] ++ itAll (xs.drop (j + 1)) := by rw [List.drop_eq_getElem_cons hlt]; rfl
            have hlt256 : ∀ y ∈ itBytes xs[j] ++ itAll (xs.drop (j + 1)), y < 256 := by
              rw [← hT]
              exact itAll_lt (fun x hxm => hx x (List.mem_of_mem_drop hxm))
            have hlen := itAll_len (xs.drop j) (fun x hxm => HL.out.1 x (List.mem_of_mem_drop hxm))
            rw [hT, List.length_drop] at hlen
            have hlen4 : (itBytes xs[j] ++ itAll (xs.drop (j + 1))).length ≤ 1000000 := by have := HL.out.2; omega
            have hH := H.out
            rw [hT] at hH
            generalize hR : itAll (xs.drop (j + 1)) = R at hH hlt256 hlen4
            have HR := Lib.hid hR
            clear hT hlen hR
            generalize hxj : xs[j] = x at d0 d1 d2 d3 d4 hok htx hH hlt256 hlen4
            clear hxj
            obtain ⟨kind, num, int, text, most⟩ := x
            simp only [] at d0 d1 d2 d3 d4 htx
            have hba := below_alloc wr (.cells (itCells ⟨kind, num, int, text, most⟩) 42)
            have e0 : (wr.alloc (.cells (itCells ⟨kind, num, int, text, most⟩) 42)).cell? ⟨wr.heap.size, 0, none⟩ = some (.int .i64 kind) := new_cell wr _ _ 0 _ rfl
            have e1 : (wr.alloc (.cells (itCells ⟨kind, num, int, text, most⟩) 42)).cell? ⟨wr.heap.size, 1, none⟩ = some (.int .u64 (num : Int)) := new_cell wr _ _ 1 _ rfl
            have e2 : (wr.alloc (.cells (itCells ⟨kind, num, int, text, most⟩) 42)).cell? ⟨wr.heap.size, 2, none⟩ = some (.int .i64 int) := new_cell wr _ _ 2 _ rfl
            have e3 : (wr.alloc (.cells (itCells ⟨kind, num, int, text, most⟩) 42)).cell? ⟨wr.heap.size, 3, none⟩ = some (.string text) := new_cell wr _ _ 3 _ rfl
            have hbx : wr.heap.size < (wr.alloc (.cells (itCells ⟨kind, num, int, text, most⟩) 42)).heap.size := by simp
            have hbe : wr.heap.size ≠ ep := by have := hH.2.1.lt; omega
            have HK := Lib.hid (And.intro hok (And.intro htx (And.intro hlt256 hlen4)))
            have HE1 := Lib.hid (And.intro (hH.2.1.below hba) (And.intro (below_of hH.2.2 hba) hH.1))
            simp only [itCells] at e0 e1 e2 e3 hbx HE1
            have HX := Lib.hid (And.intro hbx hbe)
            have hib : itBytes ⟨kind, num, int, text, most⟩ = if kind = 1 then dig (turn int) else if kind = 2 then [num % 2] else if kind = 3 then dig text.size ++ tb text else dig num := rfl
            clear hok htx hH hba hbx hbe hlt256 hlen4 H
            by_cases k1 : kind = 1
            · rw [if_pos k1] at hib
              rw [hib] at HE1 HK
              clear hib
              subst k1
              go_upto_region 17 with fail
              generalize wr.alloc _ = W1 at HE1 HX e0 e1 e2 e3 ⊢
              first | go_region_with (go_at_call 36; refine (EyeTo.to (eyeint_any ep sb (dig (turn int) ++ R) 0 _ (HE1.out.1.below (Below.drew (Below.refl _ _))) HK.out.2.2.1 HK.out.2.2.2) (by rw [eyeUp_dig (turn_lt HK.out.1.int) (by have := turn_lt HK.out.1.int; omega), back_turn _ HK.out.1.int]) (by rw [eyeUp_dig (turn_lt HK.out.1.int) (by have := turn_lt HK.out.1.int; omega)]) (by rw [eyeUp_dig (turn_lt HK.out.1.int) (by have := turn_lt HK.out.1.int; omega)])).mono ?_; rintro e wn ⟨rfl, hE, hO⟩; have f1 := (hO.cell (p := ⟨wr.heap.size, 1, none⟩) HX.out.1 HX.out.2).trans e1; have f2 := (hO.cell (p := ⟨wr.heap.size, 2, none⟩) HX.out.1 HX.out.2).trans e2; have f3 := (hO.cell (p := ⟨wr.heap.size, 3, none⟩) HX.out.1 HX.out.2).trans e3) | fail
              all_goals
                have HF := Lib.hid (And.intro hE (hO.below (HE1.out.2.1.drew) HE1.out.2.1.size (fun q hq e => by omega)))
                clear hE hO
                go_wp2_with fail
                go_roundw
                case rel =>
                  refine ⟨j + 1, by go_num, by omega, ?_, HF.out.2⟩
                  rw [HR.out]
                  exact HF.out.1
                case measure => simp [intOf]; omega
            · rw [if_neg k1] at hib
              have k1b : (kind == (1 : Int)) = false := by simp [k1]
              by_cases k2 : kind = 2
              · rw [if_pos k2] at hib
                rw [hib, ← dig_small (show num % 2 < 128 by omega)] at HE1 HK
                clear hib
                subst k2
                clear k1 k1b
                have hb2 : decide (num % 2 = 1) = ((num : Int) % 2 == 1) := by rw [Bool.eq_iff_iff, decide_eq_true_iff, beq_iff_eq]; omega
                have HB2 := Lib.hid hb2
                clear hb2
                go_upto_region 19 with fail
                generalize wr.alloc _ = W1 at HE1 HX e0 e1 e2 e3 ⊢
                first | go_region_with (go_at_call 37; refine (EyeTo.to (eyetruth_any ep sb (dig (num % 2) ++ R) 0 _ (HE1.out.1.below (Below.drew (Below.refl _ _))) HK.out.2.2.1 HK.out.2.2.2) (by rw [eyeUp_dig (by omega) (by omega), HB2.out]) (by rw [eyeUp_dig (by omega) (by omega)]) (by rw [eyeUp_dig (by omega) (by omega)])).mono ?_; rintro e wn ⟨rfl, hE, hO⟩; have f1 := (hO.cell (p := ⟨wr.heap.size, 1, none⟩) HX.out.1 HX.out.2).trans e1; have f2 := (hO.cell (p := ⟨wr.heap.size, 2, none⟩) HX.out.1 HX.out.2).trans e2; have f3 := (hO.cell (p := ⟨wr.heap.size, 3, none⟩) HX.out.1 HX.out.2).trans e3) | fail
                all_goals
                  have HF := Lib.hid (And.intro hE (hO.below (HE1.out.2.1.drew) HE1.out.2.1.size (fun q hq e => by omega)))
                  clear hE hO
                  go_wp2_with fail
                  go_roundw
                  case rel =>
                    refine ⟨j + 1, by go_num, by omega, ?_, HF.out.2⟩
                    rw [HR.out]
                    exact HF.out.1
                  case measure => simp [intOf]; omega
              · rw [if_neg k2] at hib
                have k2b : (kind == (2 : Int)) = false := by simp [k2]
                by_cases k3 : kind = 3
                · rw [if_pos k3] at hib
                  rw [hib] at HE1 HK
                  clear hib
                  subst k3
                  clear k1 k1b k2 k2b
                  have hts : text.size ≤ 9223372036854775807 := HK.out.1.text
                  go_upto_region 21 with fail
                  generalize wr.alloc _ = W1 at HE1 HX e0 e1 e2 e3 ⊢
                  first | go_region_with (go_at_call 34; refine (EyeTo.to (eyetext_any ep sb (dig text.size ++ tb text ++ R) 0 (text.size : Int) _ (HE1.out.1.below (Below.drew (Below.refl _ _))) HK.out.2.2.1 HK.out.2.2.2 (by have := HK.out.2.1; omega)) (by rw [eyeTxt_tb (by have := HK.out.2.1; omega)]) (by rw [eyeTxt_tb (by have := HK.out.2.1; omega)]) (by rw [eyeTxt_tb (by have := HK.out.2.1; omega)])).mono ?_; rintro e wn ⟨rfl, hE, hO⟩; have f1 := (hO.cell (p := ⟨wr.heap.size, 1, none⟩) HX.out.1 HX.out.2).trans e1; have f2 := (hO.cell (p := ⟨wr.heap.size, 2, none⟩) HX.out.1 HX.out.2).trans e2; have f3 := (hO.cell (p := ⟨wr.heap.size, 3, none⟩) HX.out.1 HX.out.2).trans e3) | fail
                  all_goals
                    have HF := Lib.hid (And.intro hE (hO.below (HE1.out.2.1.drew) HE1.out.2.1.size (fun q hq e => by omega)))
                    clear hE hO
                    go_wp2_with fail
                    go_roundw
                    case rel =>
                      refine ⟨j + 1, by go_num, by omega, ?_, HF.out.2⟩
                      rw [HR.out]
                      exact HF.out.1
                    case measure => simp [intOf]; omega
                · rw [if_neg k3] at hib
                  have k3b : (kind == (3 : Int)) = false := by simp [k3]
                  rw [hib] at HE1 HK
                  clear hib k1 k2 k3
                  go_upto_region 15 with fail
                  generalize wr.alloc _ = W1 at HE1 HX e0 e1 e2 e3 ⊢
                  first | go_region_with (go_at_call 30; refine (EyeTo.to (eyenum_any ep sb (dig num ++ R) 0 num _ (HE1.out.1.below (Below.drew (Below.refl _ _))) HK.out.2.2.1 HK.out.2.2.2) (by rw [eyeUp_dig HK.out.1.num (Nat.le_refl _)]) (by rw [eyeUp_dig HK.out.1.num (Nat.le_refl _)]) (by rw [eyeUp_dig HK.out.1.num (Nat.le_refl _)])).mono ?_; rintro e wn ⟨rfl, hE, hO⟩; have f1 := (hO.cell (p := ⟨wr.heap.size, 1, none⟩) HX.out.1 HX.out.2).trans e1; have f2 := (hO.cell (p := ⟨wr.heap.size, 2, none⟩) HX.out.1 HX.out.2).trans e2; have f3 := (hO.cell (p := ⟨wr.heap.size, 3, none⟩) HX.out.1 HX.out.2).trans e3) | fail
                  all_goals
                    have HF := Lib.hid (And.intro hE (hO.below (HE1.out.2.1.drew) HE1.out.2.1.size (fun q hq e => by omega)))
                    clear hE hO
                    go_wp2_with fail
                    go_roundw
                    case rel =>
                      refine ⟨j + 1, by go_num, by omega, ?_, HF.out.2⟩
                      rw [HR.out]
                      exact HF.out.1
                    case measure => simp [intOf]; omega
          · have hj2 : xs.drop j = [] := List.drop_eq_nil_of_le (by omega)
            have hH := H.out
            rw [hj2] at hH
            have H' := Lib.hid hH
            clear hH H hj2
            go_wp2_with fail
            refine (eyeclose_any ep sb [] 0 _ H'.out.2.1 (by decide)).mono ?_
            rintro e w6 ⟨rfl, rfl⟩
            have hcl : eyeClose [] 0 = 0 := by decide
            rw [hcl]
            go_wp2_with fail
            refine (lives01_any _).mono ?_
            rintro e w7 ⟨rfl, hb7⟩
            go_wp2_with fail
            go_ret
            exact ⟨rfl, below_of H'.out.2.2 hb7⟩

end Go.Proofs.Ythbafbgnclpbpaa
