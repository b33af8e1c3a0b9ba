/- The reference of layer 13: entries. -/
import Derived.Test.YtcoiadncennhpaaInPut
import Derived.Test.YtcoiadncennhpaaHalPl
namespace Go.Proofs.Ytcoiadncennhpaa
open Go.RowKit

/-- The part of a row from a place on up to another one. -/
def seg {α : Type} (l : List α) (a b : Nat) : List α := (l.take b).drop a
theorem seg_len {α : Type} {l : List α} {a b : Nat} (h : b ≤ l.length) : (seg l a b).length = b - a := by
  unfold seg; rw [List.length_drop, List.length_take]; omega
theorem seg_nil {α : Type} (l : List α) (a : Nat) : seg l a a = [] := by
  unfold seg; rw [List.drop_eq_nil_iff, List.length_take]; omega
theorem seg_push {α : Type} (l : List α) (a j : Nat) (ha : a ≤ j) (hj : j < l.length) : seg l a j ++ [l[j]] = seg l a (j + 1) := by
  unfold seg
  rw [List.take_add_one, List.getElem?_eq_getElem hj, Option.toList, List.drop_append_of_le_length (by rw [List.length_take]; omega)]
theorem seg_left {α : Type} (l : List α) (b : Nat) : seg l 0 b = l.take b := by unfold seg; rw [List.drop_zero]
theorem seg_right {α : Type} (l : List α) (a b : Nat) (h : l.length ≤ b) : seg l a b = l.drop a := by unfold seg; rw [List.take_of_length_le h]
theorem seg_mem {α : Type} {l : List α} {a b : Nat} {x : α} (h : x ∈ seg l a b) : x ∈ l := List.mem_of_mem_take (List.mem_of_mem_drop h)
theorem fits_seg {ss : List ByteArray} (h : Fits ss) (a b : Nat) : Fits (seg ss a b) := by
  intro j hj
  have := seg_mem (List.getElem_mem hj)
  generalize (seg ss a b)[j] = x at this ⊢
  obtain ⟨q, hq, rfl⟩ := List.getElem_of_mem this
  exact h q hq

/-- A node's entries from a place on up to another one. -/
def entN (d : Nd) (a b : Nat) : Nd := ⟨d.level, d.low, d.high, d.last, d.next, seg d.keys a b, if d.level = 0 then seg d.vals a b else [], if d.level = 0 then [] else seg d.kids a b⟩

set_option maxRecDepth 100000 in
set_option maxHeartbeats 16000000 in
theorem refent_leaf (d : Nd) (p q : Nat) (A B C : Option Addr) (ca cb cc : Nat) (w : World) (h : Lies w d A B C ca cb cc) (hl : d.level = 0) (hv : d.vals.length = d.keys.length) (hpq : p ≤ q) (hq : q ≤ d.keys.length) (hm : d.keys.length ≤ 1000) :
    Calls Try.prog 132 #[.agg (ndCells d A B C ca cb cc), .int .i64 (p : Int), .int .i64 (q : Int)] w (NOneF (entN d p q) w) := by
  have hO := Ow.start (Sx.start2 w (.cells (ndCells d A B C ca cb cc) 26) (.cells #[.int .i64 0, .string ⟨#[]⟩, .string ⟨#[]⟩, .bool false, .int .i64 0, .slice none 0 0, .slice none 0 0, .slice none 0 0] 26))
  have H00 := Lib.hid h
  have hen : entN d p q = ⟨d.level, d.low, d.high, d.last, d.next, seg d.keys p q, seg d.vals p q, []⟩ := by unfold entN; rw [if_pos hl, if_pos hl]
  generalize entN d p q = en at hen ⊢
  obtain ⟨level, nlow, high, last, next, keys, vals, kids⟩ := d
  simp only [] at hl hv hq hm hen
  subst hl
  have HEN := Lib.hid hen
  have HN := Lib.hid (And.intro hv (And.intro hpq (And.intro hq hm)))
  clear hen h hv
  simp only [ndCells] at hO ⊢
  go_enter Try.func132, Try.ntmps132
  go_upto_region 1 with fail
  generalize (w.alloc _).alloc _ = W at hO ⊢
  obtain ⟨x0, x1, x2, x3, x4, x5, x6, x7, f0, f1, f2, f3, f4, f5, f6, f7⟩ := nd_facts (hO.sx.has 0 _ _ rfl).1
  have HO := Lib.hid hO
  clear hO
  go_upto_region 5 with fail
  have hO := HO.out.setc 0 rfl 5 (.slice none 0 0)
  simp only [List.set_cons_zero, List.set_cons_succ] at hO
  generalize World.setCell _ _ _ = W5 at hO ⊢
  replace HO := Lib.hid hO
  clear hO
  clear x0 x1 x2 x3 x4 x5 x6 x7 f0 f1 f2 f3 f4 f5 f6 f7
  obtain ⟨x0, x1, x2, x3, x4, x5, x6, x7, f0, f1, f2, f3, f4, f5, f6, f7⟩ := nd_facts (HO.out.sx.has 0 _ _ rfl).1
  go_upto_region 6 with fail
  have hO := HO.out.setc 0 rfl 6 (.slice none 0 0)
  simp only [List.set_cons_zero, List.set_cons_succ] at hO
  generalize World.setCell _ _ _ = W6 at hO ⊢
  replace HO := Lib.hid hO
  clear hO
  clear x0 x1 x2 x3 x4 x5 x6 x7 f0 f1 f2 f3 f4 f5 f6 f7
  obtain ⟨x0, x1, x2, x3, x4, x5, x6, x7, f0, f1, f2, f3, f4, f5, f6, f7⟩ := nd_facts (HO.out.sx.has 0 _ _ rfl).1
  go_upto_region 7 with fail
  have hO := HO.out.setc 0 rfl 7 (.slice none 0 0)
  simp only [List.set_cons_zero, List.set_cons_succ] at hO
  generalize World.setCell _ _ _ = W7 at hO ⊢
  replace HO := Lib.hid hO
  clear hO
  clear x0 x1 x2 x3 x4 x5 x6 x7 f0 f1 f2 f3 f4 f5 f6 f7
  obtain ⟨x0, x1, x2, x3, x4, x5, x6, x7, f0, f1, f2, f3, f4, f5, f6, f7⟩ := nd_facts (HO.out.sx.has 0 _ _ rfl).1
  replace HO := Lib.hid ((HO.out.nil 9 1).nil 35 1)
  simp only [List.nil_append, List.cons_append] at HO
  have hq63 : q ≤ 1000 := by omega
  go_wp2_with fail
  go_loopw [10] (fun i wr => ∃ (j m : Nat) (A1 B1 : Option Addr) (c1 c2 : Nat), i = .int .i64 j ∧ Hid (p ≤ j ∧ j ≤ q ∧ m = j - p ∧
    Ow w.heap.size w wr [(w.heap.size, .cells #[.int .i64 0, .string nlow, .string high, .bool last, .int .i64 next, .slice A1 m c1, .slice B1 m c2, .slice none 0 0] 26), (w.heap.size + 1, .cells #[.int .i64 0, .string ⟨#[]⟩, .string ⟨#[]⟩, .bool false, .int .i64 0, .slice none 0 0, .slice none 0 0, .slice none 0 0] 26)]
      [⟨9, 1, .slice A1 m c1, m, strs (seg keys p j)⟩, ⟨35, 1, .slice B1 m c2, m, u64s (seg vals p j)⟩])) (fun i _ => q - (intOf i).toNat)
  case atStart => exact ⟨p, 0, none, none, 0, 0, rfl, Nat.le_refl _, hpq, by omega, by rw [seg_nil, seg_nil]; exact HO.out⟩
  case round =>
    obtain ⟨j, m, A1, B1, c1, c2, rfl, H⟩ := hrel
    clear HO
    have HO := Lib.hid H.out.2.2.2
    clear x0 x1 x2 x3 x4 x5 x6 x7 f0 f1 f2 f3 f4 f5 f6 f7
    obtain ⟨x0, x1, x2, x3, x4, x5, x6, x7, f0, f1, f2, f3, f4, f5, f6, f7⟩ := nd_facts (HO.out.sx.has 0 _ _ rfl).1
    by_cases hlt : j < q
    · have hjk : j < keys.length := by have := HN.out; omega
      have hjv : j < vals.length := by have := HN.out; omega
      obtain ⟨b, off, rfl, hbB, hc⟩ := RdS.spot H00.out.keys (show 0 < keys.length by omega)
      obtain ⟨b', off', rfl, hbB', hc'⟩ := RdU.spot H00.out.vals (show 0 < vals.length by omega)
      have HB1 := Lib.hid hbB
      have HB2 := Lib.hid hbB'
      have HC1 := Lib.hid (hc j hjk)
      have HC2 := Lib.hid (hc' j hjv)
      have HS1 := Lib.hid (seg_push keys p j H.out.1 hjk)
      have HS2 := Lib.hid (seg_push vals p j H.out.1 hjv)
      have HM := Lib.hid (show m ≤ 1000 by have := H.out; have := HN.out; omega)
      have HJ := Lib.hid (show p ≤ j + 1 ∧ j + 1 ≤ q ∧ m + 1 = j + 1 - p by have := H.out; omega)
      have hj63 : j ≤ 1000 := by omega
      generalize keys[j] = kj at HC1 HS1
      generalize vals[j] = vj at HC2 HS2
      clear hc hc' hbB hbB' H
      go_upto_region 10 with fail
      go_cut [] (fun wx => ∃ A2 c1, Hid (Ow w.heap.size w wx [(w.heap.size, .cells #[.int .i64 0, .string nlow, .string high, .bool last, .int .i64 next, .slice A2 (m + 1) c1, .slice B1 m c2, .slice none 0 0] 26), (w.heap.size + 1, .cells #[.int .i64 0, .string ⟨#[]⟩, .string ⟨#[]⟩, .bool false, .int .i64 0, .slice none 0 0, .slice none 0 0, .slice none 0 0] 26)]
      [⟨9, 1, .slice A2 (m + 1) c1, m + 1, strs (seg keys p (j + 1))⟩, ⟨35, 1, .slice B1 m c2, m, u64s (seg vals p j)⟩]))
      case first =>
        refine wp_region_held_drew (S := fun w' => Below w.heap.size w w') (by kernel_rfl) HO.out.drew.below (fun hcur => ?_)
        (try dsimp only at hcur)
        replace HO := Lib.hid HO.out.drew
        generalize World.drew _ = X at HO hcur ⊢
        clear x0 x1 x2 x3 x4 x5 x6 x7 f0 f1 f2 f3 f4 f5 f6 f7
        obtain ⟨x0, x1, x2, x3, x4, x5, x6, x7, f0, f1, f2, f3, f4, f5, f6, f7⟩ := nd_facts (HO.out.sx.has 0 _ _ rfl).1
        refine wpAnyH_take (i := 0) (v := ?_) rfl (by decide +kernel) (by decide +kernel) (by decide +kernel) (fun _ _ _ h => h) (Or.inl ⟨by rfl, ?hy⟩) hcur ?_
        case hy =>
          intro w1 hSw
          (try dsimp only at hSw)
          have cj := (hSw.cell (p := ⟨b, off + j, none⟩) HB1.out).trans HC1.out
          have dj := (hSw.cell (p := ⟨b', off' + j, none⟩) HB2.out).trans HC2.out
          go_simp
          (try with_reducible rfl)
        (try simp only [Act.put, List.getElem_toArray, List.getElem_cons_zero, List.getElem_cons_succ, List.setIfInBounds_toArray, List.set_cons_zero, List.set_cons_succ])
        refine wpAnyH_take (i := 2) (v := ?_) rfl (by decide +kernel) (by decide +kernel) (by decide +kernel) (fun _ _ _ h => h) (Or.inl ⟨by rfl, ?hy⟩) hcur ?_
        case hy =>
          intro w1 hSw
          (try dsimp only at hSw)
          have cj := (hSw.cell (p := ⟨b, off + j, none⟩) HB1.out).trans HC1.out
          have dj := (hSw.cell (p := ⟨b', off' + j, none⟩) HB2.out).trans HC2.out
          go_simp
          (try with_reducible rfl)
        (try simp only [Act.put, List.getElem_toArray, List.getElem_cons_zero, List.getElem_cons_succ, List.setIfInBounds_toArray, List.set_cons_zero, List.set_cons_succ])
        refine wpAnyH_take (i := 3) (v := ?_) rfl (by decide +kernel) (by decide +kernel) (by decide +kernel) (fun _ _ _ h => h) (Or.inl ⟨by rfl, ?hy⟩) hcur ?_
        case hy =>
          intro w1 hSw
          (try dsimp only at hSw)
          have cj := (hSw.cell (p := ⟨b, off + j, none⟩) HB1.out).trans HC1.out
          have dj := (hSw.cell (p := ⟨b', off' + j, none⟩) HB2.out).trans HC2.out
          go_simp
          (try with_reducible rfl)
        (try simp only [Act.put, List.getElem_toArray, List.getElem_cons_zero, List.getElem_cons_succ, List.setIfInBounds_toArray, List.set_cons_zero, List.set_cons_succ])
        refine wpAnyH_take (i := 4) (v := ?_) rfl (by decide +kernel) (by decide +kernel) (by decide +kernel) (fun _ _ _ h => h) (Or.inl ⟨by rfl, ?hy⟩) hcur ?_
        case hy =>
          intro w1 hSw
          (try dsimp only at hSw)
          have cj := (hSw.cell (p := ⟨b, off + j, none⟩) HB1.out).trans HC1.out
          have dj := (hSw.cell (p := ⟨b', off' + j, none⟩) HB2.out).trans HC2.out
          go_simp
          (try with_reducible rfl)
        (try simp only [Act.put, List.getElem_toArray, List.getElem_cons_zero, List.getElem_cons_succ, List.setIfInBounds_toArray, List.set_cons_zero, List.set_cons_succ])
        refine wpAnyH_take (i := 5) (v := ?_) rfl (by decide +kernel) (by decide +kernel) (by decide +kernel) (fun _ _ _ h => h) (Or.inl ⟨by rfl, ?hy⟩) hcur ?_
        case hy =>
          intro w1 hSw
          (try dsimp only at hSw)
          have cj := (hSw.cell (p := ⟨b, off + j, none⟩) HB1.out).trans HC1.out
          have dj := (hSw.cell (p := ⟨b', off' + j, none⟩) HB2.out).trans HC2.out
          go_simp
          (try with_reducible rfl)
        (try simp only [Act.put, List.getElem_toArray, List.getElem_cons_zero, List.getElem_cons_succ, List.setIfInBounds_toArray, List.set_cons_zero, List.set_cons_succ])
        obtain ⟨A9, c9, W9, hrun, hc9, hO⟩ := HO.out.pushS 0 rfl kj (by have := HM.out; omega)
        simp only [List.set_cons_zero, List.set_cons_succ] at hO
        have Hrun := Lib.hid hrun
        have HP9 := Lib.hid hO
        clear hrun hO
        refine wpAnyH_ready (rs := [1, 6]) (by decide +kernel) (by simp) ?_
        refine AllReadyH.cons rfl (fun K hK => ?_) (AllReadyH.cons rfl (fun K hK => ?_) AllReadyH.nil)
        · go_simp
          refine hK.out _ _ (hcur) (fun hcur2 => ?_)
          clear hK K
          replace hcur := hcur2
          (try dsimp only at hcur)
          clear hcur2
          (try simp only [Act.put, List.getElem_toArray, List.getElem_cons_zero, List.getElem_cons_succ, List.setIfInBounds_toArray, List.set_cons_zero, List.set_cons_succ])
          refine wpAnyH_ready (rs := [6]) (by decide +kernel) (by simp) ?_
          refine AllReadyH.cons rfl (fun K hK => ?_) AllReadyH.nil
          go_simp
          refine hK.out _ _ ((HO.out.call (below_alloc X _)).below) (fun hcur2 => ?_)
          clear hK K
          replace hcur := hcur2
          (try dsimp only at hcur)
          clear hcur2
          (try simp only [Act.put, List.getElem_toArray, List.getElem_cons_zero, List.getElem_cons_succ, List.setIfInBounds_toArray, List.set_cons_zero, List.set_cons_succ])
          refine wpAnyH_ready (rs := [7]) (by decide +kernel) (by simp) ?_
          refine AllReadyH.cons rfl (fun K hK => ?_) AllReadyH.nil
          (try rw [if_pos (by rfl)])
          refine oper_append_run (.tmp 27) (.tmp 32) 22 rfl rfl rfl Hrun.out ?_
          refine hK.out _ _ (HP9.out.below) (fun hcur2 => ?_)
          clear hK K
          replace hcur := hcur2
          (try dsimp only at hcur)
          clear hcur2
          (try simp only [Act.put, List.getElem_toArray, List.getElem_cons_zero, List.getElem_cons_succ, List.setIfInBounds_toArray, List.set_cons_zero, List.set_cons_succ])
          clear HO
          have HO := Lib.hid HP9.out
          clear Hrun HP9
          clear x0 x1 x2 x3 x4 x5 x6 x7 f0 f1 f2 f3 f4 f5 f6 f7
          obtain ⟨x0, x1, x2, x3, x4, x5, x6, x7, f0, f1, f2, f3, f4, f5, f6, f7⟩ := nd_facts (HO.out.sx.has 0 _ _ rfl).1
          refine wpAnyH_take (i := 8) (v := ?_) rfl (by decide +kernel) (by decide +kernel) (by decide +kernel) (fun _ _ _ h => h) (Or.inl ⟨by rfl, ?hy⟩) hcur ?_
          case hy =>
            intro w1 hSw
            (try dsimp only at hSw)
            have cj := (hSw.cell (p := ⟨b, off + j, none⟩) HB1.out).trans HC1.out
            have dj := (hSw.cell (p := ⟨b', off' + j, none⟩) HB2.out).trans HC2.out
            go_simp
            (try with_reducible rfl)
          (try simp only [Act.put, List.getElem_toArray, List.getElem_cons_zero, List.getElem_cons_succ, List.setIfInBounds_toArray, List.set_cons_zero, List.set_cons_succ])
          refine wpAnyH_ready (rs := [9]) (by decide +kernel) (by simp) ?_
          refine AllReadyH.cons rfl (fun K hK => ?_) AllReadyH.nil
          go_simp
          have hO := HO.out.setc 0 rfl 5 (.slice A9 (m + 1) c9)
          simp only [List.set_cons_zero, List.set_cons_succ] at hO
          refine hK.out _ _ (hO.below) (fun hcur2 => ?_)
          clear hK K
          replace hcur := hcur2
          (try dsimp only at hcur)
          clear hcur2
          (try simp only [Act.put, List.getElem_toArray, List.getElem_cons_zero, List.getElem_cons_succ, List.setIfInBounds_toArray, List.set_cons_zero, List.set_cons_succ])
          generalize World.setCell _ _ _ = X9 at hO hcur ⊢
          replace HO := Lib.hid hO
          clear hO
          refine wpAnyH_done (by decide +kernel) ?_ _
          go_wp2_with fail
          (go_meet; exact ⟨A9, c9, Lib.hid (by have := HO.out; rw [HS1.out] at this; exact this)⟩)
        · go_simp
          refine hK.out _ _ ((HO.out.call (below_alloc X _)).below) (fun hcur2 => ?_)
          clear hK K
          replace hcur := hcur2
          (try dsimp only at hcur)
          clear hcur2
          (try simp only [Act.put, List.getElem_toArray, List.getElem_cons_zero, List.getElem_cons_succ, List.setIfInBounds_toArray, List.set_cons_zero, List.set_cons_succ])
          replace HO := Lib.hid (HO.out.call (below_alloc X (.cells #[.string kj] 9)))
          clear x0 x1 x2 x3 x4 x5 x6 x7 f0 f1 f2 f3 f4 f5 f6 f7
          obtain ⟨x0, x1, x2, x3, x4, x5, x6, x7, f0, f1, f2, f3, f4, f5, f6, f7⟩ := nd_facts (HO.out.sx.has 0 _ _ rfl).1
          refine wpAnyH_ready (rs := [1]) (by decide +kernel) (by simp) ?_
          refine AllReadyH.cons rfl (fun K hK => ?_) AllReadyH.nil
          go_simp
          refine hK.out _ _ (hcur) (fun hcur2 => ?_)
          clear hK K
          replace hcur := hcur2
          (try dsimp only at hcur)
          clear hcur2
          (try simp only [Act.put, List.getElem_toArray, List.getElem_cons_zero, List.getElem_cons_succ, List.setIfInBounds_toArray, List.set_cons_zero, List.set_cons_succ])
          refine wpAnyH_ready (rs := [7]) (by decide +kernel) (by simp) ?_
          refine AllReadyH.cons rfl (fun K hK => ?_) AllReadyH.nil
          (try rw [if_pos (by rfl)])
          refine oper_append_run (.tmp 27) (.tmp 32) 22 rfl rfl rfl Hrun.out ?_
          refine hK.out _ _ (HP9.out.below) (fun hcur2 => ?_)
          clear hK K
          replace hcur := hcur2
          (try dsimp only at hcur)
          clear hcur2
          (try simp only [Act.put, List.getElem_toArray, List.getElem_cons_zero, List.getElem_cons_succ, List.setIfInBounds_toArray, List.set_cons_zero, List.set_cons_succ])
          clear HO
          have HO := Lib.hid HP9.out
          clear Hrun HP9
          clear x0 x1 x2 x3 x4 x5 x6 x7 f0 f1 f2 f3 f4 f5 f6 f7
          obtain ⟨x0, x1, x2, x3, x4, x5, x6, x7, f0, f1, f2, f3, f4, f5, f6, f7⟩ := nd_facts (HO.out.sx.has 0 _ _ rfl).1
          refine wpAnyH_take (i := 8) (v := ?_) rfl (by decide +kernel) (by decide +kernel) (by decide +kernel) (fun _ _ _ h => h) (Or.inl ⟨by rfl, ?hy⟩) hcur ?_
          case hy =>
            intro w1 hSw
            (try dsimp only at hSw)
            have cj := (hSw.cell (p := ⟨b, off + j, none⟩) HB1.out).trans HC1.out
            have dj := (hSw.cell (p := ⟨b', off' + j, none⟩) HB2.out).trans HC2.out
            go_simp
            (try with_reducible rfl)
          (try simp only [Act.put, List.getElem_toArray, List.getElem_cons_zero, List.getElem_cons_succ, List.setIfInBounds_toArray, List.set_cons_zero, List.set_cons_succ])
          refine wpAnyH_ready (rs := [9]) (by decide +kernel) (by simp) ?_
          refine AllReadyH.cons rfl (fun K hK => ?_) AllReadyH.nil
          go_simp
          have hO := HO.out.setc 0 rfl 5 (.slice A9 (m + 1) c9)
          simp only [List.set_cons_zero, List.set_cons_succ] at hO
          refine hK.out _ _ (hO.below) (fun hcur2 => ?_)
          clear hK K
          replace hcur := hcur2
          (try dsimp only at hcur)
          clear hcur2
          (try simp only [Act.put, List.getElem_toArray, List.getElem_cons_zero, List.getElem_cons_succ, List.setIfInBounds_toArray, List.set_cons_zero, List.set_cons_succ])
          generalize World.setCell _ _ _ = X9 at hO hcur ⊢
          replace HO := Lib.hid hO
          clear hO
          refine wpAnyH_done (by decide +kernel) ?_ _
          go_wp2_with fail
          (go_meet; exact ⟨A9, c9, Lib.hid (by have := HO.out; rw [HS1.out] at this; exact this)⟩)
      case rest =>
        clear HO
        obtain ⟨A2, c1', HO⟩ := hcut
        clear x0 x1 x2 x3 x4 x5 x6 x7 f0 f1 f2 f3 f4 f5 f6 f7
        obtain ⟨x0, x1, x2, x3, x4, x5, x6, x7, f0, f1, f2, f3, f4, f5, f6, f7⟩ := nd_facts (HO.out.sx.has 0 _ _ rfl).1
        go_upto_region 12 with fail
        refine wp_region_held_drew (S := fun w' => Below w.heap.size w w') (by kernel_rfl) HO.out.drew.below (fun hcur => ?_)
        (try dsimp only at hcur)
        replace HO := Lib.hid HO.out.drew
        generalize World.drew _ = X at HO hcur ⊢
        clear x0 x1 x2 x3 x4 x5 x6 x7 f0 f1 f2 f3 f4 f5 f6 f7
        obtain ⟨x0, x1, x2, x3, x4, x5, x6, x7, f0, f1, f2, f3, f4, f5, f6, f7⟩ := nd_facts (HO.out.sx.has 0 _ _ rfl).1
        refine wpAnyH_take (i := 0) (v := ?_) rfl (by decide +kernel) (by decide +kernel) (by decide +kernel) (fun _ _ _ h => h) (Or.inl ⟨by rfl, ?hy⟩) hcur ?_
        case hy =>
          intro w1 hSw
          (try dsimp only at hSw)
          have cj := (hSw.cell (p := ⟨b, off + j, none⟩) HB1.out).trans HC1.out
          have dj := (hSw.cell (p := ⟨b', off' + j, none⟩) HB2.out).trans HC2.out
          go_simp
          (try with_reducible rfl)
        (try simp only [Act.put, List.getElem_toArray, List.getElem_cons_zero, List.getElem_cons_succ, List.setIfInBounds_toArray, List.set_cons_zero, List.set_cons_succ])
        refine wpAnyH_take (i := 2) (v := ?_) rfl (by decide +kernel) (by decide +kernel) (by decide +kernel) (fun _ _ _ h => h) (Or.inl ⟨by rfl, ?hy⟩) hcur ?_
        case hy =>
          intro w1 hSw
          (try dsimp only at hSw)
          have cj := (hSw.cell (p := ⟨b, off + j, none⟩) HB1.out).trans HC1.out
          have dj := (hSw.cell (p := ⟨b', off' + j, none⟩) HB2.out).trans HC2.out
          go_simp
          (try with_reducible rfl)
        (try simp only [Act.put, List.getElem_toArray, List.getElem_cons_zero, List.getElem_cons_succ, List.setIfInBounds_toArray, List.set_cons_zero, List.set_cons_succ])
        refine wpAnyH_take (i := 3) (v := ?_) rfl (by decide +kernel) (by decide +kernel) (by decide +kernel) (fun _ _ _ h => h) (Or.inl ⟨by rfl, ?hy⟩) hcur ?_
        case hy =>
          intro w1 hSw
          (try dsimp only at hSw)
          have cj := (hSw.cell (p := ⟨b, off + j, none⟩) HB1.out).trans HC1.out
          have dj := (hSw.cell (p := ⟨b', off' + j, none⟩) HB2.out).trans HC2.out
          go_simp
          (try with_reducible rfl)
        (try simp only [Act.put, List.getElem_toArray, List.getElem_cons_zero, List.getElem_cons_succ, List.setIfInBounds_toArray, List.set_cons_zero, List.set_cons_succ])
        refine wpAnyH_take (i := 4) (v := ?_) rfl (by decide +kernel) (by decide +kernel) (by decide +kernel) (fun _ _ _ h => h) (Or.inl ⟨by rfl, ?hy⟩) hcur ?_
        case hy =>
          intro w1 hSw
          (try dsimp only at hSw)
          have cj := (hSw.cell (p := ⟨b, off + j, none⟩) HB1.out).trans HC1.out
          have dj := (hSw.cell (p := ⟨b', off' + j, none⟩) HB2.out).trans HC2.out
          go_simp
          (try with_reducible rfl)
        (try simp only [Act.put, List.getElem_toArray, List.getElem_cons_zero, List.getElem_cons_succ, List.setIfInBounds_toArray, List.set_cons_zero, List.set_cons_succ])
        refine wpAnyH_take (i := 5) (v := ?_) rfl (by decide +kernel) (by decide +kernel) (by decide +kernel) (fun _ _ _ h => h) (Or.inl ⟨by rfl, ?hy⟩) hcur ?_
        case hy =>
          intro w1 hSw
          (try dsimp only at hSw)
          have cj := (hSw.cell (p := ⟨b, off + j, none⟩) HB1.out).trans HC1.out
          have dj := (hSw.cell (p := ⟨b', off' + j, none⟩) HB2.out).trans HC2.out
          go_simp
          (try with_reducible rfl)
        (try simp only [Act.put, List.getElem_toArray, List.getElem_cons_zero, List.getElem_cons_succ, List.setIfInBounds_toArray, List.set_cons_zero, List.set_cons_succ])
        obtain ⟨A9, c9, W9, hrun, hc9, hO⟩ := HO.out.pushU 1 rfl vj (by have := HM.out; omega)
        simp only [List.set_cons_zero, List.set_cons_succ] at hO
        have Hrun := Lib.hid hrun
        have HP9 := Lib.hid hO
        clear hrun hO
        refine wpAnyH_ready (rs := [1, 6]) (by decide +kernel) (by simp) ?_
        refine AllReadyH.cons rfl (fun K hK => ?_) (AllReadyH.cons rfl (fun K hK => ?_) AllReadyH.nil)
        · go_simp
          refine hK.out _ _ (hcur) (fun hcur2 => ?_)
          clear hK K
          replace hcur := hcur2
          (try dsimp only at hcur)
          clear hcur2
          (try simp only [Act.put, List.getElem_toArray, List.getElem_cons_zero, List.getElem_cons_succ, List.setIfInBounds_toArray, List.set_cons_zero, List.set_cons_succ])
          refine wpAnyH_ready (rs := [6]) (by decide +kernel) (by simp) ?_
          refine AllReadyH.cons rfl (fun K hK => ?_) AllReadyH.nil
          go_simp
          refine hK.out _ _ ((HO.out.call (below_alloc X _)).below) (fun hcur2 => ?_)
          clear hK K
          replace hcur := hcur2
          (try dsimp only at hcur)
          clear hcur2
          (try simp only [Act.put, List.getElem_toArray, List.getElem_cons_zero, List.getElem_cons_succ, List.setIfInBounds_toArray, List.set_cons_zero, List.set_cons_succ])
          refine wpAnyH_ready (rs := [7]) (by decide +kernel) (by simp) ?_
          refine AllReadyH.cons rfl (fun K hK => ?_) AllReadyH.nil
          (try rw [if_pos (by rfl)])
          refine oper_append_run (.tmp 39) (.tmp 44) 23 rfl rfl rfl Hrun.out ?_
          refine hK.out _ _ (HP9.out.below) (fun hcur2 => ?_)
          clear hK K
          replace hcur := hcur2
          (try dsimp only at hcur)
          clear hcur2
          (try simp only [Act.put, List.getElem_toArray, List.getElem_cons_zero, List.getElem_cons_succ, List.setIfInBounds_toArray, List.set_cons_zero, List.set_cons_succ])
          clear HO
          have HO := Lib.hid HP9.out
          clear Hrun HP9
          clear x0 x1 x2 x3 x4 x5 x6 x7 f0 f1 f2 f3 f4 f5 f6 f7
          obtain ⟨x0, x1, x2, x3, x4, x5, x6, x7, f0, f1, f2, f3, f4, f5, f6, f7⟩ := nd_facts (HO.out.sx.has 0 _ _ rfl).1
          refine wpAnyH_take (i := 8) (v := ?_) rfl (by decide +kernel) (by decide +kernel) (by decide +kernel) (fun _ _ _ h => h) (Or.inl ⟨by rfl, ?hy⟩) hcur ?_
          case hy =>
            intro w1 hSw
            (try dsimp only at hSw)
            have cj := (hSw.cell (p := ⟨b, off + j, none⟩) HB1.out).trans HC1.out
            have dj := (hSw.cell (p := ⟨b', off' + j, none⟩) HB2.out).trans HC2.out
            go_simp
            (try with_reducible rfl)
          (try simp only [Act.put, List.getElem_toArray, List.getElem_cons_zero, List.getElem_cons_succ, List.setIfInBounds_toArray, List.set_cons_zero, List.set_cons_succ])
          refine wpAnyH_ready (rs := [9]) (by decide +kernel) (by simp) ?_
          refine AllReadyH.cons rfl (fun K hK => ?_) AllReadyH.nil
          go_simp
          have hO := HO.out.setc 0 rfl 6 (.slice A9 (m + 1) c9)
          simp only [List.set_cons_zero, List.set_cons_succ] at hO
          refine hK.out _ _ (hO.below) (fun hcur2 => ?_)
          clear hK K
          replace hcur := hcur2
          (try dsimp only at hcur)
          clear hcur2
          (try simp only [Act.put, List.getElem_toArray, List.getElem_cons_zero, List.getElem_cons_succ, List.setIfInBounds_toArray, List.set_cons_zero, List.set_cons_succ])
          generalize World.setCell _ _ _ = X9 at hO hcur ⊢
          replace HO := Lib.hid hO
          clear hO
          refine wpAnyH_done (by decide +kernel) ?_ _
          go_wp2_with fail
          (go_roundw; (case rel => exact ⟨j + 1, m + 1, A2, A9, c1', c9, by go_num, HJ.out.1, HJ.out.2.1, HJ.out.2.2, (by have := HO.out; rw [HS2.out] at this; exact this)⟩); (case measure => simp [intOf]; omega))
        · go_simp
          refine hK.out _ _ ((HO.out.call (below_alloc X _)).below) (fun hcur2 => ?_)
          clear hK K
          replace hcur := hcur2
          (try dsimp only at hcur)
          clear hcur2
          (try simp only [Act.put, List.getElem_toArray, List.getElem_cons_zero, List.getElem_cons_succ, List.setIfInBounds_toArray, List.set_cons_zero, List.set_cons_succ])
          replace HO := Lib.hid (HO.out.call (below_alloc X (.cells #[.int .u64 vj] 35)))
          clear x0 x1 x2 x3 x4 x5 x6 x7 f0 f1 f2 f3 f4 f5 f6 f7
          obtain ⟨x0, x1, x2, x3, x4, x5, x6, x7, f0, f1, f2, f3, f4, f5, f6, f7⟩ := nd_facts (HO.out.sx.has 0 _ _ rfl).1
          refine wpAnyH_ready (rs := [1]) (by decide +kernel) (by simp) ?_
          refine AllReadyH.cons rfl (fun K hK => ?_) AllReadyH.nil
          go_simp
          refine hK.out _ _ (hcur) (fun hcur2 => ?_)
          clear hK K
          replace hcur := hcur2
          (try dsimp only at hcur)
          clear hcur2
          (try simp only [Act.put, List.getElem_toArray, List.getElem_cons_zero, List.getElem_cons_succ, List.setIfInBounds_toArray, List.set_cons_zero, List.set_cons_succ])
          refine wpAnyH_ready (rs := [7]) (by decide +kernel) (by simp) ?_
          refine AllReadyH.cons rfl (fun K hK => ?_) AllReadyH.nil
          (try rw [if_pos (by rfl)])
          refine oper_append_run (.tmp 39) (.tmp 44) 23 rfl rfl rfl Hrun.out ?_
          refine hK.out _ _ (HP9.out.below) (fun hcur2 => ?_)
          clear hK K
          replace hcur := hcur2
          (try dsimp only at hcur)
          clear hcur2
          (try simp only [Act.put, List.getElem_toArray, List.getElem_cons_zero, List.getElem_cons_succ, List.setIfInBounds_toArray, List.set_cons_zero, List.set_cons_succ])
          clear HO
          have HO := Lib.hid HP9.out
          clear Hrun HP9
          clear x0 x1 x2 x3 x4 x5 x6 x7 f0 f1 f2 f3 f4 f5 f6 f7
          obtain ⟨x0, x1, x2, x3, x4, x5, x6, x7, f0, f1, f2, f3, f4, f5, f6, f7⟩ := nd_facts (HO.out.sx.has 0 _ _ rfl).1
          refine wpAnyH_take (i := 8) (v := ?_) rfl (by decide +kernel) (by decide +kernel) (by decide +kernel) (fun _ _ _ h => h) (Or.inl ⟨by rfl, ?hy⟩) hcur ?_
          case hy =>
            intro w1 hSw
            (try dsimp only at hSw)
            have cj := (hSw.cell (p := ⟨b, off + j, none⟩) HB1.out).trans HC1.out
            have dj := (hSw.cell (p := ⟨b', off' + j, none⟩) HB2.out).trans HC2.out
            go_simp
            (try with_reducible rfl)
          (try simp only [Act.put, List.getElem_toArray, List.getElem_cons_zero, List.getElem_cons_succ, List.setIfInBounds_toArray, List.set_cons_zero, List.set_cons_succ])
          refine wpAnyH_ready (rs := [9]) (by decide +kernel) (by simp) ?_
          refine AllReadyH.cons rfl (fun K hK => ?_) AllReadyH.nil
          go_simp
          have hO := HO.out.setc 0 rfl 6 (.slice A9 (m + 1) c9)
          simp only [List.set_cons_zero, List.set_cons_succ] at hO
          refine hK.out _ _ (hO.below) (fun hcur2 => ?_)
          clear hK K
          replace hcur := hcur2
          (try dsimp only at hcur)
          clear hcur2
          (try simp only [Act.put, List.getElem_toArray, List.getElem_cons_zero, List.getElem_cons_succ, List.setIfInBounds_toArray, List.set_cons_zero, List.set_cons_succ])
          generalize World.setCell _ _ _ = X9 at hO hcur ⊢
          replace HO := Lib.hid hO
          clear hO
          refine wpAnyH_done (by decide +kernel) ?_ _
          go_wp2_with fail
          (go_roundw; (case rel => exact ⟨j + 1, m + 1, A2, A9, c1', c9, by go_num, HJ.out.1, HJ.out.2.1, HJ.out.2.2, (by have := HO.out; rw [HS2.out] at this; exact this)⟩); (case measure => simp [intOf]; omega))
    · obtain rfl : j = q := by have := H.out; omega
      clear H hlt
      obtain ⟨y0, y1, y2, y3, y4, y5, y6, y7, q0, q1, q2, q3, q4, q5, q6, q7⟩ := nd_facts (HO.out.sx.has 1 _ _ rfl).1
      have hZ := HO.out.store 1 rfl (.int .i64 0) (.string nlow) (.string high) (.bool last) (.int .i64 next) (.slice A1 m c1) (.slice B1 m c2) (.slice none 0 0)
      have hkr : RdS _ A1 m (seg keys p j) := hZ.rowRd 0 rfl
      have hcr : RdU _ B1 m (seg vals p j) := hZ.rowRd 1 rfl
      have hkl : (seg keys p j).length = m := by have := hkr.1; rw [strs_length] at this; omega
      have hcl : (seg vals p j).length = m := by have := hcr.1; rw [u64s_length] at this; omega
      have hm3 : m ≤ 1000 := by have := HN.out; rw [seg_len (by omega)] at hkl; omega
      have hlies : LiesF w.heap.size _ ⟨0, nlow, high, last, next, seg keys p j, seg vals p j, []⟩ A1 B1 none c1 c2 0 :=
        ⟨{ low := H00.out.low, high := H00.out.high, fit := fits_seg H00.out.fit p j, la := by simp only []; omega, lb := by simp only []; omega, lc := by simp
           keys := by rw [hkl]; exact hkr
           vals := by rw [hcl]; exact hcr
           kids := (zero_lies _).kids
           ka := by rw [hkl]; exact hZ.rowLe 0 rfl
           kb := by rw [hcl]; exact hZ.rowLe 1 rfl
           kc := Nat.le_refl _ },
         fun _ a e => hZ.rowF 0 rfl a e, fun _ a e => hZ.rowF 1 rfl a e, fun q => by simp at q⟩
      have hcells : ndCells ⟨0, nlow, high, last, next, seg keys p j, seg vals p j, []⟩ A1 B1 none c1 c2 0 = #[.int .i64 0, .string nlow, .string high, .bool last, .int .i64 next, .slice A1 m c1, .slice B1 m c2, .slice none 0 0] := by
        simp only [ndCells, hkl, hcl, List.length_nil]
      have HFI := And.intro hZ.below (And.intro hlies hcells)
      simp only [set8] at HFI
      replace HFI := Lib.hid HFI
      clear hZ hkr hcr hkl hcl hlies hcells hm3 hq hq63 hpq hm HN HO
      obtain rfl := HEN.out
      go_wp2_with fail
      exact bodyPost_ret (v := .agg #[.int .i64 0, .string nlow, .string high, .bool last, .int .i64 next, .slice A1 m c1, .slice B1 m c2, .slice none 0 0]) (by simp [results, Try.results132, go_sem, *]) rfl ⟨A1, B1, none, c1, c2, 0, by rw [HFI.out.2.2], HFI.out.2.1, HFI.out.1⟩

set_option maxRecDepth 100000 in
set_option maxHeartbeats 16000000 in
theorem refent_up (d : Nd) (p q : Nat) (A B C : Option Addr) (ca cb cc : Nat) (w : World) (h : Lies w d A B C ca cb cc) (hl : d.level ≠ 0) (hv : d.kids.length = d.keys.length) (hpq : p ≤ q) (hq : q ≤ d.keys.length) (hm : d.keys.length ≤ 1000) :
    Calls Try.prog 132 #[.agg (ndCells d A B C ca cb cc), .int .i64 (p : Int), .int .i64 (q : Int)] w (NOneF (entN d p q) w) := by
  have hO := Ow.start (Sx.start2 w (.cells (ndCells d A B C ca cb cc) 26) (.cells #[.int .i64 0, .string ⟨#[]⟩, .string ⟨#[]⟩, .bool false, .int .i64 0, .slice none 0 0, .slice none 0 0, .slice none 0 0] 26))
  have H00 := Lib.hid h
  have hen : entN d p q = ⟨d.level, d.low, d.high, d.last, d.next, seg d.keys p q, [], seg d.kids p q⟩ := by unfold entN; rw [if_neg hl, if_neg hl]
  generalize entN d p q = en at hen ⊢
  obtain ⟨level, nlow, high, last, next, keys, vals, kids⟩ := d
  simp only [] at hl hv hq hm hen
  have hlb : (level == (0 : Int)) = false := by simpa using hl
  clear hl
  have HEN := Lib.hid hen
  have HN := Lib.hid (And.intro hv (And.intro hpq (And.intro hq hm)))
  clear hen h hv
  simp only [ndCells] at hO ⊢
  go_enter Try.func132, Try.ntmps132
  go_upto_region 1 with fail
  generalize (w.alloc _).alloc _ = W at hO ⊢
  obtain ⟨x0, x1, x2, x3, x4, x5, x6, x7, f0, f1, f2, f3, f4, f5, f6, f7⟩ := nd_facts (hO.sx.has 0 _ _ rfl).1
  have HO := Lib.hid hO
  clear hO
  go_upto_region 5 with fail
  have hO := HO.out.setc 0 rfl 5 (.slice none 0 0)
  simp only [List.set_cons_zero, List.set_cons_succ] at hO
  generalize World.setCell _ _ _ = W5 at hO ⊢
  replace HO := Lib.hid hO
  clear hO
  clear x0 x1 x2 x3 x4 x5 x6 x7 f0 f1 f2 f3 f4 f5 f6 f7
  obtain ⟨x0, x1, x2, x3, x4, x5, x6, x7, f0, f1, f2, f3, f4, f5, f6, f7⟩ := nd_facts (HO.out.sx.has 0 _ _ rfl).1
  go_upto_region 6 with fail
  have hO := HO.out.setc 0 rfl 6 (.slice none 0 0)
  simp only [List.set_cons_zero, List.set_cons_succ] at hO
  generalize World.setCell _ _ _ = W6 at hO ⊢
  replace HO := Lib.hid hO
  clear hO
  clear x0 x1 x2 x3 x4 x5 x6 x7 f0 f1 f2 f3 f4 f5 f6 f7
  obtain ⟨x0, x1, x2, x3, x4, x5, x6, x7, f0, f1, f2, f3, f4, f5, f6, f7⟩ := nd_facts (HO.out.sx.has 0 _ _ rfl).1
  go_upto_region 7 with fail
  have hO := HO.out.setc 0 rfl 7 (.slice none 0 0)
  simp only [List.set_cons_zero, List.set_cons_succ] at hO
  generalize World.setCell _ _ _ = W7 at hO ⊢
  replace HO := Lib.hid hO
  clear hO
  clear x0 x1 x2 x3 x4 x5 x6 x7 f0 f1 f2 f3 f4 f5 f6 f7
  obtain ⟨x0, x1, x2, x3, x4, x5, x6, x7, f0, f1, f2, f3, f4, f5, f6, f7⟩ := nd_facts (HO.out.sx.has 0 _ _ rfl).1
  replace HO := Lib.hid ((HO.out.nil 9 1).nil 3 1)
  simp only [List.nil_append, List.cons_append] at HO
  have hq63 : q ≤ 1000 := by omega
  go_wp2_with fail
  go_loopw [10] (fun i wr => ∃ (j m : Nat) (A1 B1 : Option Addr) (c1 c2 : Nat), i = .int .i64 j ∧ Hid (p ≤ j ∧ j ≤ q ∧ m = j - p ∧
    Ow w.heap.size w wr [(w.heap.size, .cells #[.int .i64 level, .string nlow, .string high, .bool last, .int .i64 next, .slice A1 m c1, .slice none 0 0, .slice B1 m c2] 26), (w.heap.size + 1, .cells #[.int .i64 0, .string ⟨#[]⟩, .string ⟨#[]⟩, .bool false, .int .i64 0, .slice none 0 0, .slice none 0 0, .slice none 0 0] 26)]
      [⟨9, 1, .slice A1 m c1, m, strs (seg keys p j)⟩, ⟨3, 1, .slice B1 m c2, m, i64s (seg kids p j)⟩])) (fun i _ => q - (intOf i).toNat)
  case atStart => exact ⟨p, 0, none, none, 0, 0, rfl, Nat.le_refl _, hpq, by omega, by rw [seg_nil, seg_nil]; exact HO.out⟩
  case round =>
    obtain ⟨j, m, A1, B1, c1, c2, rfl, H⟩ := hrel
    clear HO
    have HO := Lib.hid H.out.2.2.2
    clear x0 x1 x2 x3 x4 x5 x6 x7 f0 f1 f2 f3 f4 f5 f6 f7
    obtain ⟨x0, x1, x2, x3, x4, x5, x6, x7, f0, f1, f2, f3, f4, f5, f6, f7⟩ := nd_facts (HO.out.sx.has 0 _ _ rfl).1
    by_cases hlt : j < q
    · have hjk : j < keys.length := by have := HN.out; omega
      have hjv : j < kids.length := by have := HN.out; omega
      obtain ⟨b, off, rfl, hbB, hc⟩ := RdS.spot H00.out.keys (show 0 < keys.length by omega)
      obtain ⟨b', off', rfl, hbB', hc'⟩ := RdI.spot H00.out.kids (show 0 < kids.length by omega)
      have HB1 := Lib.hid hbB
      have HB2 := Lib.hid hbB'
      have HC1 := Lib.hid (hc j hjk)
      have HC2 := Lib.hid (hc' j hjv)
      have HS1 := Lib.hid (seg_push keys p j H.out.1 hjk)
      have HS2 := Lib.hid (seg_push kids p j H.out.1 hjv)
      have HM := Lib.hid (show m ≤ 1000 by have := H.out; have := HN.out; omega)
      have HJ := Lib.hid (show p ≤ j + 1 ∧ j + 1 ≤ q ∧ m + 1 = j + 1 - p by have := H.out; omega)
      have hj63 : j ≤ 1000 := by omega
      generalize keys[j] = kj at HC1 HS1
      generalize kids[j] = vj at HC2 HS2
      clear hc hc' hbB hbB' H
      go_upto_region 10 with fail
      go_cut [] (fun wx => ∃ A2 c1, Hid (Ow w.heap.size w wx [(w.heap.size, .cells #[.int .i64 level, .string nlow, .string high, .bool last, .int .i64 next, .slice A2 (m + 1) c1, .slice none 0 0, .slice B1 m c2] 26), (w.heap.size + 1, .cells #[.int .i64 0, .string ⟨#[]⟩, .string ⟨#[]⟩, .bool false, .int .i64 0, .slice none 0 0, .slice none 0 0, .slice none 0 0] 26)]
      [⟨9, 1, .slice A2 (m + 1) c1, m + 1, strs (seg keys p (j + 1))⟩, ⟨3, 1, .slice B1 m c2, m, i64s (seg kids p j)⟩]))
      case first =>
        refine wp_region_held_drew (S := fun w' => Below w.heap.size w w') (by kernel_rfl) HO.out.drew.below (fun hcur => ?_)
        (try dsimp only at hcur)
        replace HO := Lib.hid HO.out.drew
        generalize World.drew _ = X at HO hcur ⊢
        clear x0 x1 x2 x3 x4 x5 x6 x7 f0 f1 f2 f3 f4 f5 f6 f7
        obtain ⟨x0, x1, x2, x3, x4, x5, x6, x7, f0, f1, f2, f3, f4, f5, f6, f7⟩ := nd_facts (HO.out.sx.has 0 _ _ rfl).1
        refine wpAnyH_take (i := 0) (v := ?_) rfl (by decide +kernel) (by decide +kernel) (by decide +kernel) (fun _ _ _ h => h) (Or.inl ⟨by rfl, ?hy⟩) hcur ?_
        case hy =>
          intro w1 hSw
          (try dsimp only at hSw)
          have cj := (hSw.cell (p := ⟨b, off + j, none⟩) HB1.out).trans HC1.out
          have dj := (hSw.cell (p := ⟨b', off' + j, none⟩) HB2.out).trans HC2.out
          go_simp
          (try with_reducible rfl)
        (try simp only [Act.put, List.getElem_toArray, List.getElem_cons_zero, List.getElem_cons_succ, List.setIfInBounds_toArray, List.set_cons_zero, List.set_cons_succ])
        refine wpAnyH_take (i := 2) (v := ?_) rfl (by decide +kernel) (by decide +kernel) (by decide +kernel) (fun _ _ _ h => h) (Or.inl ⟨by rfl, ?hy⟩) hcur ?_
        case hy =>
          intro w1 hSw
          (try dsimp only at hSw)
          have cj := (hSw.cell (p := ⟨b, off + j, none⟩) HB1.out).trans HC1.out
          have dj := (hSw.cell (p := ⟨b', off' + j, none⟩) HB2.out).trans HC2.out
          go_simp
          (try with_reducible rfl)
        (try simp only [Act.put, List.getElem_toArray, List.getElem_cons_zero, List.getElem_cons_succ, List.setIfInBounds_toArray, List.set_cons_zero, List.set_cons_succ])
        refine wpAnyH_take (i := 3) (v := ?_) rfl (by decide +kernel) (by decide +kernel) (by decide +kernel) (fun _ _ _ h => h) (Or.inl ⟨by rfl, ?hy⟩) hcur ?_
        case hy =>
          intro w1 hSw
          (try dsimp only at hSw)
          have cj := (hSw.cell (p := ⟨b, off + j, none⟩) HB1.out).trans HC1.out
          have dj := (hSw.cell (p := ⟨b', off' + j, none⟩) HB2.out).trans HC2.out
          go_simp
          (try with_reducible rfl)
        (try simp only [Act.put, List.getElem_toArray, List.getElem_cons_zero, List.getElem_cons_succ, List.setIfInBounds_toArray, List.set_cons_zero, List.set_cons_succ])
        refine wpAnyH_take (i := 4) (v := ?_) rfl (by decide +kernel) (by decide +kernel) (by decide +kernel) (fun _ _ _ h => h) (Or.inl ⟨by rfl, ?hy⟩) hcur ?_
        case hy =>
          intro w1 hSw
          (try dsimp only at hSw)
          have cj := (hSw.cell (p := ⟨b, off + j, none⟩) HB1.out).trans HC1.out
          have dj := (hSw.cell (p := ⟨b', off' + j, none⟩) HB2.out).trans HC2.out
          go_simp
          (try with_reducible rfl)
        (try simp only [Act.put, List.getElem_toArray, List.getElem_cons_zero, List.getElem_cons_succ, List.setIfInBounds_toArray, List.set_cons_zero, List.set_cons_succ])
        refine wpAnyH_take (i := 5) (v := ?_) rfl (by decide +kernel) (by decide +kernel) (by decide +kernel) (fun _ _ _ h => h) (Or.inl ⟨by rfl, ?hy⟩) hcur ?_
        case hy =>
          intro w1 hSw
          (try dsimp only at hSw)
          have cj := (hSw.cell (p := ⟨b, off + j, none⟩) HB1.out).trans HC1.out
          have dj := (hSw.cell (p := ⟨b', off' + j, none⟩) HB2.out).trans HC2.out
          go_simp
          (try with_reducible rfl)
        (try simp only [Act.put, List.getElem_toArray, List.getElem_cons_zero, List.getElem_cons_succ, List.setIfInBounds_toArray, List.set_cons_zero, List.set_cons_succ])
        obtain ⟨A9, c9, W9, hrun, hc9, hO⟩ := HO.out.pushS 0 rfl kj (by have := HM.out; omega)
        simp only [List.set_cons_zero, List.set_cons_succ] at hO
        have Hrun := Lib.hid hrun
        have HP9 := Lib.hid hO
        clear hrun hO
        refine wpAnyH_ready (rs := [1, 6]) (by decide +kernel) (by simp) ?_
        refine AllReadyH.cons rfl (fun K hK => ?_) (AllReadyH.cons rfl (fun K hK => ?_) AllReadyH.nil)
        · go_simp
          refine hK.out _ _ (hcur) (fun hcur2 => ?_)
          clear hK K
          replace hcur := hcur2
          (try dsimp only at hcur)
          clear hcur2
          (try simp only [Act.put, List.getElem_toArray, List.getElem_cons_zero, List.getElem_cons_succ, List.setIfInBounds_toArray, List.set_cons_zero, List.set_cons_succ])
          refine wpAnyH_ready (rs := [6]) (by decide +kernel) (by simp) ?_
          refine AllReadyH.cons rfl (fun K hK => ?_) AllReadyH.nil
          go_simp
          refine hK.out _ _ ((HO.out.call (below_alloc X _)).below) (fun hcur2 => ?_)
          clear hK K
          replace hcur := hcur2
          (try dsimp only at hcur)
          clear hcur2
          (try simp only [Act.put, List.getElem_toArray, List.getElem_cons_zero, List.getElem_cons_succ, List.setIfInBounds_toArray, List.set_cons_zero, List.set_cons_succ])
          refine wpAnyH_ready (rs := [7]) (by decide +kernel) (by simp) ?_
          refine AllReadyH.cons rfl (fun K hK => ?_) AllReadyH.nil
          (try rw [if_pos (by rfl)])
          refine oper_append_run (.tmp 27) (.tmp 32) 22 rfl rfl rfl Hrun.out ?_
          refine hK.out _ _ (HP9.out.below) (fun hcur2 => ?_)
          clear hK K
          replace hcur := hcur2
          (try dsimp only at hcur)
          clear hcur2
          (try simp only [Act.put, List.getElem_toArray, List.getElem_cons_zero, List.getElem_cons_succ, List.setIfInBounds_toArray, List.set_cons_zero, List.set_cons_succ])
          clear HO
          have HO := Lib.hid HP9.out
          clear Hrun HP9
          clear x0 x1 x2 x3 x4 x5 x6 x7 f0 f1 f2 f3 f4 f5 f6 f7
          obtain ⟨x0, x1, x2, x3, x4, x5, x6, x7, f0, f1, f2, f3, f4, f5, f6, f7⟩ := nd_facts (HO.out.sx.has 0 _ _ rfl).1
          refine wpAnyH_take (i := 8) (v := ?_) rfl (by decide +kernel) (by decide +kernel) (by decide +kernel) (fun _ _ _ h => h) (Or.inl ⟨by rfl, ?hy⟩) hcur ?_
          case hy =>
            intro w1 hSw
            (try dsimp only at hSw)
            have cj := (hSw.cell (p := ⟨b, off + j, none⟩) HB1.out).trans HC1.out
            have dj := (hSw.cell (p := ⟨b', off' + j, none⟩) HB2.out).trans HC2.out
            go_simp
            (try with_reducible rfl)
          (try simp only [Act.put, List.getElem_toArray, List.getElem_cons_zero, List.getElem_cons_succ, List.setIfInBounds_toArray, List.set_cons_zero, List.set_cons_succ])
          refine wpAnyH_ready (rs := [9]) (by decide +kernel) (by simp) ?_
          refine AllReadyH.cons rfl (fun K hK => ?_) AllReadyH.nil
          go_simp
          have hO := HO.out.setc 0 rfl 5 (.slice A9 (m + 1) c9)
          simp only [List.set_cons_zero, List.set_cons_succ] at hO
          refine hK.out _ _ (hO.below) (fun hcur2 => ?_)
          clear hK K
          replace hcur := hcur2
          (try dsimp only at hcur)
          clear hcur2
          (try simp only [Act.put, List.getElem_toArray, List.getElem_cons_zero, List.getElem_cons_succ, List.setIfInBounds_toArray, List.set_cons_zero, List.set_cons_succ])
          generalize World.setCell _ _ _ = X9 at hO hcur ⊢
          replace HO := Lib.hid hO
          clear hO
          refine wpAnyH_done (by decide +kernel) ?_ _
          go_wp2_with fail
          (go_meet; exact ⟨A9, c9, Lib.hid (by have := HO.out; rw [HS1.out] at this; exact this)⟩)
        · go_simp
          refine hK.out _ _ ((HO.out.call (below_alloc X _)).below) (fun hcur2 => ?_)
          clear hK K
          replace hcur := hcur2
          (try dsimp only at hcur)
          clear hcur2
          (try simp only [Act.put, List.getElem_toArray, List.getElem_cons_zero, List.getElem_cons_succ, List.setIfInBounds_toArray, List.set_cons_zero, List.set_cons_succ])
          replace HO := Lib.hid (HO.out.call (below_alloc X (.cells #[.string kj] 9)))
          clear x0 x1 x2 x3 x4 x5 x6 x7 f0 f1 f2 f3 f4 f5 f6 f7
          obtain ⟨x0, x1, x2, x3, x4, x5, x6, x7, f0, f1, f2, f3, f4, f5, f6, f7⟩ := nd_facts (HO.out.sx.has 0 _ _ rfl).1
          refine wpAnyH_ready (rs := [1]) (by decide +kernel) (by simp) ?_
          refine AllReadyH.cons rfl (fun K hK => ?_) AllReadyH.nil
          go_simp
          refine hK.out _ _ (hcur) (fun hcur2 => ?_)
          clear hK K
          replace hcur := hcur2
          (try dsimp only at hcur)
          clear hcur2
          (try simp only [Act.put, List.getElem_toArray, List.getElem_cons_zero, List.getElem_cons_succ, List.setIfInBounds_toArray, List.set_cons_zero, List.set_cons_succ])
          refine wpAnyH_ready (rs := [7]) (by decide +kernel) (by simp) ?_
          refine AllReadyH.cons rfl (fun K hK => ?_) AllReadyH.nil
          (try rw [if_pos (by rfl)])
          refine oper_append_run (.tmp 27) (.tmp 32) 22 rfl rfl rfl Hrun.out ?_
          refine hK.out _ _ (HP9.out.below) (fun hcur2 => ?_)
          clear hK K
          replace hcur := hcur2
          (try dsimp only at hcur)
          clear hcur2
          (try simp only [Act.put, List.getElem_toArray, List.getElem_cons_zero, List.getElem_cons_succ, List.setIfInBounds_toArray, List.set_cons_zero, List.set_cons_succ])
          clear HO
          have HO := Lib.hid HP9.out
          clear Hrun HP9
          clear x0 x1 x2 x3 x4 x5 x6 x7 f0 f1 f2 f3 f4 f5 f6 f7
          obtain ⟨x0, x1, x2, x3, x4, x5, x6, x7, f0, f1, f2, f3, f4, f5, f6, f7⟩ := nd_facts (HO.out.sx.has 0 _ _ rfl).1
          refine wpAnyH_take (i := 8) (v := ?_) rfl (by decide +kernel) (by decide +kernel) (by decide +kernel) (fun _ _ _ h => h) (Or.inl ⟨by rfl, ?hy⟩) hcur ?_
          case hy =>
            intro w1 hSw
            (try dsimp only at hSw)
            have cj := (hSw.cell (p := ⟨b, off + j, none⟩) HB1.out).trans HC1.out
            have dj := (hSw.cell (p := ⟨b', off' + j, none⟩) HB2.out).trans HC2.out
            go_simp
            (try with_reducible rfl)
          (try simp only [Act.put, List.getElem_toArray, List.getElem_cons_zero, List.getElem_cons_succ, List.setIfInBounds_toArray, List.set_cons_zero, List.set_cons_succ])
          refine wpAnyH_ready (rs := [9]) (by decide +kernel) (by simp) ?_
          refine AllReadyH.cons rfl (fun K hK => ?_) AllReadyH.nil
          go_simp
          have hO := HO.out.setc 0 rfl 5 (.slice A9 (m + 1) c9)
          simp only [List.set_cons_zero, List.set_cons_succ] at hO
          refine hK.out _ _ (hO.below) (fun hcur2 => ?_)
          clear hK K
          replace hcur := hcur2
          (try dsimp only at hcur)
          clear hcur2
          (try simp only [Act.put, List.getElem_toArray, List.getElem_cons_zero, List.getElem_cons_succ, List.setIfInBounds_toArray, List.set_cons_zero, List.set_cons_succ])
          generalize World.setCell _ _ _ = X9 at hO hcur ⊢
          replace HO := Lib.hid hO
          clear hO
          refine wpAnyH_done (by decide +kernel) ?_ _
          go_wp2_with fail
          (go_meet; exact ⟨A9, c9, Lib.hid (by have := HO.out; rw [HS1.out] at this; exact this)⟩)
      case rest =>
        clear HO
        obtain ⟨A2, c1', HO⟩ := hcut
        clear x0 x1 x2 x3 x4 x5 x6 x7 f0 f1 f2 f3 f4 f5 f6 f7
        obtain ⟨x0, x1, x2, x3, x4, x5, x6, x7, f0, f1, f2, f3, f4, f5, f6, f7⟩ := nd_facts (HO.out.sx.has 0 _ _ rfl).1
        go_upto_region 13 with fail
        refine wp_region_held_drew (S := fun w' => Below w.heap.size w w') (by kernel_rfl) HO.out.drew.below (fun hcur => ?_)
        (try dsimp only at hcur)
        replace HO := Lib.hid HO.out.drew
        generalize World.drew _ = X at HO hcur ⊢
        clear x0 x1 x2 x3 x4 x5 x6 x7 f0 f1 f2 f3 f4 f5 f6 f7
        obtain ⟨x0, x1, x2, x3, x4, x5, x6, x7, f0, f1, f2, f3, f4, f5, f6, f7⟩ := nd_facts (HO.out.sx.has 0 _ _ rfl).1
        refine wpAnyH_take (i := 0) (v := ?_) rfl (by decide +kernel) (by decide +kernel) (by decide +kernel) (fun _ _ _ h => h) (Or.inl ⟨by rfl, ?hy⟩) hcur ?_
        case hy =>
          intro w1 hSw
          (try dsimp only at hSw)
          have cj := (hSw.cell (p := ⟨b, off + j, none⟩) HB1.out).trans HC1.out
          have dj := (hSw.cell (p := ⟨b', off' + j, none⟩) HB2.out).trans HC2.out
          go_simp
          (try with_reducible rfl)
        (try simp only [Act.put, List.getElem_toArray, List.getElem_cons_zero, List.getElem_cons_succ, List.setIfInBounds_toArray, List.set_cons_zero, List.set_cons_succ])
        refine wpAnyH_take (i := 2) (v := ?_) rfl (by decide +kernel) (by decide +kernel) (by decide +kernel) (fun _ _ _ h => h) (Or.inl ⟨by rfl, ?hy⟩) hcur ?_
        case hy =>
          intro w1 hSw
          (try dsimp only at hSw)
          have cj := (hSw.cell (p := ⟨b, off + j, none⟩) HB1.out).trans HC1.out
          have dj := (hSw.cell (p := ⟨b', off' + j, none⟩) HB2.out).trans HC2.out
          go_simp
          (try with_reducible rfl)
        (try simp only [Act.put, List.getElem_toArray, List.getElem_cons_zero, List.getElem_cons_succ, List.setIfInBounds_toArray, List.set_cons_zero, List.set_cons_succ])
        refine wpAnyH_take (i := 3) (v := ?_) rfl (by decide +kernel) (by decide +kernel) (by decide +kernel) (fun _ _ _ h => h) (Or.inl ⟨by rfl, ?hy⟩) hcur ?_
        case hy =>
          intro w1 hSw
          (try dsimp only at hSw)
          have cj := (hSw.cell (p := ⟨b, off + j, none⟩) HB1.out).trans HC1.out
          have dj := (hSw.cell (p := ⟨b', off' + j, none⟩) HB2.out).trans HC2.out
          go_simp
          (try with_reducible rfl)
        (try simp only [Act.put, List.getElem_toArray, List.getElem_cons_zero, List.getElem_cons_succ, List.setIfInBounds_toArray, List.set_cons_zero, List.set_cons_succ])
        refine wpAnyH_take (i := 4) (v := ?_) rfl (by decide +kernel) (by decide +kernel) (by decide +kernel) (fun _ _ _ h => h) (Or.inl ⟨by rfl, ?hy⟩) hcur ?_
        case hy =>
          intro w1 hSw
          (try dsimp only at hSw)
          have cj := (hSw.cell (p := ⟨b, off + j, none⟩) HB1.out).trans HC1.out
          have dj := (hSw.cell (p := ⟨b', off' + j, none⟩) HB2.out).trans HC2.out
          go_simp
          (try with_reducible rfl)
        (try simp only [Act.put, List.getElem_toArray, List.getElem_cons_zero, List.getElem_cons_succ, List.setIfInBounds_toArray, List.set_cons_zero, List.set_cons_succ])
        refine wpAnyH_take (i := 5) (v := ?_) rfl (by decide +kernel) (by decide +kernel) (by decide +kernel) (fun _ _ _ h => h) (Or.inl ⟨by rfl, ?hy⟩) hcur ?_
        case hy =>
          intro w1 hSw
          (try dsimp only at hSw)
          have cj := (hSw.cell (p := ⟨b, off + j, none⟩) HB1.out).trans HC1.out
          have dj := (hSw.cell (p := ⟨b', off' + j, none⟩) HB2.out).trans HC2.out
          go_simp
          (try with_reducible rfl)
        (try simp only [Act.put, List.getElem_toArray, List.getElem_cons_zero, List.getElem_cons_succ, List.setIfInBounds_toArray, List.set_cons_zero, List.set_cons_succ])
        obtain ⟨A9, c9, W9, hrun, hc9, hO⟩ := HO.out.pushI 1 rfl vj (by have := HM.out; omega)
        simp only [List.set_cons_zero, List.set_cons_succ] at hO
        have Hrun := Lib.hid hrun
        have HP9 := Lib.hid hO
        clear hrun hO
        refine wpAnyH_ready (rs := [1, 6]) (by decide +kernel) (by simp) ?_
        refine AllReadyH.cons rfl (fun K hK => ?_) (AllReadyH.cons rfl (fun K hK => ?_) AllReadyH.nil)
        · go_simp
          refine hK.out _ _ (hcur) (fun hcur2 => ?_)
          clear hK K
          replace hcur := hcur2
          (try dsimp only at hcur)
          clear hcur2
          (try simp only [Act.put, List.getElem_toArray, List.getElem_cons_zero, List.getElem_cons_succ, List.setIfInBounds_toArray, List.set_cons_zero, List.set_cons_succ])
          refine wpAnyH_ready (rs := [6]) (by decide +kernel) (by simp) ?_
          refine AllReadyH.cons rfl (fun K hK => ?_) AllReadyH.nil
          go_simp
          refine hK.out _ _ ((HO.out.call (below_alloc X _)).below) (fun hcur2 => ?_)
          clear hK K
          replace hcur := hcur2
          (try dsimp only at hcur)
          clear hcur2
          (try simp only [Act.put, List.getElem_toArray, List.getElem_cons_zero, List.getElem_cons_succ, List.setIfInBounds_toArray, List.set_cons_zero, List.set_cons_succ])
          refine wpAnyH_ready (rs := [7]) (by decide +kernel) (by simp) ?_
          refine AllReadyH.cons rfl (fun K hK => ?_) AllReadyH.nil
          (try rw [if_pos (by rfl)])
          refine oper_append_run (.tmp 48) (.tmp 53) 24 rfl rfl rfl Hrun.out ?_
          refine hK.out _ _ (HP9.out.below) (fun hcur2 => ?_)
          clear hK K
          replace hcur := hcur2
          (try dsimp only at hcur)
          clear hcur2
          (try simp only [Act.put, List.getElem_toArray, List.getElem_cons_zero, List.getElem_cons_succ, List.setIfInBounds_toArray, List.set_cons_zero, List.set_cons_succ])
          clear HO
          have HO := Lib.hid HP9.out
          clear Hrun HP9
          clear x0 x1 x2 x3 x4 x5 x6 x7 f0 f1 f2 f3 f4 f5 f6 f7
          obtain ⟨x0, x1, x2, x3, x4, x5, x6, x7, f0, f1, f2, f3, f4, f5, f6, f7⟩ := nd_facts (HO.out.sx.has 0 _ _ rfl).1
          refine wpAnyH_take (i := 8) (v := ?_) rfl (by decide +kernel) (by decide +kernel) (by decide +kernel) (fun _ _ _ h => h) (Or.inl ⟨by rfl, ?hy⟩) hcur ?_
          case hy =>
            intro w1 hSw
            (try dsimp only at hSw)
            have cj := (hSw.cell (p := ⟨b, off + j, none⟩) HB1.out).trans HC1.out
            have dj := (hSw.cell (p := ⟨b', off' + j, none⟩) HB2.out).trans HC2.out
            go_simp
            (try with_reducible rfl)
          (try simp only [Act.put, List.getElem_toArray, List.getElem_cons_zero, List.getElem_cons_succ, List.setIfInBounds_toArray, List.set_cons_zero, List.set_cons_succ])
          refine wpAnyH_ready (rs := [9]) (by decide +kernel) (by simp) ?_
          refine AllReadyH.cons rfl (fun K hK => ?_) AllReadyH.nil
          go_simp
          have hO := HO.out.setc 0 rfl 7 (.slice A9 (m + 1) c9)
          simp only [List.set_cons_zero, List.set_cons_succ] at hO
          refine hK.out _ _ (hO.below) (fun hcur2 => ?_)
          clear hK K
          replace hcur := hcur2
          (try dsimp only at hcur)
          clear hcur2
          (try simp only [Act.put, List.getElem_toArray, List.getElem_cons_zero, List.getElem_cons_succ, List.setIfInBounds_toArray, List.set_cons_zero, List.set_cons_succ])
          generalize World.setCell _ _ _ = X9 at hO hcur ⊢
          replace HO := Lib.hid hO
          clear hO
          refine wpAnyH_done (by decide +kernel) ?_ _
          go_wp2_with fail
          (go_roundw; (case rel => exact ⟨j + 1, m + 1, A2, A9, c1', c9, by go_num, HJ.out.1, HJ.out.2.1, HJ.out.2.2, (by have := HO.out; rw [HS2.out] at this; exact this)⟩); (case measure => simp [intOf]; omega))
        · go_simp
          refine hK.out _ _ ((HO.out.call (below_alloc X _)).below) (fun hcur2 => ?_)
          clear hK K
          replace hcur := hcur2
          (try dsimp only at hcur)
          clear hcur2
          (try simp only [Act.put, List.getElem_toArray, List.getElem_cons_zero, List.getElem_cons_succ, List.setIfInBounds_toArray, List.set_cons_zero, List.set_cons_succ])
          replace HO := Lib.hid (HO.out.call (below_alloc X (.cells #[.int .i64 vj] 3)))
          clear x0 x1 x2 x3 x4 x5 x6 x7 f0 f1 f2 f3 f4 f5 f6 f7
          obtain ⟨x0, x1, x2, x3, x4, x5, x6, x7, f0, f1, f2, f3, f4, f5, f6, f7⟩ := nd_facts (HO.out.sx.has 0 _ _ rfl).1
          refine wpAnyH_ready (rs := [1]) (by decide +kernel) (by simp) ?_
          refine AllReadyH.cons rfl (fun K hK => ?_) AllReadyH.nil
          go_simp
          refine hK.out _ _ (hcur) (fun hcur2 => ?_)
          clear hK K
          replace hcur := hcur2
          (try dsimp only at hcur)
          clear hcur2
          (try simp only [Act.put, List.getElem_toArray, List.getElem_cons_zero, List.getElem_cons_succ, List.setIfInBounds_toArray, List.set_cons_zero, List.set_cons_succ])
          refine wpAnyH_ready (rs := [7]) (by decide +kernel) (by simp) ?_
          refine AllReadyH.cons rfl (fun K hK => ?_) AllReadyH.nil
          (try rw [if_pos (by rfl)])
          refine oper_append_run (.tmp 48) (.tmp 53) 24 rfl rfl rfl Hrun.out ?_
          refine hK.out _ _ (HP9.out.below) (fun hcur2 => ?_)
          clear hK K
          replace hcur := hcur2
          (try dsimp only at hcur)
          clear hcur2
          (try simp only [Act.put, List.getElem_toArray, List.getElem_cons_zero, List.getElem_cons_succ, List.setIfInBounds_toArray, List.set_cons_zero, List.set_cons_succ])
          clear HO
          have HO := Lib.hid HP9.out
          clear Hrun HP9
          clear x0 x1 x2 x3 x4 x5 x6 x7 f0 f1 f2 f3 f4 f5 f6 f7
          obtain ⟨x0, x1, x2, x3, x4, x5, x6, x7, f0, f1, f2, f3, f4, f5, f6, f7⟩ := nd_facts (HO.out.sx.has 0 _ _ rfl).1
          refine wpAnyH_take (i := 8) (v := ?_) rfl (by decide +kernel) (by decide +kernel) (by decide +kernel) (fun _ _ _ h => h) (Or.inl ⟨by rfl, ?hy⟩) hcur ?_
          case hy =>
            intro w1 hSw
            (try dsimp only at hSw)
            have cj := (hSw.cell (p := ⟨b, off + j, none⟩) HB1.out).trans HC1.out
            have dj := (hSw.cell (p := ⟨b', off' + j, none⟩) HB2.out).trans HC2.out
            go_simp
            (try with_reducible rfl)
          (try simp only [Act.put, List.getElem_toArray, List.getElem_cons_zero, List.getElem_cons_succ, List.setIfInBounds_toArray, List.set_cons_zero, List.set_cons_succ])
          refine wpAnyH_ready (rs := [9]) (by decide +kernel) (by simp) ?_
          refine AllReadyH.cons rfl (fun K hK => ?_) AllReadyH.nil
          go_simp
          have hO := HO.out.setc 0 rfl 7 (.slice A9 (m + 1) c9)
          simp only [List.set_cons_zero, List.set_cons_succ] at hO
          refine hK.out _ _ (hO.below) (fun hcur2 => ?_)
          clear hK K
          replace hcur := hcur2
          (try dsimp only at hcur)
          clear hcur2
          (try simp only [Act.put, List.getElem_toArray, List.getElem_cons_zero, List.getElem_cons_succ, List.setIfInBounds_toArray, List.set_cons_zero, List.set_cons_succ])
          generalize World.setCell _ _ _ = X9 at hO hcur ⊢
          replace HO := Lib.hid hO
          clear hO
          refine wpAnyH_done (by decide +kernel) ?_ _
          go_wp2_with fail
          (go_roundw; (case rel => exact ⟨j + 1, m + 1, A2, A9, c1', c9, by go_num, HJ.out.1, HJ.out.2.1, HJ.out.2.2, (by have := HO.out; rw [HS2.out] at this; exact this)⟩); (case measure => simp [intOf]; omega))
    · obtain rfl : j = q := by have := H.out; omega
      clear H hlt
      obtain ⟨y0, y1, y2, y3, y4, y5, y6, y7, q0, q1, q2, q3, q4, q5, q6, q7⟩ := nd_facts (HO.out.sx.has 1 _ _ rfl).1
      have hZ := HO.out.store 1 rfl (.int .i64 level) (.string nlow) (.string high) (.bool last) (.int .i64 next) (.slice A1 m c1) (.slice none 0 0) (.slice B1 m c2)
      have hkr : RdS _ A1 m (seg keys p j) := hZ.rowRd 0 rfl
      have hcr : RdI _ B1 m (seg kids p j) := hZ.rowRd 1 rfl
      have hkl : (seg keys p j).length = m := by have := hkr.1; rw [strs_length] at this; omega
      have hcl : (seg kids p j).length = m := by have := hcr.1; rw [i64s_length] at this; omega
      have hm3 : m ≤ 1000 := by have := HN.out; rw [seg_len (by omega)] at hkl; omega
      have hlies : LiesF w.heap.size _ ⟨level, nlow, high, last, next, seg keys p j, [], seg kids p j⟩ A1 none B1 c1 0 c2 :=
        ⟨{ low := H00.out.low, high := H00.out.high, fit := fits_seg H00.out.fit p j, la := by simp only []; omega, lb := by simp, lc := by simp only []; omega
           keys := by rw [hkl]; exact hkr
           vals := (zero_lies _).vals
           kids := by rw [hcl]; exact hcr
           ka := by rw [hkl]; exact hZ.rowLe 0 rfl
           kb := Nat.le_refl _
           kc := by rw [hcl]; exact hZ.rowLe 1 rfl },
         fun _ a e => hZ.rowF 0 rfl a e, fun q => by simp at q, fun _ a e => hZ.rowF 1 rfl a e⟩
      have hcells : ndCells ⟨level, nlow, high, last, next, seg keys p j, [], seg kids p j⟩ A1 none B1 c1 0 c2 = #[.int .i64 level, .string nlow, .string high, .bool last, .int .i64 next, .slice A1 m c1, .slice none 0 0, .slice B1 m c2] := by
        simp only [ndCells, hkl, hcl, List.length_nil]
      have HFI := And.intro hZ.below (And.intro hlies hcells)
      simp only [set8] at HFI
      replace HFI := Lib.hid HFI
      clear hZ hkr hcr hkl hcl hlies hcells hm3 hq hq63 hpq hm HN HO
      obtain rfl := HEN.out
      go_wp2_with fail
      exact bodyPost_ret (v := .agg #[.int .i64 level, .string nlow, .string high, .bool last, .int .i64 next, .slice A1 m c1, .slice none 0 0, .slice B1 m c2]) (by simp [results, Try.results132, go_sem, *]) rfl ⟨A1, none, B1, c1, 0, c2, by rw [HFI.out.2.2], HFI.out.2.1, HFI.out.1⟩

end Go.Proofs.Ytcoiadncennhpaa
