/- Contracts of bowerref11: Leaf, Pairs, More. -/
import Derived.Test.YtcoiadncennhpaaLeafScan
namespace Go.Proofs.Ytcoiadncennhpaa
open Go.RowKit

set_option maxRecDepth 100000 in
set_option maxHeartbeats 1000000 in
theorem refleaf_any (d : Nd) (A B C : Option Addr) (ca cb cc : Nat) (w : World) (h : Lies w d A B C ca cb cc) : Calls Try.prog 41 #[.agg (ndCells d A B C ca cb cc)] w (Ret (.bool (leafB d)) w) := by
  have HB := below_alloc w (.cells (ndCells d A B C ca cb cc) 26)
  have hbx := Boxed.new w d A B C ca cb cc 26
  replace h := h.up HB
  have HC := Lib.hid (fun W hW => refsound_any d 64 A B C ca cb cc W hW)
  have hlb : leafB d = (decide (d.level = 0) && soundB d 64) := rfl
  generalize soundB d 64 = s at hlb HC
  generalize leafB d = lb at hlb ⊢
  have HL := Lib.hid hlb
  clear hlb
  obtain ⟨level, low, high, last, next, keys, vals, kids⟩ := d
  simp only [ndCells] at HB hbx h HC ⊢
  simp only [] at HL
  go_enter Try.func41, Try.ntmps41
  go_upto_region 1 with fail
  generalize w.alloc _ = W at HB hbx h ⊢
  obtain ⟨x0, x1, x2, x3, x4, x5, x6, x7⟩ := id hbx
  simp only [] at x0 x1 x2 x3 x4 x5 x6 x7
  by_cases hl : level = 0
  · subst hl
    go_wp2_with fail
    refine (HC.out _ h).mono ?_
    rintro e wn ⟨rfl, hbn⟩
    have HB2 := Lib.hid (below_of HB hbn)
    clear hbn
    go_wp2_with fail
    go_ret
    exact ⟨ret_bool (by rw [HL.out]; rfl), HB2.out⟩
  · have hl2 : (level == (0 : Int)) = false := by rw [beq_eq_false_iff_ne]; exact hl
    have HLL := Lib.hid hl
    clear hl
    go_wp2_with fail
    go_ret
    exact ⟨ret_bool (by rw [HL.out, decide_eq_false HLL.out]; rfl), HB⟩

set_option maxRecDepth 100000 in
set_option maxHeartbeats 1000000 in
theorem refmore_any (d : Nd) (many : Nat) (high : ByteArray) (limit : Int) (A B C : Option Addr) (ca cb cc : Nat) (w : World) (h : Lies w d A B C ca cb cc) (hhi : high.size ≤ maxLen) :
    Calls Try.prog 47 #[.agg (ndCells d A B C ca cb cc), .int .i64 many, .string high, .int .i64 limit] w (Ret (.bool (decide ((many : Int) < limit) && !d.last && !Pl.ls high.data.toList d.high.data.toList)) w) := by
  have hS := Lib.hid ((Sx.start0 w).alloc (.cells (ndCells d A B C ca cb cc) 26))
  have HL := Lib.hid (fun W => refless_any high d.high W hhi h.high)
  generalize Pl.ls high.data.toList d.high.data.toList = rh at HL ⊢
  clear h hhi
  obtain ⟨level, nlow, nhigh, last, next, keys, vals, kids⟩ := d
  simp only [ndCells, List.nil_append] at hS ⊢
  simp only [] at HL
  go_enter Try.func47, Try.ntmps47
  go_upto_region 1 with fail
  generalize w.alloc _ = W at hS ⊢
  obtain ⟨x0, x1, x2, x3, x4, x5, x6, x7, f0, f1, f2, f3, f4, f5, f6, f7⟩ := nd_facts (hS.out.has 0 _ _ rfl).1
  clear f0 f1 f2 f3 f4 f5 f6 f7
  by_cases hlm : (many : Int) < limit
  · have hlb : decide ((many : Int) < limit) = true := decide_eq_true hlm
    clear hlm
    cases last
    · go_wp2_with fail
      refine (HL.out _).mono ?_
      rintro e wn ⟨rfl, hbn⟩
      have HB2 := Lib.hid (hS.out.call hbn).below
      clear hbn x0 x1 x2 x3 x4 x5 x6 x7
      go_wp2_with fail
      go_ret
      exact ⟨ret_bool (by first | rfl | simp [hlb]), HB2.out⟩
    · go_wp2_with fail
      go_ret
      exact ⟨ret_bool (by simp), hS.out.below⟩
  · have hlb : decide ((many : Int) < limit) = false := decide_eq_false hlm
    clear hlm
    go_wp2_with fail
    go_ret
    exact ⟨ret_bool (by first | (rw [hlb]; rfl) | simp [hlb]), hS.out.below⟩

theorem zip_push {ks : List ByteArray} {vs : List Int} (hv : vs.length = ks.length) {j : Nat} (hj : j < ks.length) : (Pl.zipP ks vs).take (j + 1) = (Pl.zipP ks vs).take j ++ [⟨ks[j], vs[j]'(by omega)⟩] := by
  have hz : j < (Pl.zipP ks vs).length := by rw [Pl.zipP_len hv.symm]; exact hj
  rw [List.take_add_one, List.getElem?_eq_getElem hz, Pl.zipP_at j hj (by omega) hz]
  rfl

set_option maxRecDepth 100000 in
set_option maxHeartbeats 4000000 in
theorem refpairs_any (d : Nd) (A B C : Option Addr) (ca cb cc : Nat) (w : World) (h : Lies w d A B C ca cb cc) (hv : d.vals.length = d.keys.length) (hl : d.keys.length ≤ 1000) :
    Calls Try.prog 42 #[.agg (ndCells d A B C ca cb cc)] w (PrsRet (Pl.zipP d.keys d.vals) w) := by
  have H00 := Lib.hid h
  have hO := (Ow.start ((Sx.start0 w).alloc (.cells (ndCells d A B C ca cb cc) 26))).nil 48 2
  simp only [List.nil_append] at hO
  have HO := Lib.hid hO
  have HV := Lib.hid hv
  clear h hO hv
  obtain ⟨level, low, high, last, next, keys, vals, kids⟩ := d
  simp only [ndCells] at HO ⊢
  simp only [] at HV hl
  have hl2 : keys.length ≤ 9223372036854775807 := by omega
  go_enter Try.func42, Try.ntmps42
  go_upto_region 1 with fail
  generalize w.alloc _ = W at HO ⊢
  go_wp2_with fail
  go_loopw [3, 4] (fun v i wr => ∃ (j : Nat) (A1 : Option Addr) (c1 : Nat), i = .int .i64 j ∧ v = .slice A1 j c1 ∧ Hid (j ≤ keys.length ∧
    Ow w.heap.size w wr [(w.heap.size, .cells #[.int .i64 level, .string low, .string high, .bool last, .int .i64 next, .slice A keys.length ca, .slice B vals.length cb, .slice C kids.length cc] 26)] [⟨48, 2, .slice A1 j c1, j, prRow ((Pl.zipP keys vals).take j)⟩])) (fun _ i _ => keys.length - (intOf i).toNat)
  case atStart => exact ⟨0, none, 0, rfl, rfl, Nat.zero_le _, HO.out⟩
  case round =>
    obtain ⟨j, A1, c1, rfl, rfl, H⟩ := hrel
    clear HO
    have HO := Lib.hid H.out.2
    have HJ := Lib.hid H.out.1
    clear H
    have hjb : j ≤ 1000 := by have := HJ.out; omega
    by_cases hlt : j < keys.length
    · have hlt2 : j < vals.length := by rw [HV.out]; exact hlt
      have HT := Lib.hid (zip_push HV.out hlt)
      have hk : RdS w A keys.length keys := H00.out.keys
      have hw : RdU w B vals.length vals := H00.out.vals
      obtain ⟨b, off, hA, hb, hc⟩ := hk.spot (show 0 < keys.length by omega)
      obtain ⟨b', off', hB, hb', hc'⟩ := hw.spot (show 0 < vals.length by omega)
      subst hA hB
      have HC1 := Lib.hid (And.intro hb (hc j hlt))
      have HC2 := Lib.hid (And.intro hb' (hc' j hlt2))
      have hjn2 : (j : Int) < (vals.length : Int) := by omega
      have hjn1 : (j : Int) < (keys.length : Int) := by omega
      clear hk hw hb hb' hc hc'
      generalize keys[j] = kj at HC1 HT
      generalize vals[j]'_ = vj at HC2 HT
      obtain ⟨x0, x1, x2, x3, x4, x5, x6, x7, -, -, -, -, -, -, -, -⟩ := nd_facts (HO.out.sx.has 0 _ _ rfl).1
      go_upto_region 5 with fail
      clear x0 x1 x2 x3 x4 x5 x6 x7
      refine wp_region_held_drew (S := fun w' => Sx w.heap.size w w' [(w.heap.size, .cells #[.int .i64 level, .string low, .string high, .bool last, .int .i64 next, .slice (some ⟨b, off, none⟩) keys.length ca, .slice (some ⟨b', off', none⟩) vals.length cb, .slice C kids.length cc] 26)]) (by kernel_rfl) (HO.out.call (Below.drew (Below.refl wr.heap.size wr))).sx (fun hcur => ?_)
      (try dsimp only at hcur)
      replace HO := Lib.hid (HO.out.call (Below.drew (Below.refl wr.heap.size wr)))
      generalize wr.drew = X at HO hcur ⊢
      obtain ⟨A2, c2, W3, hrun, hc2, hO2⟩ := HO.out.pushP 52 (by kernel_rfl) 0 rfl ⟨kj, vj⟩ (by omega)
      simp only [List.set_cons_zero] at hO2
      have HP9 := Lib.hid hO2
      have Hrun := Lib.hid hrun
      simp only [prCells] at Hrun
      clear hrun hO2
      refine wpAnyH_take (i := 0) (v := ?_) rfl (by decide +kernel) (by decide +kernel) (by decide +kernel) (fun _ _ _ h => h) (Or.inl ⟨by rfl, ?hy⟩) hcur ?_
      case hy =>
        intro w1 hSw
        (try dsimp only at hSw)
        obtain ⟨x0, x1, x2, x3, x4, x5, x6, x7, -, -, -, -, -, -, -, -⟩ := nd_facts (hSw.has 0 _ _ rfl).1
        have k0 := (hSw.below.cell (p := ⟨b, off + j, none⟩) HC1.out.1).trans HC1.out.2
        have k1 := (hSw.below.cell (p := ⟨b', off' + j, none⟩) HC2.out.1).trans HC2.out.2
        go_simp
        (try with_reducible rfl)
      (try simp only [Act.put, List.getElem_toArray, List.getElem_cons_zero, List.getElem_cons_succ, List.setIfInBounds_toArray, List.set_cons_zero, List.set_cons_succ])
      refine wpAnyH_take (i := 1) (v := ?_) rfl (by decide +kernel) (by decide +kernel) (by decide +kernel) (fun _ _ _ h => h) (Or.inl ⟨by rfl, ?hy⟩) hcur ?_
      case hy =>
        intro w1 hSw
        (try dsimp only at hSw)
        obtain ⟨x0, x1, x2, x3, x4, x5, x6, x7, -, -, -, -, -, -, -, -⟩ := nd_facts (hSw.has 0 _ _ rfl).1
        have k0 := (hSw.below.cell (p := ⟨b, off + j, none⟩) HC1.out.1).trans HC1.out.2
        have k1 := (hSw.below.cell (p := ⟨b', off' + j, none⟩) HC2.out.1).trans HC2.out.2
        go_simp
        (try with_reducible rfl)
      (try simp only [Act.put, List.getElem_toArray, List.getElem_cons_zero, List.getElem_cons_succ, List.setIfInBounds_toArray, List.set_cons_zero, List.set_cons_succ])
      refine wpAnyH_take (i := 2) (v := ?_) rfl (by decide +kernel) (by decide +kernel) (by decide +kernel) (fun _ _ _ h => h) (Or.inl ⟨by rfl, ?hy⟩) hcur ?_
      case hy =>
        intro w1 hSw
        (try dsimp only at hSw)
        obtain ⟨x0, x1, x2, x3, x4, x5, x6, x7, -, -, -, -, -, -, -, -⟩ := nd_facts (hSw.has 0 _ _ rfl).1
        have k0 := (hSw.below.cell (p := ⟨b, off + j, none⟩) HC1.out.1).trans HC1.out.2
        have k1 := (hSw.below.cell (p := ⟨b', off' + j, none⟩) HC2.out.1).trans HC2.out.2
        go_simp
        (try with_reducible rfl)
      (try simp only [Act.put, List.getElem_toArray, List.getElem_cons_zero, List.getElem_cons_succ, List.setIfInBounds_toArray, List.set_cons_zero, List.set_cons_succ])
      refine wpAnyH_take (i := 3) (v := ?_) rfl (by decide +kernel) (by decide +kernel) (by decide +kernel) (fun _ _ _ h => h) (Or.inl ⟨by rfl, ?hy⟩) hcur ?_
      case hy =>
        intro w1 hSw
        (try dsimp only at hSw)
        obtain ⟨x0, x1, x2, x3, x4, x5, x6, x7, -, -, -, -, -, -, -, -⟩ := nd_facts (hSw.has 0 _ _ rfl).1
        have k0 := (hSw.below.cell (p := ⟨b, off + j, none⟩) HC1.out.1).trans HC1.out.2
        have k1 := (hSw.below.cell (p := ⟨b', off' + j, none⟩) HC2.out.1).trans HC2.out.2
        go_simp
        (try with_reducible rfl)
      (try simp only [Act.put, List.getElem_toArray, List.getElem_cons_zero, List.getElem_cons_succ, List.setIfInBounds_toArray, List.set_cons_zero, List.set_cons_succ])
      refine wpAnyH_take (i := 4) (v := ?_) rfl (by decide +kernel) (by decide +kernel) (by decide +kernel) (fun _ _ _ h => h) (Or.inl ⟨by rfl, ?hy⟩) hcur ?_
      case hy =>
        intro w1 hSw
        (try dsimp only at hSw)
        obtain ⟨x0, x1, x2, x3, x4, x5, x6, x7, -, -, -, -, -, -, -, -⟩ := nd_facts (hSw.has 0 _ _ rfl).1
        have k0 := (hSw.below.cell (p := ⟨b, off + j, none⟩) HC1.out.1).trans HC1.out.2
        have k1 := (hSw.below.cell (p := ⟨b', off' + j, none⟩) HC2.out.1).trans HC2.out.2
        go_simp
        (try with_reducible rfl)
      (try simp only [Act.put, List.getElem_toArray, List.getElem_cons_zero, List.getElem_cons_succ, List.setIfInBounds_toArray, List.set_cons_zero, List.set_cons_succ])
      refine wpAnyH_take (i := 5) (v := ?_) rfl (by decide +kernel) (by decide +kernel) (by decide +kernel) (fun _ _ _ h => h) (Or.inl ⟨by rfl, ?hy⟩) hcur ?_
      case hy =>
        intro w1 hSw
        (try dsimp only at hSw)
        obtain ⟨x0, x1, x2, x3, x4, x5, x6, x7, -, -, -, -, -, -, -, -⟩ := nd_facts (hSw.has 0 _ _ rfl).1
        have k0 := (hSw.below.cell (p := ⟨b, off + j, none⟩) HC1.out.1).trans HC1.out.2
        have k1 := (hSw.below.cell (p := ⟨b', off' + j, none⟩) HC2.out.1).trans HC2.out.2
        go_simp
        (try with_reducible rfl)
      (try simp only [Act.put, List.getElem_toArray, List.getElem_cons_zero, List.getElem_cons_succ, List.setIfInBounds_toArray, List.set_cons_zero, List.set_cons_succ])
      refine wpAnyH_take (i := 6) (v := ?_) rfl (by decide +kernel) (by decide +kernel) (by decide +kernel) (fun _ _ _ h => h) (Or.inl ⟨by rfl, ?hy⟩) hcur ?_
      case hy =>
        intro w1 hSw
        (try dsimp only at hSw)
        obtain ⟨x0, x1, x2, x3, x4, x5, x6, x7, -, -, -, -, -, -, -, -⟩ := nd_facts (hSw.has 0 _ _ rfl).1
        have k0 := (hSw.below.cell (p := ⟨b, off + j, none⟩) HC1.out.1).trans HC1.out.2
        have k1 := (hSw.below.cell (p := ⟨b', off' + j, none⟩) HC2.out.1).trans HC2.out.2
        go_simp
        (try with_reducible rfl)
      (try simp only [Act.put, List.getElem_toArray, List.getElem_cons_zero, List.getElem_cons_succ, List.setIfInBounds_toArray, List.set_cons_zero, List.set_cons_succ])
      refine wpAnyH_take (i := 7) (v := ?_) rfl (by decide +kernel) (by decide +kernel) (by decide +kernel) (fun _ _ _ h => h) (Or.inl ⟨by rfl, ?hy⟩) hcur ?_
      case hy =>
        intro w1 hSw
        (try dsimp only at hSw)
        obtain ⟨x0, x1, x2, x3, x4, x5, x6, x7, -, -, -, -, -, -, -, -⟩ := nd_facts (hSw.has 0 _ _ rfl).1
        have k0 := (hSw.below.cell (p := ⟨b, off + j, none⟩) HC1.out.1).trans HC1.out.2
        have k1 := (hSw.below.cell (p := ⟨b', off' + j, none⟩) HC2.out.1).trans HC2.out.2
        go_simp
        (try with_reducible rfl)
      (try simp only [Act.put, List.getElem_toArray, List.getElem_cons_zero, List.getElem_cons_succ, List.setIfInBounds_toArray, List.set_cons_zero, List.set_cons_succ])
      refine wpAnyH_take (i := 8) (v := ?_) rfl (by decide +kernel) (by decide +kernel) (by decide +kernel) (fun _ _ _ h => h) (Or.inl ⟨by rfl, ?hy⟩) hcur ?_
      case hy =>
        intro w1 hSw
        (try dsimp only at hSw)
        obtain ⟨x0, x1, x2, x3, x4, x5, x6, x7, -, -, -, -, -, -, -, -⟩ := nd_facts (hSw.has 0 _ _ rfl).1
        have k0 := (hSw.below.cell (p := ⟨b, off + j, none⟩) HC1.out.1).trans HC1.out.2
        have k1 := (hSw.below.cell (p := ⟨b', off' + j, none⟩) HC2.out.1).trans HC2.out.2
        go_simp
        (try with_reducible rfl)
      (try simp only [Act.put, List.getElem_toArray, List.getElem_cons_zero, List.getElem_cons_succ, List.setIfInBounds_toArray, List.set_cons_zero, List.set_cons_succ])
      refine wpAnyH_take (i := 9) (v := ?_) rfl (by decide +kernel) (by decide +kernel) (by decide +kernel) (fun _ _ _ h => h) (Or.inl ⟨by rfl, ?hy⟩) hcur ?_
      case hy =>
        intro w1 hSw
        (try dsimp only at hSw)
        obtain ⟨x0, x1, x2, x3, x4, x5, x6, x7, -, -, -, -, -, -, -, -⟩ := nd_facts (hSw.has 0 _ _ rfl).1
        have k0 := (hSw.below.cell (p := ⟨b, off + j, none⟩) HC1.out.1).trans HC1.out.2
        have k1 := (hSw.below.cell (p := ⟨b', off' + j, none⟩) HC2.out.1).trans HC2.out.2
        go_simp
        (try with_reducible rfl)
      (try simp only [Act.put, List.getElem_toArray, List.getElem_cons_zero, List.getElem_cons_succ, List.setIfInBounds_toArray, List.set_cons_zero, List.set_cons_succ])
      refine wpAnyH_take (i := 10) (v := ?_) rfl (by decide +kernel) (by decide +kernel) (by decide +kernel) (fun _ _ _ h => h) (Or.inl ⟨by rfl, ?hy⟩) hcur ?_
      case hy =>
        intro w1 hSw
        (try dsimp only at hSw)
        obtain ⟨x0, x1, x2, x3, x4, x5, x6, x7, -, -, -, -, -, -, -, -⟩ := nd_facts (hSw.has 0 _ _ rfl).1
        have k0 := (hSw.below.cell (p := ⟨b, off + j, none⟩) HC1.out.1).trans HC1.out.2
        have k1 := (hSw.below.cell (p := ⟨b', off' + j, none⟩) HC2.out.1).trans HC2.out.2
        go_simp
        (try with_reducible rfl)
      (try simp only [Act.put, List.getElem_toArray, List.getElem_cons_zero, List.getElem_cons_succ, List.setIfInBounds_toArray, List.set_cons_zero, List.set_cons_succ])
      refine wpAnyH_take (i := 11) (v := ?_) rfl (by decide +kernel) (by decide +kernel) (by decide +kernel) (fun _ _ _ h => h) (Or.inl ⟨by rfl, ?hy⟩) hcur ?_
      case hy =>
        intro w1 hSw
        (try dsimp only at hSw)
        obtain ⟨x0, x1, x2, x3, x4, x5, x6, x7, -, -, -, -, -, -, -, -⟩ := nd_facts (hSw.has 0 _ _ rfl).1
        have k0 := (hSw.below.cell (p := ⟨b, off + j, none⟩) HC1.out.1).trans HC1.out.2
        have k1 := (hSw.below.cell (p := ⟨b', off' + j, none⟩) HC2.out.1).trans HC2.out.2
        go_simp
        (try with_reducible rfl)
      (try simp only [Act.put, List.getElem_toArray, List.getElem_cons_zero, List.getElem_cons_succ, List.setIfInBounds_toArray, List.set_cons_zero, List.set_cons_succ])
      refine wpAnyH_ready (rs := [12]) (by decide +kernel) (by simp) ?_
      refine AllReadyH.cons rfl (fun K hK => ?_) AllReadyH.nil
      go_simp
      refine hK.out _ _ ((HO.out.call (below_alloc X _)).sx) (fun hcur2 => ?_)
      clear hK K
      replace hcur := hcur2
      (try dsimp only at hcur)
      clear hcur2
      (try simp only [Act.put, List.getElem_toArray, List.getElem_cons_zero, List.getElem_cons_succ, List.setIfInBounds_toArray, List.set_cons_zero, List.set_cons_succ])
      refine wpAnyH_ready (rs := [13]) (by decide +kernel) (by simp) ?_
      refine AllReadyH.cons rfl (fun K hK => ?_) AllReadyH.nil
      (try rw [if_pos (by rfl)])
      refine oper_append_run (.tmp 12) (.tmp 24) 52 rfl rfl rfl Hrun.out ?_
      refine hK.out _ _ (HP9.out.sx) (fun hcur2 => ?_)
      clear hK K
      replace hcur := hcur2
      (try dsimp only at hcur)
      clear hcur2
      (try simp only [Act.put, List.getElem_toArray, List.getElem_cons_zero, List.getElem_cons_succ, List.setIfInBounds_toArray, List.set_cons_zero, List.set_cons_succ])
      clear HO Hrun
      refine wpAnyH_take (i := 14) (v := ?_) rfl (by decide +kernel) (by decide +kernel) (by decide +kernel) (fun _ _ _ h => h) (Or.inl ⟨by rfl, ?hy⟩) hcur ?_
      case hy =>
        intro w1 hSw
        (try dsimp only at hSw)
        obtain ⟨x0, x1, x2, x3, x4, x5, x6, x7, -, -, -, -, -, -, -, -⟩ := nd_facts (hSw.has 0 _ _ rfl).1
        have k0 := (hSw.below.cell (p := ⟨b, off + j, none⟩) HC1.out.1).trans HC1.out.2
        have k1 := (hSw.below.cell (p := ⟨b', off' + j, none⟩) HC2.out.1).trans HC2.out.2
        go_simp
        (try with_reducible rfl)
      (try simp only [Act.put, List.getElem_toArray, List.getElem_cons_zero, List.getElem_cons_succ, List.setIfInBounds_toArray, List.set_cons_zero, List.set_cons_succ])
      refine wpAnyH_done (by decide +kernel) ?_ _
      clear hcur
      go_wp2_with fail
      go_roundw
      case rel => exact ⟨j + 1, A2, c2, by go_num, rfl, by omega, by rw [HT.out]; exact HP9.out⟩
      case measure => simp [intOf]; omega
    · obtain rfl : j = keys.length := by have := HJ.out; omega
      obtain ⟨x0, x1, x2, x3, x4, x5, x6, x7, -, -, -, -, -, -, -, -⟩ := nd_facts (HO.out.sx.has 0 _ _ rfl).1
      have HZL := Lib.hid (Pl.zipP_len HV.out.symm)
      have HF := HO.out.own 0 _ rfl
      rw [List.take_of_length_le (by rw [HZL.out]; exact Nat.le_refl _)] at HF
      have HF := Lib.hid HF
      go_wp2_with fail
      go_ret
      exact ⟨A1, c1, by rw [HZL.out]; rfl, by rw [HZL.out]; exact HF.out, HO.out.below⟩

end Go.Proofs.Ytcoiadncennhpaa
