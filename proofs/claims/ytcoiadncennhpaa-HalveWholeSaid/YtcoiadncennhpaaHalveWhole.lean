/- The law HalveWhole: the walk. -/
import Derived.Test.YtcoiadncennhpaaHal8
import Derived.Deep.DeepCutAuto
namespace Go.Proofs.Ytcoiadncennhpaa
open Go.RowKit

theorem P2Ret.to {P : Program} {f : FuncId} {args : Array Value} {w : World} {o o' : Bool × Nd × Nd} (h : Calls P f args w (P2Ret o w)) (e : o = o') : Calls P f args w (P2Ret o' w) := e ▸ h
theorem whole_split (d : Nd) (cell : Int) : (splitD d cell).1 = false ∨ ((splitD d cell).1 = true ∧ (splitD d cell).2.1.next = cell ∧ WholeP (splitD d cell).2.1 (splitD d cell).2.2 d.keys.length ∧
    mergeD (splitD d cell).2.1 (splitD d cell).2.2 64 = (true, d) ∧ evenD (splitD d cell).2.1 (splitD d cell).2.2 = (true, (splitD d cell).2.1, (splitD d cell).2.2)) := by
  cases hp : splitB d cell
  · left; unfold splitD; rw [hp]; rfl
  · right
    have e : splitD d cell = (true, partL d cell, partR d) := by unfold splitD; rw [hp]; rfl
    obtain ⟨h1, h2, h3, h4⟩ := split_law hp
    rw [e]
    exact ⟨rfl, rfl, whole_part h1 h2, h3, h4⟩
theorem whole_burst (d : Nd) (low : ByteArray) (kid cell : Int) : (burstD d low kid cell).1 = false ∨ ((burstD d low kid cell).1 = true ∧ (burstD d low kid cell).2.1.next = cell ∧ WholeP (burstD d low kid cell).2.1 (burstD d low kid cell).2.2 (d.keys.length + 1) ∧
    (insB (burstD d low kid cell).2.1 low = true → kidAt (burstD d low kid cell).2.1 (overI (burstD d low kid cell).2.1 low) = kid ∧ kidIs (burstD d low kid cell).2.1 (overI (burstD d low kid cell).2.1 low) = true) ∧
    (insB (burstD d low kid cell).2.2 low = true → kidAt (burstD d low kid cell).2.2 (overI (burstD d low kid cell).2.2 low) = kid ∧ kidIs (burstD d low kid cell).2.2 (overI (burstD d low kid cell).2.2 low) = true)) := by
  cases hp : burstB d low kid cell
  · left; rw [burstD_no hp]
  · right
    rw [burstD_yes hp]
    obtain ⟨h1, h2, h3, h4, h5, h6⟩ := burst_law hp
    refine ⟨rfl, rfl, ?_, h5, h6⟩
    rw [← h3]
    exact whole_part h1 h2

set_option maxRecDepth 100000 in
set_option maxHeartbeats 16000000 in
theorem halvewhole_any (d : Nd) (low : ByteArray) (kid cell : Int) (A B C : Option Addr) (ca cb cc : Nat) (w : World) (h : Lies w d A B C ca cb cc) (hk : low.size ≤ maxLen) :
    Calls Try.prog 14 #[.agg (ndCells d A B C ca cb cc), .string low, .int .i64 kid, .int .i64 cell] w (Ret (.bool true) w) := by
  have hS := Lib.hid ((Sx.start0 w).alloc (.cells (ndCells d A B C ca cb cc) 26))
  have H00 := Lib.hid h
  have HLi := Lib.hid (fun W hW => lightN_any d A B C ca cb cc W hW)
  have hks : low.size ≤ 9223372036854775807 := hk
  have HK := Lib.hid hk
  clear h hk
  cases hli : lightN d
  · rw [hli] at HLi
    clear hli
    obtain ⟨level, nlow, high, last, next, keys, vals, kids⟩ := d
    simp only [ndCells, List.nil_append] at hS HLi ⊢
    go_enter Try.func14, Try.ntmps14
    go_upto_region 1 with fail
    generalize w.alloc _ = W at hS ⊢
    obtain ⟨x0, x1, x2, x3, x4, x5, x6, x7, f0, f1, f2, f3, f4, f5, f6, f7⟩ := nd_facts (hS.out.has 0 _ _ rfl).1
    go_wp2_with fail
    refine (HLi.out _ (H00.out.up hS.out.below)).mono ?_
    rintro e0 wn ⟨rfl, hbn⟩
    clear x0 x1 x2 x3 x4 x5 x6 x7 f0 f1 f2 f3 f4 f5 f6 f7
    replace hS := Lib.hid (hS.out.call hbn)
    clear hbn
    obtain ⟨x0, x1, x2, x3, x4, x5, x6, x7, f0, f1, f2, f3, f4, f5, f6, f7⟩ := nd_facts (hS.out.has 0 _ _ rfl).1
    go_wp2_with fail
    refine (lives13_any _).mono ?_
    rintro e wn ⟨rfl, hbn⟩
    clear x0 x1 x2 x3 x4 x5 x6 x7 f0 f1 f2 f3 f4 f5 f6 f7
    replace hS := Lib.hid (hS.out.call hbn)
    clear hbn
    go_wp2_with fail
    go_ret
    exact ⟨rfl, hS.out.below⟩
  · rw [hli] at HLi
    clear hli
    by_cases hk100 : 100 < low.size
    · have hk100' : decide ((100 : Int) < (low.size : Int)) = true := decide_eq_true (by omega)
      clear hk100
      obtain ⟨level, nlow, high, last, next, keys, vals, kids⟩ := d
      simp only [ndCells, List.nil_append] at hS HLi ⊢
      go_enter Try.func14, Try.ntmps14
      go_upto_region 1 with fail
      generalize w.alloc _ = W at hS ⊢
      obtain ⟨x0, x1, x2, x3, x4, x5, x6, x7, f0, f1, f2, f3, f4, f5, f6, f7⟩ := nd_facts (hS.out.has 0 _ _ rfl).1
      go_wp2_with fail
      refine (HLi.out _ (H00.out.up hS.out.below)).mono ?_
      rintro e0 wn ⟨rfl, hbn⟩
      clear x0 x1 x2 x3 x4 x5 x6 x7 f0 f1 f2 f3 f4 f5 f6 f7
      replace hS := Lib.hid (hS.out.call hbn)
      clear hbn
      obtain ⟨x0, x1, x2, x3, x4, x5, x6, x7, f0, f1, f2, f3, f4, f5, f6, f7⟩ := nd_facts (hS.out.has 0 _ _ rfl).1
      go_wp2_with fail
      refine (lives13_any _).mono ?_
      rintro e wn ⟨rfl, hbn⟩
      clear x0 x1 x2 x3 x4 x5 x6 x7 f0 f1 f2 f3 f4 f5 f6 f7
      replace hS := Lib.hid (hS.out.call hbn)
      clear hbn
      go_wp2_with fail
      go_ret
      exact ⟨rfl, hS.out.below⟩
    · have hk100' : decide ((100 : Int) < (low.size : Int)) = false := decide_eq_false (by omega)
      clear hk100
      have HSp := Lib.hid (fun W hW => split_any d cell A B C ca cb cc W hW)
      have HBu := Lib.hid (fun W hW => burst_any d low kid cell A B C ca cb cc W hW HK.out)
      have HP := Lib.hid (whole_split d cell)
      have HQ := Lib.hid (whole_burst d low kid cell)
      have HSM := Lib.hid (fun (A' B' C' : Option Addr) (ca' cb' cc' : Nat) (W : World) h k => Ret.to (sameN_any d d A' B' C' A B C ca' cb' cc' ca cb cc W h k) (congrArg Value.bool (sameB_self d)))
      have HMe := Lib.hid (fun (x y : Nd) (A1 A2 A3 B1 B2 B3 : Option Addr) (c1 c2 c3 d1 d2 d3 : Nat) (W : World) (h : Lies W x A1 A2 A3 c1 c2 c3) (k : Lies W y B1 B2 B3 d1 d2 d3) (q : mergeD x y 64 = (true, d)) => NRet.to (merge_any x y 64 A1 A2 A3 B1 B2 B3 c1 c2 c3 d1 d2 d3 W h k) q)
      generalize splitD d cell = o1 at HP HSp
      generalize burstD d low kid cell = o2 at HQ HBu
      obtain ⟨ok1, a, b⟩ := o1
      obtain ⟨ok2, e, f⟩ := o2
      simp only [] at HP HQ
      obtain ⟨level, nlow, high, last, next, keys, vals, kids⟩ := d
      simp only [] at HP HQ
      have hlk : keys.length ≤ 9223372036854775807 := H00.out.la
      simp only [ndCells] at HSp HBu HSM HMe
      simp only [ndCells, List.nil_append] at hS HLi ⊢
      go_enter Try.func14, Try.ntmps14
      go_upto_region 1 with fail
      generalize w.alloc _ = W at hS ⊢
      obtain ⟨x0, x1, x2, x3, x4, x5, x6, x7, f0, f1, f2, f3, f4, f5, f6, f7⟩ := nd_facts (hS.out.has 0 _ _ rfl).1
      go_wp2_with fail
      refine (HLi.out _ (H00.out.up hS.out.below)).mono ?_
      rintro e0 wn ⟨rfl, hbn⟩
      clear x0 x1 x2 x3 x4 x5 x6 x7 f0 f1 f2 f3 f4 f5 f6 f7
      replace hS := Lib.hid (hS.out.call hbn)
      clear hbn
      obtain ⟨x0, x1, x2, x3, x4, x5, x6, x7, f0, f1, f2, f3, f4, f5, f6, f7⟩ := nd_facts (hS.out.has 0 _ _ rfl).1
      go_wp2_with fail
      refine (HSp.out _ (H00.out.up hS.out.below)).mono ?_
      rintro e1 W1 ⟨A1, A2, A3, B1, B2, B3, c1, c2, c3, d1, d2, d3, rfl, hl1, hl2, hb1⟩
      clear x0 x1 x2 x3 x4 x5 x6 x7 f0 f1 f2 f3 f4 f5 f6 f7
      have hba := below_alloc W1 (.cells (ndCells a A1 A2 A3 c1 c2 c3) 26)
      have hbb := below_alloc (W1.alloc (.cells (ndCells a A1 A2 A3 c1 c2 c3) 26)) (.cells (ndCells b B1 B2 B3 d1 d2 d3) 26)
      have H1 := Lib.hid ((hl1.up hba).up hbb)
      have H2 := Lib.hid ((hl2.up hba).up hbb)
      replace hS := Lib.hid (((hS.out.call hb1).alloc (.cells (ndCells a A1 A2 A3 c1 c2 c3) 26)).alloc (.cells (ndCells b B1 B2 B3 d1 d2 d3) 26))
      clear hl1 hl2 hba hbb hb1 HSp
      obtain ⟨level1, nlow1, high1, last1, next1, keys1, vals1, kids1⟩ := a
      obtain ⟨level2, nlow2, high2, last2, next2, keys2, vals2, kids2⟩ := b
      simp only [List.cons_append, List.nil_append, ndCells, alloc_size] at hS H1 H2 ⊢
      go_upto_if 40 with fail
      generalize (W1.alloc _).alloc _ = W2 at hS H1 H2 ⊢
      generalize W1.heap.size = g1 at hS ⊢
      go_cut [] (fun wx => Hid (Sx w.heap.size w wx [(w.heap.size, .cells (ndCells ⟨level, nlow, high, last, next, keys, vals, kids⟩ A B C ca cb cc) 26)]))
      case first =>
        rcases HP.out with rfl | ⟨rfl, rfl, hwh, hmg, hev⟩
        · go_wp2_with fail
          go_meet
          exact Lib.hid hS.out.head
        · have HW := Lib.hid (And.intro hwh (And.intro hmg hev))
          clear hwh hmg hev HP HQ HBu
          obtain ⟨x0, x1, x2, x3, x4, x5, x6, x7, f0, f1, f2, f3, f4, f5, f6, f7⟩ := nd_facts (hS.out.has 1 _ _ rfl).1
          obtain ⟨y0, y1, y2, y3, y4, y5, y6, y7, q0, q1, q2, q3, q4, q5, q6, q7⟩ := nd_facts (hS.out.has 2 _ _ rfl).1
          go_wp2_with fail
          refine (HMe.out _ _ A1 A2 A3 B1 B2 B3 c1 c2 c3 d1 d2 d3 _ H1.out H2.out HW.out.2.1).mono ?_
          rintro e1 W3 ⟨A7, B7, C7, ca7, cb7, cc7, rfl, hl, hb⟩
          clear x0 x1 x2 x3 x4 x5 x6 x7 f0 f1 f2 f3 f4 f5 f6 f7
          clear y0 y1 y2 y3 y4 y5 y6 y7 q0 q1 q2 q3 q4 q5 q6 q7
          have hba := (below_alloc W3 (.cells (ndCells ⟨level, nlow, high, last, next, keys, vals, kids⟩ A7 B7 C7 ca7 cb7 cc7) 26))
          have H7 := Lib.hid (hl.up hba)
          replace H1 := Lib.hid ((H1.out.up hb).up hba)
          replace H2 := Lib.hid ((H2.out.up hb).up hba)
          replace hS := Lib.hid ((hS.out.call hb).alloc (.cells (ndCells ⟨level, nlow, high, last, next, keys, vals, kids⟩ A7 B7 C7 ca7 cb7 cc7) 26))
          clear hl hb hba HMe
          simp only [List.cons_append, List.nil_append, ndCells] at hS H7 H1 H2 ⊢
          go_upto_region 6 with fail
          generalize W3.alloc _ = W4 at hS H7 H1 H2 ⊢
          generalize W3.heap.size = g7 at hS ⊢
          obtain ⟨x0, x1, x2, x3, x4, x5, x6, x7, -, -, -, -, -, -, -, -⟩ := nd_facts (hS.out.has 1 _ _ rfl).1
          obtain ⟨y0, y1, y2, y3, y4, y5, y6, y7, -, -, -, -, -, -, -, -⟩ := nd_facts (hS.out.has 2 _ _ rfl).1
          obtain ⟨z0, z1, z2, z3, z4, z5, z6, z7, -, -, -, -, -, -, -, -⟩ := nd_facts (hS.out.has 0 _ _ rfl).1
          obtain ⟨s0, s1, s2, s3, s4, s5, s6, s7, -, -, -, -, -, -, -, -⟩ := nd_facts (hS.out.has 3 _ _ rfl).1
          go_wp2_with fail
          refine (whole_any _ _ keys.length A1 A2 A3 B1 B2 B3 c1 c2 c3 d1 d2 d3 _ H1.out H2.out HW.out.1).mono ?_
          rintro e1 wn ⟨rfl, hbn⟩
          clear x0 x1 x2 x3 x4 x5 x6 x7 y0 y1 y2 y3 y4 y5 y6 y7 z0 z1 z2 z3 z4 z5 z6 z7 s0 s1 s2 s3 s4 s5 s6 s7
          replace hS := Lib.hid (hS.out.call hbn)
          replace H1 := Lib.hid (H1.out.up hbn)
          replace H2 := Lib.hid (H2.out.up hbn)
          replace H7 := Lib.hid (H7.out.up hbn)
          clear hbn
          obtain ⟨x0, x1, x2, x3, x4, x5, x6, x7, -, -, -, -, -, -, -, -⟩ := nd_facts (hS.out.has 1 _ _ rfl).1
          obtain ⟨y0, y1, y2, y3, y4, y5, y6, y7, -, -, -, -, -, -, -, -⟩ := nd_facts (hS.out.has 2 _ _ rfl).1
          obtain ⟨z0, z1, z2, z3, z4, z5, z6, z7, -, -, -, -, -, -, -, -⟩ := nd_facts (hS.out.has 0 _ _ rfl).1
          obtain ⟨s0, s1, s2, s3, s4, s5, s6, s7, -, -, -, -, -, -, -, -⟩ := nd_facts (hS.out.has 3 _ _ rfl).1
          go_wp2_with fail
          refine (HSM.out A7 B7 C7 ca7 cb7 cc7 _ H7.out (H00.out.up hS.out.below)).mono ?_
          rintro e1 wn ⟨rfl, hbn⟩
          clear x0 x1 x2 x3 x4 x5 x6 x7 y0 y1 y2 y3 y4 y5 y6 y7 z0 z1 z2 z3 z4 z5 z6 z7 s0 s1 s2 s3 s4 s5 s6 s7
          replace hS := Lib.hid (hS.out.call hbn)
          replace H1 := Lib.hid (H1.out.up hbn)
          replace H2 := Lib.hid (H2.out.up hbn)
          clear H7
          clear hbn
          obtain ⟨x0, x1, x2, x3, x4, x5, x6, x7, -, -, -, -, -, -, -, -⟩ := nd_facts (hS.out.has 1 _ _ rfl).1
          obtain ⟨y0, y1, y2, y3, y4, y5, y6, y7, -, -, -, -, -, -, -, -⟩ := nd_facts (hS.out.has 2 _ _ rfl).1
          obtain ⟨z0, z1, z2, z3, z4, z5, z6, z7, -, -, -, -, -, -, -, -⟩ := nd_facts (hS.out.has 0 _ _ rfl).1
          obtain ⟨s0, s1, s2, s3, s4, s5, s6, s7, -, -, -, -, -, -, -, -⟩ := nd_facts (hS.out.has 3 _ _ rfl).1
          go_wp2_with fail
          refine (P2Ret.to (even_any _ _ A1 A2 A3 B1 B2 B3 c1 c2 c3 d1 d2 d3 _ H1.out H2.out) HW.out.2.2).mono ?_
          rintro e1 W5 ⟨E1, E2, E3, F1, F2, F3, p1, p2, p3, q1, q2, q3, rfl, hl1, hl2, hb⟩
          clear x0 x1 x2 x3 x4 x5 x6 x7 y0 y1 y2 y3 y4 y5 y6 y7 z0 z1 z2 z3 z4 z5 z6 z7 s0 s1 s2 s3 s4 s5 s6 s7
          have hba := below_alloc W5 (.cells (ndCells ⟨level1, nlow1, high1, last1, next1, keys1, vals1, kids1⟩ E1 E2 E3 p1 p2 p3) 26)
          have hbb := below_alloc (W5.alloc (.cells (ndCells ⟨level1, nlow1, high1, last1, next1, keys1, vals1, kids1⟩ E1 E2 E3 p1 p2 p3) 26)) (.cells (ndCells ⟨level2, nlow2, high2, last2, next2, keys2, vals2, kids2⟩ F1 F2 F3 q1 q2 q3) 26)
          have H5 := Lib.hid ((hl1.up hba).up hbb)
          have H6 := Lib.hid ((hl2.up hba).up hbb)
          replace H1 := Lib.hid (((H1.out.up hb).up hba).up hbb)
          replace H2 := Lib.hid (((H2.out.up hb).up hba).up hbb)
          replace hS := Lib.hid (((hS.out.call hb).alloc (.cells (ndCells ⟨level1, nlow1, high1, last1, next1, keys1, vals1, kids1⟩ E1 E2 E3 p1 p2 p3) 26)).alloc (.cells (ndCells ⟨level2, nlow2, high2, last2, next2, keys2, vals2, kids2⟩ F1 F2 F3 q1 q2 q3) 26))
          clear hl1 hl2 hba hbb hb
          simp only [List.cons_append, List.nil_append, ndCells, alloc_size] at hS H1 H2 H5 H6 ⊢
          go_upto_region 9 with fail
          generalize (W5.alloc _).alloc _ = W6 at hS H1 H2 H5 H6 ⊢
          generalize W5.heap.size = g5 at hS ⊢
          obtain ⟨x0, x1, x2, x3, x4, x5, x6, x7, -, -, -, -, -, -, -, -⟩ := nd_facts (hS.out.has 4 _ _ rfl).1
          obtain ⟨y0, y1, y2, y3, y4, y5, y6, y7, -, -, -, -, -, -, -, -⟩ := nd_facts (hS.out.has 5 _ _ rfl).1
          obtain ⟨z0, z1, z2, z3, z4, z5, z6, z7, -, -, -, -, -, -, -, -⟩ := nd_facts (hS.out.has 0 _ _ rfl).1
          obtain ⟨s0, s1, s2, s3, s4, s5, s6, s7, -, -, -, -, -, -, -, -⟩ := nd_facts (hS.out.has 1 _ _ rfl).1
          go_wp2_with fail
          refine (whole_any _ _ keys.length E1 E2 E3 F1 F2 F3 p1 p2 p3 q1 q2 q3 _ H5.out H6.out HW.out.1).mono ?_
          rintro e1 wn ⟨rfl, hbn⟩
          clear x0 x1 x2 x3 x4 x5 x6 x7 y0 y1 y2 y3 y4 y5 y6 y7 z0 z1 z2 z3 z4 z5 z6 z7 s0 s1 s2 s3 s4 s5 s6 s7
          replace hS := Lib.hid (hS.out.call hbn)
          replace H1 := Lib.hid (H1.out.up hbn)
          replace H2 := Lib.hid (H2.out.up hbn)
          replace H5 := Lib.hid (H5.out.up hbn); replace H6 := Lib.hid (H6.out.up hbn)
          clear hbn
          clear HW
          obtain ⟨x0, x1, x2, x3, x4, x5, x6, x7, -, -, -, -, -, -, -, -⟩ := nd_facts (hS.out.has 4 _ _ rfl).1
          obtain ⟨y0, y1, y2, y3, y4, y5, y6, y7, -, -, -, -, -, -, -, -⟩ := nd_facts (hS.out.has 5 _ _ rfl).1
          obtain ⟨z0, z1, z2, z3, z4, z5, z6, z7, -, -, -, -, -, -, -, -⟩ := nd_facts (hS.out.has 0 _ _ rfl).1
          obtain ⟨s0, s1, s2, s3, s4, s5, s6, s7, -, -, -, -, -, -, -, -⟩ := nd_facts (hS.out.has 1 _ _ rfl).1
          go_wp2_with fail
          refine (Ret.to (sameN_any _ _ E1 E2 E3 A1 A2 A3 p1 p2 p3 c1 c2 c3 _ H5.out H1.out) (congrArg Value.bool (sameB_self _))).mono ?_
          rintro e1 wn ⟨rfl, hbn⟩
          clear x0 x1 x2 x3 x4 x5 x6 x7 y0 y1 y2 y3 y4 y5 y6 y7 z0 z1 z2 z3 z4 z5 z6 z7 s0 s1 s2 s3 s4 s5 s6 s7
          replace hS := Lib.hid (hS.out.call hbn)
          replace H1 := Lib.hid (H1.out.up hbn)
          replace H2 := Lib.hid (H2.out.up hbn)
          replace H6 := Lib.hid (H6.out.up hbn)
          clear hbn
          obtain ⟨x0, x1, x2, x3, x4, x5, x6, x7, -, -, -, -, -, -, -, -⟩ := nd_facts (hS.out.has 4 _ _ rfl).1
          obtain ⟨y0, y1, y2, y3, y4, y5, y6, y7, -, -, -, -, -, -, -, -⟩ := nd_facts (hS.out.has 5 _ _ rfl).1
          obtain ⟨z0, z1, z2, z3, z4, z5, z6, z7, -, -, -, -, -, -, -, -⟩ := nd_facts (hS.out.has 2 _ _ rfl).1
          obtain ⟨s0, s1, s2, s3, s4, s5, s6, s7, -, -, -, -, -, -, -, -⟩ := nd_facts (hS.out.has 1 _ _ rfl).1
          go_wp2_with fail
          refine (Ret.to (sameN_any _ _ F1 F2 F3 B1 B2 B3 q1 q2 q3 d1 d2 d3 _ H6.out H2.out) (congrArg Value.bool (sameB_self _))).mono ?_
          rintro e1 wn ⟨rfl, hbn⟩
          clear x0 x1 x2 x3 x4 x5 x6 x7 y0 y1 y2 y3 y4 y5 y6 y7 z0 z1 z2 z3 z4 z5 z6 z7 s0 s1 s2 s3 s4 s5 s6 s7
          replace hS := Lib.hid (hS.out.call hbn)
          replace H1 := Lib.hid (H1.out.up hbn)
          replace H2 := Lib.hid (H2.out.up hbn)
          clear H5 H6
          clear hbn
          go_wp2_with fail
          go_meet
          exact Lib.hid hS.out.head
      case rest =>
        clear hS H1 H2 HP HMe HSM
        have hS := hcut
        clear hcut
        simp only [ndCells] at hS
        obtain ⟨x0, x1, x2, x3, x4, x5, x6, x7, f0, f1, f2, f3, f4, f5, f6, f7⟩ := nd_facts (hS.out.has 0 _ _ rfl).1
        go_wp2_with fail
        refine (HBu.out _ (H00.out.up hS.out.below)).mono ?_
        rintro e1 W1 ⟨A1, A2, A3, B1, B2, B3, c1, c2, c3, d1, d2, d3, rfl, hl1, hl2, hb1⟩
        clear x0 x1 x2 x3 x4 x5 x6 x7 f0 f1 f2 f3 f4 f5 f6 f7
        have hba := below_alloc W1 (.cells (ndCells e A1 A2 A3 c1 c2 c3) 26)
        have hbb := below_alloc (W1.alloc (.cells (ndCells e A1 A2 A3 c1 c2 c3) 26)) (.cells (ndCells f B1 B2 B3 d1 d2 d3) 26)
        have H1 := Lib.hid ((hl1.up hba).up hbb)
        have H2 := Lib.hid ((hl2.up hba).up hbb)
        replace hS := Lib.hid (((hS.out.call hb1).alloc (.cells (ndCells e A1 A2 A3 c1 c2 c3) 26)).alloc (.cells (ndCells f B1 B2 B3 d1 d2 d3) 26))
        clear hl1 hl2 hba hbb hb1 HBu
        have HKa := Lib.hid (fun W (hW : Lies W e A1 A2 A3 c1 c2 c3) => kidof_any e A1 A2 A3 c1 c2 c3 low W hW HK.out)
        have HKb := Lib.hid (fun W (hW : Lies W f B1 B2 B3 d1 d2 d3) => kidof_any f B1 B2 B3 d1 d2 d3 low W hW HK.out)
        have HCa := Lib.hid (fun W (hW : Lies W e A1 A2 A3 c1 c2 c3) => covers_any e A1 A2 A3 c1 c2 c3 low W hW HK.out)
        have HCb := Lib.hid (fun W (hW : Lies W f B1 B2 B3 d1 d2 d3) => covers_any f B1 B2 B3 d1 d2 d3 low W hW HK.out)
        have HWh := Lib.hid (fun W (hW : Lies W e A1 A2 A3 c1 c2 c3) (kW : Lies W f B1 B2 B3 d1 d2 d3) (q : WholeP e f (keys.length + 1)) => whole_any e f (keys.length + 1) A1 A2 A3 B1 B2 B3 c1 c2 c3 d1 d2 d3 W hW kW q)
        generalize kidAt e (overI e low) = xa at HQ HKa
        generalize kidIs e (overI e low) = ia at HQ HKa
        generalize kidAt f (overI f low) = xb at HQ HKb
        generalize kidIs f (overI f low) = ib at HQ HKb
        generalize insB e low = va at HQ HCa
        generalize insB f low = vb at HQ HCb
        obtain ⟨level1, nlow1, high1, last1, next1, keys1, vals1, kids1⟩ := e
        obtain ⟨level2, nlow2, high2, last2, next2, keys2, vals2, kids2⟩ := f
        simp only [List.cons_append, List.nil_append, ndCells, alloc_size] at hS H1 H2 HQ HKa HKb HCa HCb HWh ⊢
        go_upto_if 109 with fail
        generalize (W1.alloc _).alloc _ = W2 at hS H1 H2 ⊢
        generalize W1.heap.size = g1 at hS ⊢
        go_cut [] (fun wx => Hid (Sx w.heap.size w wx [(w.heap.size, .cells (ndCells ⟨level, nlow, high, last, next, keys, vals, kids⟩ A B C ca cb cc) 26)]))
        case first =>
          rcases HQ.out with rfl | ⟨rfl, rfl, hwh, hka, hkb⟩
          · go_wp2_with fail
            go_meet
            exact Lib.hid hS.out.head
          · have HW := Lib.hid hwh
            clear hwh HQ
            have hlen : keys.length ≤ 1000 := by
              have h1 := (snd_lens HW.out.sa (by omega)).1
              have h2 := (snd_lens HW.out.sb (by omega)).1
              have h3 := HW.out.sum
              simp only [] at h1 h2 h3
              omega
            rw [show ((keys.length + 1 : Nat) : Int) = (keys.length : Int) + 1 from by omega] at HWh
            obtain ⟨x0, x1, x2, x3, x4, x5, x6, x7, -, -, -, -, -, -, -, -⟩ := nd_facts (hS.out.has 1 _ _ rfl).1
            obtain ⟨y0, y1, y2, y3, y4, y5, y6, y7, -, -, -, -, -, -, -, -⟩ := nd_facts (hS.out.has 2 _ _ rfl).1
            obtain ⟨z0, z1, z2, z3, z4, z5, z6, z7, -, -, -, -, -, -, -, -⟩ := nd_facts (hS.out.has 0 _ _ rfl).1
            obtain ⟨s0, s1, s2, s3, s4, s5, s6, s7, -, -, -, -, -, -, -, -⟩ := nd_facts (hS.out.has 0 _ _ rfl).1
            go_wp2_with fail
            refine (HWh.out _ H1.out H2.out HW.out).mono ?_
            rintro e1 wn ⟨rfl, hbn⟩
            clear x0 x1 x2 x3 x4 x5 x6 x7 y0 y1 y2 y3 y4 y5 y6 y7 z0 z1 z2 z3 z4 z5 z6 z7 s0 s1 s2 s3 s4 s5 s6 s7
            replace hS := Lib.hid (hS.out.call hbn)
            replace H1 := Lib.hid (H1.out.up hbn)
            replace H2 := Lib.hid (H2.out.up hbn)
            clear HWh HW
            clear hbn
            obtain ⟨x0, x1, x2, x3, x4, x5, x6, x7, -, -, -, -, -, -, -, -⟩ := nd_facts (hS.out.has 1 _ _ rfl).1
            obtain ⟨y0, y1, y2, y3, y4, y5, y6, y7, -, -, -, -, -, -, -, -⟩ := nd_facts (hS.out.has 2 _ _ rfl).1
            obtain ⟨z0, z1, z2, z3, z4, z5, z6, z7, -, -, -, -, -, -, -, -⟩ := nd_facts (hS.out.has 0 _ _ rfl).1
            obtain ⟨s0, s1, s2, s3, s4, s5, s6, s7, -, -, -, -, -, -, -, -⟩ := nd_facts (hS.out.has 0 _ _ rfl).1
            go_wp2_with fail
            refine (HKa.out _ H1.out).mono ?_
            rintro e1 wn ⟨rfl, hbn⟩
            clear x0 x1 x2 x3 x4 x5 x6 x7 y0 y1 y2 y3 y4 y5 y6 y7 z0 z1 z2 z3 z4 z5 z6 z7 s0 s1 s2 s3 s4 s5 s6 s7
            replace hS := Lib.hid (hS.out.call hbn)
            replace H1 := Lib.hid (H1.out.up hbn)
            replace H2 := Lib.hid (H2.out.up hbn)
            clear HKa
            clear hbn
            obtain ⟨x0, x1, x2, x3, x4, x5, x6, x7, -, -, -, -, -, -, -, -⟩ := nd_facts (hS.out.has 1 _ _ rfl).1
            obtain ⟨y0, y1, y2, y3, y4, y5, y6, y7, -, -, -, -, -, -, -, -⟩ := nd_facts (hS.out.has 2 _ _ rfl).1
            obtain ⟨z0, z1, z2, z3, z4, z5, z6, z7, -, -, -, -, -, -, -, -⟩ := nd_facts (hS.out.has 0 _ _ rfl).1
            obtain ⟨s0, s1, s2, s3, s4, s5, s6, s7, -, -, -, -, -, -, -, -⟩ := nd_facts (hS.out.has 0 _ _ rfl).1
            go_wp2_with fail
            refine (HKb.out _ H2.out).mono ?_
            rintro e1 wn ⟨rfl, hbn⟩
            clear x0 x1 x2 x3 x4 x5 x6 x7 y0 y1 y2 y3 y4 y5 y6 y7 z0 z1 z2 z3 z4 z5 z6 z7 s0 s1 s2 s3 s4 s5 s6 s7
            replace hS := Lib.hid (hS.out.call hbn)
            replace H1 := Lib.hid (H1.out.up hbn)
            replace H2 := Lib.hid (H2.out.up hbn)
            clear HKb
            clear hbn
            obtain ⟨x0, x1, x2, x3, x4, x5, x6, x7, -, -, -, -, -, -, -, -⟩ := nd_facts (hS.out.has 1 _ _ rfl).1
            obtain ⟨y0, y1, y2, y3, y4, y5, y6, y7, -, -, -, -, -, -, -, -⟩ := nd_facts (hS.out.has 2 _ _ rfl).1
            obtain ⟨z0, z1, z2, z3, z4, z5, z6, z7, -, -, -, -, -, -, -, -⟩ := nd_facts (hS.out.has 0 _ _ rfl).1
            obtain ⟨s0, s1, s2, s3, s4, s5, s6, s7, -, -, -, -, -, -, -, -⟩ := nd_facts (hS.out.has 0 _ _ rfl).1
            go_wp2_with fail
            refine (HCa.out _ H1.out).mono ?_
            rintro e1 wn ⟨rfl, hbn⟩
            clear x0 x1 x2 x3 x4 x5 x6 x7 y0 y1 y2 y3 y4 y5 y6 y7 z0 z1 z2 z3 z4 z5 z6 z7 s0 s1 s2 s3 s4 s5 s6 s7
            replace hS := Lib.hid (hS.out.call hbn)
            replace H1 := Lib.hid (H1.out.up hbn)
            replace H2 := Lib.hid (H2.out.up hbn)
            clear HCa
            clear hbn
            obtain ⟨x0, x1, x2, x3, x4, x5, x6, x7, -, -, -, -, -, -, -, -⟩ := nd_facts (hS.out.has 1 _ _ rfl).1
            obtain ⟨y0, y1, y2, y3, y4, y5, y6, y7, -, -, -, -, -, -, -, -⟩ := nd_facts (hS.out.has 2 _ _ rfl).1
            obtain ⟨z0, z1, z2, z3, z4, z5, z6, z7, -, -, -, -, -, -, -, -⟩ := nd_facts (hS.out.has 0 _ _ rfl).1
            obtain ⟨s0, s1, s2, s3, s4, s5, s6, s7, -, -, -, -, -, -, -, -⟩ := nd_facts (hS.out.has 0 _ _ rfl).1
            cases va
            · clear hka
              go_wp2_with fail
              refine (HCb.out _ H2.out).mono ?_
              rintro e1 wn ⟨rfl, hbn⟩
              clear x0 x1 x2 x3 x4 x5 x6 x7 y0 y1 y2 y3 y4 y5 y6 y7 z0 z1 z2 z3 z4 z5 z6 z7 s0 s1 s2 s3 s4 s5 s6 s7
              replace hS := Lib.hid (hS.out.call hbn)
              replace H1 := Lib.hid (H1.out.up hbn)
              replace H2 := Lib.hid (H2.out.up hbn)
              clear HCb
              clear hbn
              cases vb
              · clear hkb
                go_wp2_with fail
                go_meet
                exact Lib.hid hS.out.head
              · obtain ⟨rfl, rfl⟩ := hkb (by trivial)
                clear hkb
                go_wp2_with fail
                go_meet
                exact Lib.hid hS.out.head
            · obtain ⟨rfl, rfl⟩ := hka (by trivial)
              clear hka
              go_wp2_with fail
              refine (HCb.out _ H2.out).mono ?_
              rintro e1 wn ⟨rfl, hbn⟩
              clear x0 x1 x2 x3 x4 x5 x6 x7 y0 y1 y2 y3 y4 y5 y6 y7 z0 z1 z2 z3 z4 z5 z6 z7 s0 s1 s2 s3 s4 s5 s6 s7
              replace hS := Lib.hid (hS.out.call hbn)
              replace H1 := Lib.hid (H1.out.up hbn)
              replace H2 := Lib.hid (H2.out.up hbn)
              clear HCb
              clear hbn
              cases vb
              · clear hkb
                go_wp2_with fail
                go_meet
                exact Lib.hid hS.out.head
              · obtain ⟨rfl, rfl⟩ := hkb (by trivial)
                clear hkb
                go_wp2_with fail
                go_meet
                exact Lib.hid hS.out.head
        case rest =>
          clear hS H1 H2 HKa HKb HCa HCb HWh HQ
          have hS := hcut
          clear hcut
          go_wp2_with fail
          refine (lives13_any _).mono ?_
          rintro e wn ⟨rfl, hbn⟩
          go_wp2_with fail
          go_ret
          exact ⟨rfl, (hS.out.call hbn).below⟩

theorem halvewhole_row (d : Nd) (A B C : Option Addr) (ca cb cc : Nat) (low : ByteArray) (kid cell : Int) (w : World) (h : Lies w d A B C ca cb cc) (_ : Bnd d) (hk : low.size ≤ maxLen) (_ : -9223372036854775808 ≤ kid ∧ kid ≤ 9223372036854775807) (_ : -9223372036854775808 ≤ cell ∧ cell ≤ 9223372036854775807) :
    Calls Try.prog 14 #[.agg (ndCells d A B C ca cb cc), .string low, .int .i64 kid, .int .i64 cell] w (Ret (.bool true) w) := halvewhole_any d low kid cell A B C ca cb cc w h hk

end Go.Proofs.Ytcoiadncennhpaa
