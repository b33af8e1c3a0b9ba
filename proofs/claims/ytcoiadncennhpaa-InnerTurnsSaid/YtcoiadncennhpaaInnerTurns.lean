/- The law InnerTurns: the walk. -/
import Derived.Test.YtcoiadncennhpaaInnerBack
import Derived.Test.YtcoiadncennhpaaInRef
namespace Go.Proofs.Ytcoiadncennhpaa
open Go.RowKit

/-- Nodes that lie in memory. -/
def LL (W : World) (L : List (Nd × Option Addr × Option Addr × Option Addr × Nat × Nat × Nat)) : Prop :=
  ∀ (i : Nat) (d : Nd) (A B C : Option Addr) (ca cb cc : Nat), L[i]? = some (d, A, B, C, ca, cb, cc) → Lies W d A B C ca cb cc
theorem LL.start (W : World) : LL W [] := fun i d A B C ca cb cc q => by simp at q
theorem LL.up {W W' : World} {L : List (Nd × Option Addr × Option Addr × Option Addr × Nat × Nat × Nat)} (h : LL W L) (hb : Below W.heap.size W W') : LL W' L := fun i d A B C ca cb cc q => (h i d A B C ca cb cc q).up hb
theorem LL.add {W : World} {L : List (Nd × Option Addr × Option Addr × Option Addr × Nat × Nat × Nat)} (h : LL W L) {d : Nd} {A B C : Option Addr} {ca cb cc : Nat} (hl : Lies W d A B C ca cb cc) : LL W (L ++ [(d, A, B, C, ca, cb, cc)]) := by
  intro i d' A' B' C' ca' cb' cc' q
  rcases Nat.lt_or_ge i L.length with g | g
  · rw [List.getElem?_append_left g] at q
    exact h _ _ _ _ _ _ _ _ q
  · rw [List.getElem?_append_right g] at q
    rcases hz : i - L.length with _ | m
    · rw [hz] at q
      injection q with q
      injection q with q1 q
      injection q with q2 q
      injection q with q3 q
      injection q with q4 q
      injection q with q5 q
      injection q with q6 q
      subst q1; subst q2; subst q3; subst q4; subst q5; subst q6; subst q
      exact hl
    · rw [hz] at q
      simp at q

set_option maxRecDepth 100000 in
set_option maxHeartbeats 16000000 in
theorem innerturns_any (d : Nd) (low : ByteArray) (kid i fan : Int) (A B C : Option Addr) (ca cb cc : Nat) (w : World) (h : Lies w d A B C ca cb cc) (hk : low.size ≤ maxLen) :
    Calls Try.prog 11 #[.agg (ndCells d A B C ca cb cc), .string low, .int .i64 kid, .int .i64 i, .int .i64 fan] w (Ret (.bool true) w) := by
  have hS := Lib.hid ((Sx.start0 w).alloc (.cells (ndCells d A B C ca cb cc) 26))
  have H00 := Lib.hid h
  have HLi := Lib.hid (fun W hW => lightN_any d A B C ca cb cc W hW)
  have hks : low.size ≤ 9223372036854775807 := hk
  have HK := Lib.hid hk
  clear h hk
  cases hli : lightN d
  · rw [hli] at HLi
    clear hli
    obtain ⟨level, nlow, high, last, next, keys, vals, kids⟩ := d
    simp only [ndCells, List.nil_append] at hS HLi ⊢
    go_enter Try.func11, Try.ntmps11
    go_upto_region 1 with fail
    generalize w.alloc _ = W at hS ⊢
    obtain ⟨x0, x1, x2, x3, x4, x5, x6, x7, f0, f1, f2, f3, f4, f5, f6, f7⟩ := nd_facts (hS.out.has 0 _ _ rfl).1
    go_wp2_with fail
    refine (HLi.out _ (H00.out.up hS.out.below)).mono ?_
    rintro e wn ⟨rfl, hbn⟩
    clear x0 x1 x2 x3 x4 x5 x6 x7 f0 f1 f2 f3 f4 f5 f6 f7
    replace hS := Lib.hid (hS.out.call hbn)
    clear hbn
    obtain ⟨x0, x1, x2, x3, x4, x5, x6, x7, f0, f1, f2, f3, f4, f5, f6, f7⟩ := nd_facts (hS.out.has 0 _ _ rfl).1
    go_wp2_with fail
    refine (lives12_any _).mono ?_
    rintro e wn2 ⟨rfl, hbn⟩
    go_wp2_with fail
    go_ret
    exact ⟨rfl, (hS.out.call hbn).below⟩
  · rw [hli] at HLi
    have HLen := Lib.hid (lightN_spec hli)
    clear hli
    by_cases hk100 : 100 < low.size
    · have hk100' : decide ((100 : Int) < (low.size : Int)) = true := decide_eq_true (by omega)
      clear hk100
      obtain ⟨level, nlow, high, last, next, keys, vals, kids⟩ := d
      simp only [ndCells, List.nil_append] at hS HLi ⊢
      go_enter Try.func11, Try.ntmps11
      go_upto_region 1 with fail
      generalize w.alloc _ = W at hS ⊢
      obtain ⟨x0, x1, x2, x3, x4, x5, x6, x7, f0, f1, f2, f3, f4, f5, f6, f7⟩ := nd_facts (hS.out.has 0 _ _ rfl).1
      go_wp2_with fail
      refine (HLi.out _ (H00.out.up hS.out.below)).mono ?_
      rintro e wn ⟨rfl, hbn⟩
      clear x0 x1 x2 x3 x4 x5 x6 x7 f0 f1 f2 f3 f4 f5 f6 f7
      replace hS := Lib.hid (hS.out.call hbn)
      clear hbn
      obtain ⟨x0, x1, x2, x3, x4, x5, x6, x7, f0, f1, f2, f3, f4, f5, f6, f7⟩ := nd_facts (hS.out.has 0 _ _ rfl).1
      go_wp2_with fail
      refine (lives12_any _).mono ?_
      rintro e wn2 ⟨rfl, hbn⟩
      go_wp2_with fail
      go_ret
      exact ⟨rfl, (hS.out.call hbn).below⟩
    · have hk100' : decide ((100 : Int) < (low.size : Int)) = false := decide_eq_false (by omega)
      clear hk100
      have HCl := Lib.hid (fun W (hW : Lies W d A B C ca cb cc) => cloneN_any d A B C ca cb cc W hW (by have := HLen.out; omega) (by have := HLen.out; omega) (by have := HLen.out; omega))
      have HPo := Lib.hid (fun W hW => inpost_any d low kid fan A B C ca cb cc W hW HK.out)
      have HDr := Lib.hid (fun W hW => indrop_any d i A B C ca cb cc W hW)
      have HTu := Lib.hid (fun W hW => inturn_any d i low A B C ca cb cc W hW HK.out)
      have HPl := Lib.hid (fun W hW => place_any d kid A B C ca cb cc W hW)
      have HPoR := Lib.hid (fun A' B' C' ca' cb' cc' W hW => refpost_any d low kid fan A' B' C' ca' cb' cc' W hW HK.out)
      have HDrR := Lib.hid (fun A' B' C' ca' cb' cc' W hW => refdrop_any d i A' B' C' ca' cb' cc' W hW)
      have HTuR := Lib.hid (fun A' B' C' ca' cb' cc' W hW => refturn_any d i low A' B' C' ca' cb' cc' W hW HK.out)
      have HPlR := Lib.hid (fun A' B' C' ca' cb' cc' W hW => refplace_any d kid A' B' C' ca' cb' cc' W hW)
      have HSM := Lib.hid (fun (o : Nd) (A B C A' B' C' : Option Addr) (ca cb cc ca' cb' cc' : Nat) (W : World) h k => Ret.to (refsameN_any o o A B C A' B' C' ca cb cc ca' cb' cc' W h k) (congrArg Value.bool (sameB_self o)))
      generalize postD d low kid fan = o1 at HPo HPoR
      generalize dropD d i = o2 at HDr HDrR
      generalize turnD d i low = o3 at HTu HTuR
      generalize placeI d kid = pi at HPl HPlR
      generalize placeB d kid = pb at HPl HPlR
      obtain ⟨ok1, level1, nlow1, high1, last1, next1, keys1, vals1, kids1⟩ := o1
      obtain ⟨ok2, level2, nlow2, high2, last2, next2, keys2, vals2, kids2⟩ := o2
      obtain ⟨ok3, level3, nlow3, high3, last3, next3, keys3, vals3, kids3⟩ := o3
      obtain ⟨level, nlow, high, last, next, keys, vals, kids⟩ := d
      simp only [ndCells] at HCl HPo HDr HTu HPl HPoR HDrR HTuR HPlR HSM
      simp only [ndCells, List.nil_append] at hS HLi ⊢
      go_enter Try.func11, Try.ntmps11
      go_upto_region 1 with fail
      generalize w.alloc _ = W at hS ⊢
      obtain ⟨x0, x1, x2, x3, x4, x5, x6, x7, f0, f1, f2, f3, f4, f5, f6, f7⟩ := nd_facts (hS.out.has 0 _ _ rfl).1
      go_wp2_with fail
      refine (HLi.out _ (H00.out.up hS.out.below)).mono ?_
      rintro e wn ⟨rfl, hbn⟩
      clear x0 x1 x2 x3 x4 x5 x6 x7 f0 f1 f2 f3 f4 f5 f6 f7
      replace hS := Lib.hid (hS.out.call hbn)
      clear hbn
      obtain ⟨x0, x1, x2, x3, x4, x5, x6, x7, f0, f1, f2, f3, f4, f5, f6, f7⟩ := nd_facts (hS.out.has 0 _ _ rfl).1
      go_wp2_with fail
      refine (HCl.out _ (H00.out.up hS.out.below)).mono ?_
      rintro e X ⟨c1, c2, c3, rfl, r1, r2, r3, n12, n13, n23, m1, m2, m3, hbn⟩
      clear x0 x1 x2 x3 x4 x5 x6 x7 f0 f1 f2 f3 f4 f5 f6 f7
      replace hS := Lib.hid (hS.out.rows (d := ⟨level, nlow, high, last, next, keys, vals, kids⟩) r1 r2 r3 n12 n13 n23 m1 m2 m3 hbn)
      clear r1 r2 r3 n12 n13 n23 m1 m2 m3 hbn hk100' HCl
      replace hS := Lib.hid (hS.out.alloc (.cells (ndCells ⟨level, nlow, high, last, next, keys, vals, kids⟩ (some ⟨c1, 0, none⟩) (some ⟨c2, 0, none⟩) (some ⟨c3, 0, none⟩) keys.length vals.length kids.length) 26))
      simp only [rows3, ndCells, List.cons_append, List.nil_append] at hS ⊢
      go_upto_region 4 with fail
      generalize X.alloc _ = Y at hS ⊢
      generalize X.heap.size = g0 at hS ⊢
      have HL := Lib.hid ((LL.start Y).add (d := ⟨level, nlow, high, last, next, keys, vals, kids⟩) (A := some ⟨c1, 0, none⟩) (B := some ⟨c2, 0, none⟩) (C := some ⟨c3, 0, none⟩) (ca := keys.length) (cb := vals.length) (cc := kids.length)
        { low := H00.out.low, high := H00.out.high, fit := H00.out.fit, la := H00.out.la, lb := H00.out.lb, lc := H00.out.lc
          keys := by have := Rd.new (hS.out.has 1 _ _ rfl).1; rw [strs_length] at this; exact this
          vals := by have := Rd.new (hS.out.has 2 _ _ rfl).1; rw [u64s_length] at this; exact this
          kids := by have := Rd.new (hS.out.has 3 _ _ rfl).1; rw [i64s_length] at this; exact this
          ka := Nat.le_refl _, kb := Nat.le_refl _, kc := Nat.le_refl _ })
      simp only [List.nil_append] at HL
      obtain ⟨x0, x1, x2, x3, x4, x5, x6, x7, f0, f1, f2, f3, f4, f5, f6, f7⟩ := nd_facts (hS.out.has 0 _ _ rfl).1
      go_wp2_with fail
      refine (HPo.out _ (H00.out.up hS.out.below)).mono ?_
      rintro e X1 ⟨A1, B1, C1, ca1, cb1, cc1, rfl, hl, hb⟩
      clear x0 x1 x2 x3 x4 x5 x6 x7 f0 f1 f2 f3 f4 f5 f6 f7
      replace hS := Lib.hid ((hS.out.call hb).alloc (.cells (ndCells ⟨level1, nlow1, high1, last1, next1, keys1, vals1, kids1⟩ A1 B1 C1 ca1 cb1 cc1) 26))
      replace HL := Lib.hid (((HL.out.up hb).add hl).up (below_alloc X1 (.cells (ndCells ⟨level1, nlow1, high1, last1, next1, keys1, vals1, kids1⟩ A1 B1 C1 ca1 cb1 cc1) 26)))
      clear hl hb
      simp only [List.cons_append, List.nil_append, ndCells] at hS HL ⊢
      go_upto_region 5 with fail
      generalize X1.heap.size = g1 at hS ⊢
      generalize X1.alloc _ = Y1 at hS HL ⊢
      obtain ⟨x0, x1, x2, x3, x4, x5, x6, x7, f0, f1, f2, f3, f4, f5, f6, f7⟩ := nd_facts (hS.out.has 4 _ _ rfl).1
      go_wp2_with fail
      refine (HPoR.out _ _ _ _ _ _ _ (HL.out 0 _ _ _ _ _ _ _ rfl)).mono ?_
      rintro e X4 ⟨A4, B4, C4, ca4, cb4, cc4, rfl, hl, hb⟩
      clear x0 x1 x2 x3 x4 x5 x6 x7 f0 f1 f2 f3 f4 f5 f6 f7
      replace hS := Lib.hid ((hS.out.call hb).alloc (.cells (ndCells ⟨level1, nlow1, high1, last1, next1, keys1, vals1, kids1⟩ A4 B4 C4 ca4 cb4 cc4) 26))
      replace HL := Lib.hid (((HL.out.up hb).add hl).up (below_alloc X4 (.cells (ndCells ⟨level1, nlow1, high1, last1, next1, keys1, vals1, kids1⟩ A4 B4 C4 ca4 cb4 cc4) 26)))
      clear hl hb
      simp only [List.cons_append, List.nil_append, ndCells] at hS HL ⊢
      go_upto_region 6 with fail
      generalize X4.heap.size = g4 at hS ⊢
      generalize X4.alloc _ = Y4 at hS HL ⊢
      obtain ⟨x0, x1, x2, x3, x4, x5, x6, x7, f0, f1, f2, f3, f4, f5, f6, f7⟩ := nd_facts (hS.out.has 0 _ _ rfl).1
      go_wp2_with fail
      refine (HDr.out _ (H00.out.up hS.out.below)).mono ?_
      rintro e X2 ⟨A2, B2, C2, ca2, cb2, cc2, rfl, hl, hb⟩
      clear x0 x1 x2 x3 x4 x5 x6 x7 f0 f1 f2 f3 f4 f5 f6 f7
      replace hS := Lib.hid ((hS.out.call hb).alloc (.cells (ndCells ⟨level2, nlow2, high2, last2, next2, keys2, vals2, kids2⟩ A2 B2 C2 ca2 cb2 cc2) 26))
      replace HL := Lib.hid (((HL.out.up hb).add hl).up (below_alloc X2 (.cells (ndCells ⟨level2, nlow2, high2, last2, next2, keys2, vals2, kids2⟩ A2 B2 C2 ca2 cb2 cc2) 26)))
      clear hl hb
      simp only [List.cons_append, List.nil_append, ndCells] at hS HL ⊢
      go_upto_region 7 with fail
      generalize X2.heap.size = g2 at hS ⊢
      generalize X2.alloc _ = Y2 at hS HL ⊢
      obtain ⟨x0, x1, x2, x3, x4, x5, x6, x7, f0, f1, f2, f3, f4, f5, f6, f7⟩ := nd_facts (hS.out.has 4 _ _ rfl).1
      go_wp2_with fail
      refine (HDrR.out _ _ _ _ _ _ _ (HL.out 0 _ _ _ _ _ _ _ rfl)).mono ?_
      rintro e X5 ⟨A5, B5, C5, ca5, cb5, cc5, rfl, hl, hb⟩
      clear x0 x1 x2 x3 x4 x5 x6 x7 f0 f1 f2 f3 f4 f5 f6 f7
      replace hS := Lib.hid ((hS.out.call hb).alloc (.cells (ndCells ⟨level2, nlow2, high2, last2, next2, keys2, vals2, kids2⟩ A5 B5 C5 ca5 cb5 cc5) 26))
      replace HL := Lib.hid (((HL.out.up hb).add hl).up (below_alloc X5 (.cells (ndCells ⟨level2, nlow2, high2, last2, next2, keys2, vals2, kids2⟩ A5 B5 C5 ca5 cb5 cc5) 26)))
      clear hl hb
      simp only [List.cons_append, List.nil_append, ndCells] at hS HL ⊢
      go_upto_region 8 with fail
      generalize X5.heap.size = g5 at hS ⊢
      generalize X5.alloc _ = Y5 at hS HL ⊢
      obtain ⟨x0, x1, x2, x3, x4, x5, x6, x7, f0, f1, f2, f3, f4, f5, f6, f7⟩ := nd_facts (hS.out.has 0 _ _ rfl).1
      go_wp2_with fail
      refine (HTu.out _ (H00.out.up hS.out.below)).mono ?_
      rintro e X3 ⟨A3, B3, C3, ca3, cb3, cc3, rfl, hl, hb⟩
      clear x0 x1 x2 x3 x4 x5 x6 x7 f0 f1 f2 f3 f4 f5 f6 f7
      replace hS := Lib.hid ((hS.out.call hb).alloc (.cells (ndCells ⟨level3, nlow3, high3, last3, next3, keys3, vals3, kids3⟩ A3 B3 C3 ca3 cb3 cc3) 26))
      replace HL := Lib.hid (((HL.out.up hb).add hl).up (below_alloc X3 (.cells (ndCells ⟨level3, nlow3, high3, last3, next3, keys3, vals3, kids3⟩ A3 B3 C3 ca3 cb3 cc3) 26)))
      clear hl hb
      simp only [List.cons_append, List.nil_append, ndCells] at hS HL ⊢
      go_upto_region 9 with fail
      generalize X3.heap.size = g3 at hS ⊢
      generalize X3.alloc _ = Y3 at hS HL ⊢
      obtain ⟨x0, x1, x2, x3, x4, x5, x6, x7, f0, f1, f2, f3, f4, f5, f6, f7⟩ := nd_facts (hS.out.has 4 _ _ rfl).1
      go_wp2_with fail
      refine (HTuR.out _ _ _ _ _ _ _ (HL.out 0 _ _ _ _ _ _ _ rfl)).mono ?_
      rintro e X6 ⟨A6, B6, C6, ca6, cb6, cc6, rfl, hl, hb⟩
      clear x0 x1 x2 x3 x4 x5 x6 x7 f0 f1 f2 f3 f4 f5 f6 f7
      replace hS := Lib.hid ((hS.out.call hb).alloc (.cells (ndCells ⟨level3, nlow3, high3, last3, next3, keys3, vals3, kids3⟩ A6 B6 C6 ca6 cb6 cc6) 26))
      replace HL := Lib.hid (((HL.out.up hb).add hl).up (below_alloc X6 (.cells (ndCells ⟨level3, nlow3, high3, last3, next3, keys3, vals3, kids3⟩ A6 B6 C6 ca6 cb6 cc6) 26)))
      clear hl hb
      simp only [List.cons_append, List.nil_append, ndCells] at hS HL ⊢
      go_upto_region 10 with fail
      generalize X6.heap.size = g6 at hS ⊢
      generalize X6.alloc _ = Y6 at hS HL ⊢
      clear HPo HPoR HDr HDrR HTu HTuR
      obtain ⟨x0, x1, x2, x3, x4, x5, x6, x7, f0, f1, f2, f3, f4, f5, f6, f7⟩ := nd_facts (hS.out.has 0 _ _ rfl).1
      go_wp2_with fail
      refine (HPl.out _ (H00.out.up hS.out.below)).mono ?_
      rintro e wn2 ⟨rfl, hbn⟩
      clear x0 x1 x2 x3 x4 x5 x6 x7 f0 f1 f2 f3 f4 f5 f6 f7
      replace hS := Lib.hid (hS.out.call hbn)
      replace HL := Lib.hid (HL.out.up hbn)
      clear hbn
      obtain ⟨x0, x1, x2, x3, x4, x5, x6, x7, f0, f1, f2, f3, f4, f5, f6, f7⟩ := nd_facts (hS.out.has 4 _ _ rfl).1
      go_wp2_with fail
      refine (HPlR.out _ _ _ _ _ _ _ (HL.out 0 _ _ _ _ _ _ _ rfl)).mono ?_
      rintro e wn3 ⟨rfl, hbn⟩
      clear x0 x1 x2 x3 x4 x5 x6 x7 f0 f1 f2 f3 f4 f5 f6 f7
      replace hS := Lib.hid (hS.out.call hbn)
      replace HL := Lib.hid (HL.out.up hbn)
      clear hbn HPl HPlR
      have b1 : (ok1 != ok1) = false := by simp
      have b2 : (ok2 != ok2) = false := by simp
      have b3 : (ok3 != ok3) = false := by simp
      have b4 : (pb != pb) = false := by simp
      have b5 : ((pi : Int) != (pi : Int)) = false := by simp
      obtain ⟨x0, x1, x2, x3, x4, x5, x6, x7, f0, f1, f2, f3, f4, f5, f6, f7⟩ := nd_facts (hS.out.has 5 _ _ rfl).1
      obtain ⟨y0, y1, y2, y3, y4, y5, y6, y7, q0, q1, q2, q3, q4, q5, q6, q7⟩ := nd_facts (hS.out.has 6 _ _ rfl).1
      go_wp2_with fail
      refine (HSM.out ⟨level1, nlow1, high1, last1, next1, keys1, vals1, kids1⟩ A1 B1 C1 A4 B4 C4 ca1 cb1 cc1 ca4 cb4 cc4 _ (HL.out 1 _ _ _ _ _ _ _ rfl) (HL.out 2 _ _ _ _ _ _ _ rfl)).mono ?_
      rintro e wn ⟨rfl, hbn⟩
      clear x0 x1 x2 x3 x4 x5 x6 x7 f0 f1 f2 f3 f4 f5 f6 f7
      clear y0 y1 y2 y3 y4 y5 y6 y7 q0 q1 q2 q3 q4 q5 q6 q7
      replace hS := Lib.hid (hS.out.call hbn)
      replace HL := Lib.hid (HL.out.up hbn)
      clear hbn
      obtain ⟨x0, x1, x2, x3, x4, x5, x6, x7, f0, f1, f2, f3, f4, f5, f6, f7⟩ := nd_facts (hS.out.has 7 _ _ rfl).1
      obtain ⟨y0, y1, y2, y3, y4, y5, y6, y7, q0, q1, q2, q3, q4, q5, q6, q7⟩ := nd_facts (hS.out.has 8 _ _ rfl).1
      go_wp2_with fail
      refine (HSM.out ⟨level2, nlow2, high2, last2, next2, keys2, vals2, kids2⟩ A2 B2 C2 A5 B5 C5 ca2 cb2 cc2 ca5 cb5 cc5 _ (HL.out 3 _ _ _ _ _ _ _ rfl) (HL.out 4 _ _ _ _ _ _ _ rfl)).mono ?_
      rintro e wn ⟨rfl, hbn⟩
      clear x0 x1 x2 x3 x4 x5 x6 x7 f0 f1 f2 f3 f4 f5 f6 f7
      clear y0 y1 y2 y3 y4 y5 y6 y7 q0 q1 q2 q3 q4 q5 q6 q7
      replace hS := Lib.hid (hS.out.call hbn)
      replace HL := Lib.hid (HL.out.up hbn)
      clear hbn
      obtain ⟨x0, x1, x2, x3, x4, x5, x6, x7, f0, f1, f2, f3, f4, f5, f6, f7⟩ := nd_facts (hS.out.has 9 _ _ rfl).1
      obtain ⟨y0, y1, y2, y3, y4, y5, y6, y7, q0, q1, q2, q3, q4, q5, q6, q7⟩ := nd_facts (hS.out.has 10 _ _ rfl).1
      go_wp2_with fail
      refine (HSM.out ⟨level3, nlow3, high3, last3, next3, keys3, vals3, kids3⟩ A3 B3 C3 A6 B6 C6 ca3 cb3 cc3 ca6 cb6 cc6 _ (HL.out 5 _ _ _ _ _ _ _ rfl) (HL.out 6 _ _ _ _ _ _ _ rfl)).mono ?_
      rintro e wn ⟨rfl, hbn⟩
      clear x0 x1 x2 x3 x4 x5 x6 x7 f0 f1 f2 f3 f4 f5 f6 f7
      clear y0 y1 y2 y3 y4 y5 y6 y7 q0 q1 q2 q3 q4 q5 q6 q7
      replace hS := Lib.hid (hS.out.call hbn)
      replace HL := Lib.hid (HL.out.up hbn)
      clear hbn
      obtain ⟨x0, x1, x2, x3, x4, x5, x6, x7, f0, f1, f2, f3, f4, f5, f6, f7⟩ := nd_facts (hS.out.has 0 _ _ rfl).1
      obtain ⟨y0, y1, y2, y3, y4, y5, y6, y7, q0, q1, q2, q3, q4, q5, q6, q7⟩ := nd_facts (hS.out.has 4 _ _ rfl).1
      go_wp2_with fail
      refine (HSM.out ⟨level, nlow, high, last, next, keys, vals, kids⟩ A B C (some ⟨c1, 0, none⟩) (some ⟨c2, 0, none⟩) (some ⟨c3, 0, none⟩) ca cb cc keys.length vals.length kids.length _ (H00.out.up hS.out.below) (HL.out 0 _ _ _ _ _ _ _ rfl)).mono ?_
      rintro e wn ⟨rfl, hbn⟩
      clear x0 x1 x2 x3 x4 x5 x6 x7 f0 f1 f2 f3 f4 f5 f6 f7
      clear y0 y1 y2 y3 y4 y5 y6 y7 q0 q1 q2 q3 q4 q5 q6 q7
      replace hS := Lib.hid (hS.out.call hbn)
      replace HL := Lib.hid (HL.out.up hbn)
      clear hbn
      go_wp2_with fail
      refine (lives12_any _).mono ?_
      rintro e wn4 ⟨rfl, hbn⟩
      go_wp2_with fail
      go_ret
      exact ⟨rfl, (hS.out.call hbn).below⟩
theorem innerturns_row (d : Nd) (A B C : Option Addr) (ca cb cc : Nat) (low : ByteArray) (kid i fan : Int) (w : World) (h : Lies w d A B C ca cb cc) (_ : Bnd d) (hk : low.size ≤ maxLen) (_ : -9223372036854775808 ≤ kid ∧ kid ≤ 9223372036854775807) (_ : -9223372036854775808 ≤ i ∧ i ≤ 9223372036854775807) (_ : -9223372036854775808 ≤ fan ∧ fan ≤ 9223372036854775807) :
    Calls Try.prog 11 #[.agg (ndCells d A B C ca cb cc), .string low, .int .i64 kid, .int .i64 i, .int .i64 fan] w (Ret (.bool true) w) := innerturns_any d low kid i fan A B C ca cb cc w h hk

end Go.Proofs.Ytcoiadncennhpaa
