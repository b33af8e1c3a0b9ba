/- The law HalveParts: the walk. -/
import Derived.Test.YtcoiadncennhpaaHRef3
import Derived.Test.YtcoiadncennhpaaHal8
namespace Go.Proofs.Ytcoiadncennhpaa
open Go.RowKit

/-- Nodes that lie in memory. -/
def LL (W : World) (L : List (Nd × Option Addr × Option Addr × Option Addr × Nat × Nat × Nat)) : Prop :=
  ∀ (i : Nat) (d : Nd) (A B C : Option Addr) (ca cb cc : Nat), L[i]? = some (d, A, B, C, ca, cb, cc) → Lies W d A B C ca cb cc
theorem LL.start (W : World) : LL W [] := fun i d A B C ca cb cc q => by simp at q
theorem LL.up {W W' : World} {L : List (Nd × Option Addr × Option Addr × Option Addr × Nat × Nat × Nat)} (h : LL W L) (hb : Below W.heap.size W W') : LL W' L := fun i d A B C ca cb cc q => (h i d A B C ca cb cc q).up hb
theorem LL.add {W : World} {L : List (Nd × Option Addr × Option Addr × Option Addr × Nat × Nat × Nat)} (h : LL W L) {d : Nd} {A B C : Option Addr} {ca cb cc : Nat} (hl : Lies W d A B C ca cb cc) : LL W (L ++ [(d, A, B, C, ca, cb, cc)]) := by
  intro i d' A' B' C' ca' cb' cc' q
  rcases Nat.lt_or_ge i L.length with g | g
  · rw [List.getElem?_append_left g] at q
    exact h _ _ _ _ _ _ _ _ q
  · rw [List.getElem?_append_right g] at q
    rcases hz : i - L.length with _ | m
    · rw [hz] at q
      injection q with q
      injection q with q1 q
      injection q with q2 q
      injection q with q3 q
      injection q with q4 q
      injection q with q5 q
      injection q with q6 q
      subst q1; subst q2; subst q3; subst q4; subst q5; subst q6; subst q
      exact hl
    · rw [hz] at q
      simp at q

set_option maxRecDepth 100000 in
set_option maxHeartbeats 16000000 in
theorem halveparts_any (d : Nd) (low : ByteArray) (kid cell : Int) (A B C : Option Addr) (ca cb cc : Nat) (w : World) (h : Lies w d A B C ca cb cc) (hk : low.size ≤ maxLen) :
    Calls Try.prog 13 #[.agg (ndCells d A B C ca cb cc), .string low, .int .i64 kid, .int .i64 cell] w (Ret (.bool true) w) := by
  have hS := Lib.hid ((Sx.start0 w).alloc (.cells (ndCells d A B C ca cb cc) 26))
  have H00 := Lib.hid h
  have HLi := Lib.hid (fun W hW => lightN_any d A B C ca cb cc W hW)
  have hks : low.size ≤ 9223372036854775807 := hk
  have HK := Lib.hid hk
  clear h hk
  cases hli : lightN d
  · rw [hli] at HLi
    clear hli
    obtain ⟨level, nlow, high, last, next, keys, vals, kids⟩ := d
    simp only [ndCells, List.nil_append] at hS HLi ⊢
    go_enter Try.func13, Try.ntmps13
    go_upto_region 1 with fail
    generalize w.alloc _ = W at hS ⊢
    obtain ⟨x0, x1, x2, x3, x4, x5, x6, x7, f0, f1, f2, f3, f4, f5, f6, f7⟩ := nd_facts (hS.out.has 0 _ _ rfl).1
    go_wp2_with fail
    refine (HLi.out _ (H00.out.up hS.out.below)).mono ?_
    rintro e wn ⟨rfl, hbn⟩
    clear x0 x1 x2 x3 x4 x5 x6 x7 f0 f1 f2 f3 f4 f5 f6 f7
    replace hS := Lib.hid (hS.out.call hbn)
    clear hbn
    obtain ⟨x0, x1, x2, x3, x4, x5, x6, x7, f0, f1, f2, f3, f4, f5, f6, f7⟩ := nd_facts (hS.out.has 0 _ _ rfl).1
    go_wp2_with fail
    refine (lives13_any _).mono ?_
    rintro e wn2 ⟨rfl, hbn⟩
    go_wp2_with fail
    go_ret
    exact ⟨rfl, (hS.out.call hbn).below⟩
  · rw [hli] at HLi
    have HLen := Lib.hid (lightN_spec hli)
    clear hli
    by_cases hk100 : 100 < low.size
    · have hk100' : decide ((100 : Int) < (low.size : Int)) = true := decide_eq_true (by omega)
      clear hk100
      obtain ⟨level, nlow, high, last, next, keys, vals, kids⟩ := d
      simp only [ndCells, List.nil_append] at hS HLi ⊢
      go_enter Try.func13, Try.ntmps13
      go_upto_region 1 with fail
      generalize w.alloc _ = W at hS ⊢
      obtain ⟨x0, x1, x2, x3, x4, x5, x6, x7, f0, f1, f2, f3, f4, f5, f6, f7⟩ := nd_facts (hS.out.has 0 _ _ rfl).1
      go_wp2_with fail
      refine (HLi.out _ (H00.out.up hS.out.below)).mono ?_
      rintro e wn ⟨rfl, hbn⟩
      clear x0 x1 x2 x3 x4 x5 x6 x7 f0 f1 f2 f3 f4 f5 f6 f7
      replace hS := Lib.hid (hS.out.call hbn)
      clear hbn
      obtain ⟨x0, x1, x2, x3, x4, x5, x6, x7, f0, f1, f2, f3, f4, f5, f6, f7⟩ := nd_facts (hS.out.has 0 _ _ rfl).1
      go_wp2_with fail
      refine (lives13_any _).mono ?_
      rintro e wn2 ⟨rfl, hbn⟩
      go_wp2_with fail
      go_ret
      exact ⟨rfl, (hS.out.call hbn).below⟩
    · have hk100' : decide ((100 : Int) < (low.size : Int)) = false := decide_eq_false (by omega)
      clear hk100
      have HCl := Lib.hid (fun W (hW : Lies W d A B C ca cb cc) => cloneN_any d A B C ca cb cc W hW (by have := HLen.out; omega) (by have := HLen.out; omega) (by have := HLen.out; omega))
      have HSp := Lib.hid (fun W hW => split_any d cell A B C ca cb cc W hW)
      have HBu := Lib.hid (fun W hW => burst_any d low kid cell A B C ca cb cc W hW HK.out)
      have HSpR := Lib.hid (fun A' B' C' ca' cb' cc' W hW => refsplit_any d cell A' B' C' ca' cb' cc' W hW)
      have HBuR := Lib.hid (fun A' B' C' ca' cb' cc' W hW => refburst_any d low kid cell A' B' C' ca' cb' cc' W hW HK.out)
      have HSM := Lib.hid (fun (o : Nd) (A B C A' B' C' : Option Addr) (ca cb cc ca' cb' cc' : Nat) (W : World) h k => Ret.to (refsameN_any o o A B C A' B' C' ca cb cc ca' cb' cc' W h k) (congrArg Value.bool (sameB_self o)))
      generalize splitD d cell = o1 at HSp HSpR
      generalize burstD d low kid cell = o2 at HBu HBuR
      obtain ⟨ok1, ⟨level1, nlow1, high1, last1, next1, keys1, vals1, kids1⟩, ⟨level2, nlow2, high2, last2, next2, keys2, vals2, kids2⟩⟩ := o1
      obtain ⟨ok2, ⟨level3, nlow3, high3, last3, next3, keys3, vals3, kids3⟩, ⟨level4, nlow4, high4, last4, next4, keys4, vals4, kids4⟩⟩ := o2
      obtain ⟨level, nlow, high, last, next, keys, vals, kids⟩ := d
      simp only [ndCells] at HCl HSp HBu HSpR HBuR HSM
      simp only [ndCells, List.nil_append] at hS HLi ⊢
      go_enter Try.func13, Try.ntmps13
      go_upto_region 1 with fail
      generalize w.alloc _ = W at hS ⊢
      obtain ⟨x0, x1, x2, x3, x4, x5, x6, x7, f0, f1, f2, f3, f4, f5, f6, f7⟩ := nd_facts (hS.out.has 0 _ _ rfl).1
      go_wp2_with fail
      refine (HLi.out _ (H00.out.up hS.out.below)).mono ?_
      rintro e wn ⟨rfl, hbn⟩
      clear x0 x1 x2 x3 x4 x5 x6 x7 f0 f1 f2 f3 f4 f5 f6 f7
      replace hS := Lib.hid (hS.out.call hbn)
      clear hbn
      obtain ⟨x0, x1, x2, x3, x4, x5, x6, x7, f0, f1, f2, f3, f4, f5, f6, f7⟩ := nd_facts (hS.out.has 0 _ _ rfl).1
      go_wp2_with fail
      refine (HCl.out _ (H00.out.up hS.out.below)).mono ?_
      rintro e X ⟨c1, c2, c3, rfl, r1, r2, r3, n12, n13, n23, m1, m2, m3, hbn⟩
      clear x0 x1 x2 x3 x4 x5 x6 x7 f0 f1 f2 f3 f4 f5 f6 f7
      replace hS := Lib.hid (hS.out.rows (d := ⟨level, nlow, high, last, next, keys, vals, kids⟩) r1 r2 r3 n12 n13 n23 m1 m2 m3 hbn)
      clear r1 r2 r3 n12 n13 n23 m1 m2 m3 hbn hk100' HCl
      replace hS := Lib.hid (hS.out.alloc (.cells (ndCells ⟨level, nlow, high, last, next, keys, vals, kids⟩ (some ⟨c1, 0, none⟩) (some ⟨c2, 0, none⟩) (some ⟨c3, 0, none⟩) keys.length vals.length kids.length) 26))
      simp only [rows3, ndCells, List.cons_append, List.nil_append] at hS ⊢
      go_upto_region 4 with fail
      generalize X.alloc _ = Y at hS ⊢
      generalize X.heap.size = g0 at hS ⊢
      have HL := Lib.hid ((LL.start Y).add (d := ⟨level, nlow, high, last, next, keys, vals, kids⟩) (A := some ⟨c1, 0, none⟩) (B := some ⟨c2, 0, none⟩) (C := some ⟨c3, 0, none⟩) (ca := keys.length) (cb := vals.length) (cc := kids.length)
        { low := H00.out.low, high := H00.out.high, fit := H00.out.fit, la := H00.out.la, lb := H00.out.lb, lc := H00.out.lc
          keys := by have := Rd.new (hS.out.has 1 _ _ rfl).1; rw [strs_length] at this; exact this
          vals := by have := Rd.new (hS.out.has 2 _ _ rfl).1; rw [u64s_length] at this; exact this
          kids := by have := Rd.new (hS.out.has 3 _ _ rfl).1; rw [i64s_length] at this; exact this
          ka := Nat.le_refl _, kb := Nat.le_refl _, kc := Nat.le_refl _ })
      simp only [List.nil_append] at HL
      obtain ⟨x0, x1, x2, x3, x4, x5, x6, x7, f0, f1, f2, f3, f4, f5, f6, f7⟩ := nd_facts (hS.out.has 0 _ _ rfl).1
      go_wp2_with fail
      refine (HSp.out _ (H00.out.up hS.out.below)).mono ?_
      rintro e X1 ⟨A1, B1, C1, A2, B2, C2, ca1, cb1, cc1, ca2, cb2, cc2, rfl, hl, hl2, hb⟩
      clear x0 x1 x2 x3 x4 x5 x6 x7 f0 f1 f2 f3 f4 f5 f6 f7
      have hba := below_alloc X1 (.cells (ndCells ⟨level1, nlow1, high1, last1, next1, keys1, vals1, kids1⟩ A1 B1 C1 ca1 cb1 cc1) 26)
      have hbb := below_alloc (X1.alloc (.cells (ndCells ⟨level1, nlow1, high1, last1, next1, keys1, vals1, kids1⟩ A1 B1 C1 ca1 cb1 cc1) 26)) (.cells (ndCells ⟨level2, nlow2, high2, last2, next2, keys2, vals2, kids2⟩ A2 B2 C2 ca2 cb2 cc2) 26)
      replace hS := Lib.hid (((hS.out.call hb).alloc (.cells (ndCells ⟨level1, nlow1, high1, last1, next1, keys1, vals1, kids1⟩ A1 B1 C1 ca1 cb1 cc1) 26)).alloc (.cells (ndCells ⟨level2, nlow2, high2, last2, next2, keys2, vals2, kids2⟩ A2 B2 C2 ca2 cb2 cc2) 26))
      replace HL := Lib.hid (((((HL.out.up hb).add hl).add hl2).up hba).up hbb)
      clear hl hl2 hb hba hbb
      simp only [List.cons_append, List.nil_append, ndCells, alloc_size] at hS HL ⊢
      go_upto_region 5 with fail
      generalize (X1.alloc _).alloc _ = Y1 at hS HL ⊢
      generalize X1.heap.size = g1 at hS ⊢
      obtain ⟨x0, x1, x2, x3, x4, x5, x6, x7, f0, f1, f2, f3, f4, f5, f6, f7⟩ := nd_facts (hS.out.has 4 _ _ rfl).1
      go_wp2_with fail
      refine (HSpR.out _ _ _ _ _ _ _ (HL.out 0 _ _ _ _ _ _ _ rfl)).mono ?_
      rintro e X3 ⟨A3, B3, C3, A4, B4, C4, ca3, cb3, cc3, ca4, cb4, cc4, rfl, hl, hl2, hb⟩
      clear x0 x1 x2 x3 x4 x5 x6 x7 f0 f1 f2 f3 f4 f5 f6 f7
      have hba := below_alloc X3 (.cells (ndCells ⟨level1, nlow1, high1, last1, next1, keys1, vals1, kids1⟩ A3 B3 C3 ca3 cb3 cc3) 26)
      have hbb := below_alloc (X3.alloc (.cells (ndCells ⟨level1, nlow1, high1, last1, next1, keys1, vals1, kids1⟩ A3 B3 C3 ca3 cb3 cc3) 26)) (.cells (ndCells ⟨level2, nlow2, high2, last2, next2, keys2, vals2, kids2⟩ A4 B4 C4 ca4 cb4 cc4) 26)
      replace hS := Lib.hid (((hS.out.call hb).alloc (.cells (ndCells ⟨level1, nlow1, high1, last1, next1, keys1, vals1, kids1⟩ A3 B3 C3 ca3 cb3 cc3) 26)).alloc (.cells (ndCells ⟨level2, nlow2, high2, last2, next2, keys2, vals2, kids2⟩ A4 B4 C4 ca4 cb4 cc4) 26))
      replace HL := Lib.hid (((((HL.out.up hb).add hl).add hl2).up hba).up hbb)
      clear hl hl2 hb hba hbb
      simp only [List.cons_append, List.nil_append, ndCells, alloc_size] at hS HL ⊢
      go_upto_region 6 with fail
      generalize (X3.alloc _).alloc _ = Y3 at hS HL ⊢
      generalize X3.heap.size = g3 at hS ⊢
      obtain ⟨x0, x1, x2, x3, x4, x5, x6, x7, f0, f1, f2, f3, f4, f5, f6, f7⟩ := nd_facts (hS.out.has 0 _ _ rfl).1
      go_wp2_with fail
      refine (HBu.out _ (H00.out.up hS.out.below)).mono ?_
      rintro e X5 ⟨A5, B5, C5, A6, B6, C6, ca5, cb5, cc5, ca6, cb6, cc6, rfl, hl, hl2, hb⟩
      clear x0 x1 x2 x3 x4 x5 x6 x7 f0 f1 f2 f3 f4 f5 f6 f7
      have hba := below_alloc X5 (.cells (ndCells ⟨level3, nlow3, high3, last3, next3, keys3, vals3, kids3⟩ A5 B5 C5 ca5 cb5 cc5) 26)
      have hbb := below_alloc (X5.alloc (.cells (ndCells ⟨level3, nlow3, high3, last3, next3, keys3, vals3, kids3⟩ A5 B5 C5 ca5 cb5 cc5) 26)) (.cells (ndCells ⟨level4, nlow4, high4, last4, next4, keys4, vals4, kids4⟩ A6 B6 C6 ca6 cb6 cc6) 26)
      replace hS := Lib.hid (((hS.out.call hb).alloc (.cells (ndCells ⟨level3, nlow3, high3, last3, next3, keys3, vals3, kids3⟩ A5 B5 C5 ca5 cb5 cc5) 26)).alloc (.cells (ndCells ⟨level4, nlow4, high4, last4, next4, keys4, vals4, kids4⟩ A6 B6 C6 ca6 cb6 cc6) 26))
      replace HL := Lib.hid (((((HL.out.up hb).add hl).add hl2).up hba).up hbb)
      clear hl hl2 hb hba hbb
      simp only [List.cons_append, List.nil_append, ndCells, alloc_size] at hS HL ⊢
      go_upto_region 7 with fail
      generalize (X5.alloc _).alloc _ = Y5 at hS HL ⊢
      generalize X5.heap.size = g5 at hS ⊢
      obtain ⟨x0, x1, x2, x3, x4, x5, x6, x7, f0, f1, f2, f3, f4, f5, f6, f7⟩ := nd_facts (hS.out.has 4 _ _ rfl).1
      go_wp2_with fail
      refine (HBuR.out _ _ _ _ _ _ _ (HL.out 0 _ _ _ _ _ _ _ rfl)).mono ?_
      rintro e X7 ⟨A7, B7, C7, A8, B8, C8, ca7, cb7, cc7, ca8, cb8, cc8, rfl, hl, hl2, hb⟩
      clear x0 x1 x2 x3 x4 x5 x6 x7 f0 f1 f2 f3 f4 f5 f6 f7
      have hba := below_alloc X7 (.cells (ndCells ⟨level3, nlow3, high3, last3, next3, keys3, vals3, kids3⟩ A7 B7 C7 ca7 cb7 cc7) 26)
      have hbb := below_alloc (X7.alloc (.cells (ndCells ⟨level3, nlow3, high3, last3, next3, keys3, vals3, kids3⟩ A7 B7 C7 ca7 cb7 cc7) 26)) (.cells (ndCells ⟨level4, nlow4, high4, last4, next4, keys4, vals4, kids4⟩ A8 B8 C8 ca8 cb8 cc8) 26)
      replace hS := Lib.hid (((hS.out.call hb).alloc (.cells (ndCells ⟨level3, nlow3, high3, last3, next3, keys3, vals3, kids3⟩ A7 B7 C7 ca7 cb7 cc7) 26)).alloc (.cells (ndCells ⟨level4, nlow4, high4, last4, next4, keys4, vals4, kids4⟩ A8 B8 C8 ca8 cb8 cc8) 26))
      replace HL := Lib.hid (((((HL.out.up hb).add hl).add hl2).up hba).up hbb)
      clear hl hl2 hb hba hbb
      simp only [List.cons_append, List.nil_append, ndCells, alloc_size] at hS HL ⊢
      go_upto_region 8 with fail
      generalize (X7.alloc _).alloc _ = Y7 at hS HL ⊢
      generalize X7.heap.size = g7 at hS ⊢
      clear HSp HSpR HBu HBuR
      have b1 : (ok1 != ok1) = false := by simp
      have b2 : (ok2 != ok2) = false := by simp
      obtain ⟨x0, x1, x2, x3, x4, x5, x6, x7, f0, f1, f2, f3, f4, f5, f6, f7⟩ := nd_facts (hS.out.has 0 _ _ rfl).1
      obtain ⟨y0, y1, y2, y3, y4, y5, y6, y7, q0, q1, q2, q3, q4, q5, q6, q7⟩ := nd_facts (hS.out.has 4 _ _ rfl).1
      go_wp2_with fail
      refine (HSM.out ⟨level, nlow, high, last, next, keys, vals, kids⟩ A B C (some ⟨c1, 0, none⟩) (some ⟨c2, 0, none⟩) (some ⟨c3, 0, none⟩) ca cb cc keys.length vals.length kids.length _ (H00.out.up hS.out.below) (HL.out 0 _ _ _ _ _ _ _ rfl)).mono ?_
      rintro e wn ⟨rfl, hbn⟩
      clear x0 x1 x2 x3 x4 x5 x6 x7 f0 f1 f2 f3 f4 f5 f6 f7
      clear y0 y1 y2 y3 y4 y5 y6 y7 q0 q1 q2 q3 q4 q5 q6 q7
      replace hS := Lib.hid (hS.out.call hbn)
      replace HL := Lib.hid (HL.out.up hbn)
      clear hbn
      obtain ⟨x0, x1, x2, x3, x4, x5, x6, x7, f0, f1, f2, f3, f4, f5, f6, f7⟩ := nd_facts (hS.out.has 5 _ _ rfl).1
      obtain ⟨y0, y1, y2, y3, y4, y5, y6, y7, q0, q1, q2, q3, q4, q5, q6, q7⟩ := nd_facts (hS.out.has 7 _ _ rfl).1
      go_wp2_with fail
      refine (HSM.out ⟨level1, nlow1, high1, last1, next1, keys1, vals1, kids1⟩ A1 B1 C1 A3 B3 C3 ca1 cb1 cc1 ca3 cb3 cc3 _ (HL.out 1 _ _ _ _ _ _ _ rfl) (HL.out 3 _ _ _ _ _ _ _ rfl)).mono ?_
      rintro e wn ⟨rfl, hbn⟩
      clear x0 x1 x2 x3 x4 x5 x6 x7 f0 f1 f2 f3 f4 f5 f6 f7
      clear y0 y1 y2 y3 y4 y5 y6 y7 q0 q1 q2 q3 q4 q5 q6 q7
      replace hS := Lib.hid (hS.out.call hbn)
      replace HL := Lib.hid (HL.out.up hbn)
      clear hbn
      obtain ⟨x0, x1, x2, x3, x4, x5, x6, x7, f0, f1, f2, f3, f4, f5, f6, f7⟩ := nd_facts (hS.out.has 6 _ _ rfl).1
      obtain ⟨y0, y1, y2, y3, y4, y5, y6, y7, q0, q1, q2, q3, q4, q5, q6, q7⟩ := nd_facts (hS.out.has 8 _ _ rfl).1
      go_wp2_with fail
      refine (HSM.out ⟨level2, nlow2, high2, last2, next2, keys2, vals2, kids2⟩ A2 B2 C2 A4 B4 C4 ca2 cb2 cc2 ca4 cb4 cc4 _ (HL.out 2 _ _ _ _ _ _ _ rfl) (HL.out 4 _ _ _ _ _ _ _ rfl)).mono ?_
      rintro e wn ⟨rfl, hbn⟩
      clear x0 x1 x2 x3 x4 x5 x6 x7 f0 f1 f2 f3 f4 f5 f6 f7
      clear y0 y1 y2 y3 y4 y5 y6 y7 q0 q1 q2 q3 q4 q5 q6 q7
      replace hS := Lib.hid (hS.out.call hbn)
      replace HL := Lib.hid (HL.out.up hbn)
      clear hbn
      obtain ⟨x0, x1, x2, x3, x4, x5, x6, x7, f0, f1, f2, f3, f4, f5, f6, f7⟩ := nd_facts (hS.out.has 9 _ _ rfl).1
      obtain ⟨y0, y1, y2, y3, y4, y5, y6, y7, q0, q1, q2, q3, q4, q5, q6, q7⟩ := nd_facts (hS.out.has 11 _ _ rfl).1
      go_wp2_with fail
      refine (HSM.out ⟨level3, nlow3, high3, last3, next3, keys3, vals3, kids3⟩ A5 B5 C5 A7 B7 C7 ca5 cb5 cc5 ca7 cb7 cc7 _ (HL.out 5 _ _ _ _ _ _ _ rfl) (HL.out 7 _ _ _ _ _ _ _ rfl)).mono ?_
      rintro e wn ⟨rfl, hbn⟩
      clear x0 x1 x2 x3 x4 x5 x6 x7 f0 f1 f2 f3 f4 f5 f6 f7
      clear y0 y1 y2 y3 y4 y5 y6 y7 q0 q1 q2 q3 q4 q5 q6 q7
      replace hS := Lib.hid (hS.out.call hbn)
      replace HL := Lib.hid (HL.out.up hbn)
      clear hbn
      obtain ⟨x0, x1, x2, x3, x4, x5, x6, x7, f0, f1, f2, f3, f4, f5, f6, f7⟩ := nd_facts (hS.out.has 10 _ _ rfl).1
      obtain ⟨y0, y1, y2, y3, y4, y5, y6, y7, q0, q1, q2, q3, q4, q5, q6, q7⟩ := nd_facts (hS.out.has 12 _ _ rfl).1
      go_wp2_with fail
      refine (HSM.out ⟨level4, nlow4, high4, last4, next4, keys4, vals4, kids4⟩ A6 B6 C6 A8 B8 C8 ca6 cb6 cc6 ca8 cb8 cc8 _ (HL.out 6 _ _ _ _ _ _ _ rfl) (HL.out 8 _ _ _ _ _ _ _ rfl)).mono ?_
      rintro e wn ⟨rfl, hbn⟩
      clear x0 x1 x2 x3 x4 x5 x6 x7 f0 f1 f2 f3 f4 f5 f6 f7
      clear y0 y1 y2 y3 y4 y5 y6 y7 q0 q1 q2 q3 q4 q5 q6 q7
      replace hS := Lib.hid (hS.out.call hbn)
      replace HL := Lib.hid (HL.out.up hbn)
      clear hbn
      go_wp2_with fail
      refine (lives13_any _).mono ?_
      rintro e wn4 ⟨rfl, hbn⟩
      go_wp2_with fail
      go_ret
      exact ⟨rfl, (hS.out.call hbn).below⟩
theorem halveparts_row (d : Nd) (A B C : Option Addr) (ca cb cc : Nat) (low : ByteArray) (kid cell : Int) (w : World) (h : Lies w d A B C ca cb cc) (_ : Bnd d) (hk : low.size ≤ maxLen) (_ : -9223372036854775808 ≤ kid ∧ kid ≤ 9223372036854775807) (_ : -9223372036854775808 ≤ cell ∧ cell ≤ 9223372036854775807) :
    Calls Try.prog 13 #[.agg (ndCells d A B C ca cb cc), .string low, .int .i64 kid, .int .i64 cell] w (Ret (.bool true) w) := halveparts_any d low kid cell A B C ca cb cc w h hk

end Go.Proofs.Ytcoiadncennhpaa
