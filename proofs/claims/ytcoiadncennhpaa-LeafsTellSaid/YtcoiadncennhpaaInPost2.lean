/- Contracts of package inner: Post, the walk. -/
import Derived.Test.YtcoiadncennhpaaInPost
namespace Go.Proofs.Ytcoiadncennhpaa
open Go.RowKit

theorem fits_ins {ss : List ByteArray} {k : ByteArray} (h : Fits ss) (hk : k.size ≤ maxLen) (i : Nat) : Fits (ins ss i k) := by
  intro j hj
  have hm := List.getElem_mem hj
  generalize (ins ss i k)[j] = sj at hm ⊢
  rcases ins_mem hm with rfl | hm2
  · exact hk
  · obtain ⟨q, hq, rfl⟩ := List.getElem_of_mem hm2
    exact h q hq
theorem strs_ins2 (ss : List ByteArray) (i : Nat) (k : ByteArray) : ins (strs ss) i (.string k) = strs (ins ss i k) := by simp [ins, strs, List.map_take, List.map_drop]
theorem i64s_ins2 (zs : List Int) (i : Nat) (k : Int) : ins (i64s zs) i (.int .i64 k) = i64s (ins zs i k) := by simp [ins, i64s, List.map_take, List.map_drop]

theorem postD_no {d : Nd} {low : ByteArray} {kid fan : Int} (h : postB d low kid fan = false) : postD d low kid fan = (false, zeroN) := if_neg (by rw [h]; exact Bool.false_ne_true)
theorem postD_yes {d : Nd} {low : ByteArray} {kid fan : Int} (h : postB d low kid fan = true) : postD d low kid fan = (true, postN d low kid) := if_pos h

set_option maxRecDepth 100000 in
set_option maxHeartbeats 16000000 in
theorem inpost_any (d : Nd) (low : ByteArray) (kid fan : Int) (A B C : Option Addr) (ca cb cc : Nat) (w : World) (h : Lies w d A B C ca cb cc) (hk : low.size ≤ maxLen) :
    Calls Try.prog 53 #[.agg (ndCells d A B C ca cb cc), .string low, .int .i64 kid, .int .i64 fan] w (NRet (postD d low kid fan) w) := by
  have hS := Lib.hid (Sx.start4 w (.cells (ndCells d A B C ca cb cc) 26) (.cells #[.string low] 9) (.cells #[.int .i64 kid] 3) (.cells #[.int .i64 0, .string ⟨#[]⟩, .string ⟨#[]⟩, .bool false, .int .i64 0, .slice none 0 0, .slice none 0 0, .slice none 0 0] 26))
  have H00 := Lib.hid h
  have HIn := Lib.hid (fun W hW => insound_any d A B C ca cb cc W hW)
  have HCk := Lib.hid (fun W hW => ndcheck_any d fan A B C ca cb cc W hW)
  have HF := Lib.hid (fun W (hW : Lies W d A B C ca cb cc) => find_any A d.keys.length ca d.keys low W hW.keys hW.fit hk hW.la)
  rw [show Pl.findAt d.keys low.data.toList = atD d low from rfl, show Pl.findIs d.keys low.data.toList = hasD d low from rfl] at HF
  have HP := Lib.hid (fun W hW => place_any d kid A B C ca cb cc W hW)
  have HM := Lib.hid (fun (g0 g1 g2 g3 g4 : Nat) W (hW : Lies W d A B C ca cb cc) => postmay_any d low kid (hasD d low) (placeB d kid) A B C ca cb cc g0 g1 g2 g3 g4 W hW hk)
  rw [show (goodB low && (cellB kid && (!hasD d low && (!placeB d kid && insB d low)))) = mayP d low kid from rfl] at HM
  have hpb : postB d low kid fan = (innerB d && (decide (4 ≤ fan ∧ fan ≤ 64) && (decide ((d.keys.length : Int) < fan) && mayP d low kid))) := rfl
  have hno := Lib.hid (fun (q : postB d low kid fan = false) => postD_no q)
  have hyes := Lib.hid (fun (q : postB d low kid fan = true) => (postD_yes q).trans (show (true, postN d low kid) = (true, ⟨d.level, d.low, d.high, d.last, d.next, ins d.keys (atD d low) low, d.vals, ins d.kids (atD d low) kid⟩) from rfl))
  have hal := at_le d low
  have hlen := Lib.hid (fun (q : innerB d = true) => And.intro ((innerB_iff d).1 q).kp.len ((innerB_iff d).1 q).fan)
  have HK := Lib.hid hk
  clear h hk
  generalize postD d low kid fan = o at hno hyes ⊢
  generalize postB d low kid fan = pb at hpb hno hyes
  generalize mayP d low kid = mb at HM hpb
  generalize hasD d low = hs at HF HM
  generalize placeB d kid = mt at HP HM
  generalize atD d low = i at HF hyes hal
  generalize placeI d kid = pi at HP
  generalize innerB d = ib at HIn hpb hlen
  have HPB := Lib.hid hpb
  have HAL := Lib.hid hal
  clear hpb hal
  obtain ⟨level, nlow, high, last, next, keys, vals, kids⟩ := d
  simp only [] at hlen HAL hyes HPB HF
  simp only [ndCells] at hS HIn HCk HP ⊢
  go_enter Try.func53, Try.ntmps53
  go_upto_region 1 with fail
  generalize (((w.alloc _).alloc _).alloc _).alloc _ = W at hS ⊢
  obtain ⟨x0, x1, x2, x3, x4, x5, x6, x7, f0, f1, f2, f3, f4, f5, f6, f7⟩ := nd_facts (hS.out.has 0 _ _ rfl).1
  have c1 := one_facts (hS.out.has 1 _ _ rfl).1
  have c2 := one_facts (hS.out.has 2 _ _ rfl).1
  go_wp2_with fail
  refine (HF.out _ (H00.out.up hS.out.below)).mono ?_
  rintro e wn ⟨rfl, hbn⟩
  clear x0 x1 x2 x3 x4 x5 x6 x7 f0 f1 f2 f3 f4 f5 f6 f7 c1 c2
  replace hS := Lib.hid (hS.out.call hbn)
  clear hbn
  obtain ⟨x0, x1, x2, x3, x4, x5, x6, x7, f0, f1, f2, f3, f4, f5, f6, f7⟩ := nd_facts (hS.out.has 0 _ _ rfl).1
  have c1 := one_facts (hS.out.has 1 _ _ rfl).1
  have c2 := one_facts (hS.out.has 2 _ _ rfl).1
  replace hS := Lib.hid (hS.out.alloc (.cells #[.bool hs] 4))
  clear x0 x1 x2 x3 x4 x5 x6 x7 f0 f1 f2 f3 f4 f5 f6 f7 c1 c2
  go_upto_region 2 with fail
  generalize hg3 : wn.heap.size = g3 at hS ⊢
  clear hg3
  generalize wn.alloc _ = W2 at hS ⊢
  obtain ⟨x0, x1, x2, x3, x4, x5, x6, x7, f0, f1, f2, f3, f4, f5, f6, f7⟩ := nd_facts (hS.out.has 0 _ _ rfl).1
  have c1 := one_facts (hS.out.has 1 _ _ rfl).1
  have c2 := one_facts (hS.out.has 2 _ _ rfl).1
  go_wp2_with fail
  refine (HP.out _ (H00.out.up hS.out.below)).mono ?_
  rintro e wn ⟨rfl, hbn⟩
  clear x0 x1 x2 x3 x4 x5 x6 x7 f0 f1 f2 f3 f4 f5 f6 f7 c1 c2
  replace hS := Lib.hid (hS.out.call hbn)
  clear hbn
  obtain ⟨x0, x1, x2, x3, x4, x5, x6, x7, f0, f1, f2, f3, f4, f5, f6, f7⟩ := nd_facts (hS.out.has 0 _ _ rfl).1
  have c1 := one_facts (hS.out.has 1 _ _ rfl).1
  have c2 := one_facts (hS.out.has 2 _ _ rfl).1
  replace hS := Lib.hid (hS.out.alloc (.cells #[.bool mt] 4))
  clear x0 x1 x2 x3 x4 x5 x6 x7 f0 f1 f2 f3 f4 f5 f6 f7 c1 c2
  go_upto_region 3 with fail
  generalize hg4 : wn.heap.size = g4 at hS ⊢
  clear hg4
  generalize wn.alloc _ = W3 at hS ⊢
  obtain ⟨x0, x1, x2, x3, x4, x5, x6, x7, f0, f1, f2, f3, f4, f5, f6, f7⟩ := nd_facts (hS.out.has 0 _ _ rfl).1
  have c1 := one_facts (hS.out.has 1 _ _ rfl).1
  have c2 := one_facts (hS.out.has 2 _ _ rfl).1
  go_wp2_with fail
  refine (HIn.out _ (H00.out.up hS.out.below)).mono ?_
  rintro e wn ⟨rfl, hbn⟩
  clear x0 x1 x2 x3 x4 x5 x6 x7 f0 f1 f2 f3 f4 f5 f6 f7 c1 c2
  replace hS := Lib.hid (hS.out.call hbn)
  clear hbn
  obtain ⟨x0, x1, x2, x3, x4, x5, x6, x7, f0, f1, f2, f3, f4, f5, f6, f7⟩ := nd_facts (hS.out.has 0 _ _ rfl).1
  have c1 := one_facts (hS.out.has 1 _ _ rfl).1
  have c2 := one_facts (hS.out.has 2 _ _ rfl).1
  cases ib
  · obtain rfl : o = (false, zeroN) := hno.out (by rw [HPB.out]; rfl)
    obtain ⟨y0, y1, y2, y3, y4, y5, y6, y7, q0, q1, q2, q3, q4, q5, q6, q7⟩ := nd_facts (hS.out.has 3 _ _ rfl).1
    have hZ := (hS.out.store 3 rfl (.int .i64 0) (.string ⟨#[]⟩) (.string ⟨#[]⟩) (.bool false) (.int .i64 0) (.slice none 0 0) (.slice none 0 0) (.slice none 0 0)).below
    simp only [set8] at hZ
    have HZ := Lib.hid hZ
    clear hZ
    go_wp2_with fail
    exact bodyPost_ret (v := .tuple #[.agg #[.int .i64 0, .string ⟨#[]⟩, .string ⟨#[]⟩, .bool false, .int .i64 0, .slice none 0 0, .slice none 0 0, .slice none 0 0], .bool false]) (by simp [results, Try.results53, go_sem, *]) rfl ⟨none, none, none, 0, 0, 0, rfl, zero_lies _, HZ.out⟩
  · by_cases h2 : fan < 4 ∨ 64 < fan
    · obtain rfl : o = (false, zeroN) := hno.out (by rw [HPB.out, decide_eq_false (p := 4 ≤ fan ∧ fan ≤ 64) (by omega)]; rfl)
      have HC0 := Lib.hid (fun W hW => Ret.to (HCk.out W hW) (congrArg (Value.int .i64) (ndChk_two h2)))
      clear h2
      go_wp2_with fail
      refine (HC0.out _ (H00.out.up hS.out.below)).mono ?_
      rintro e wn ⟨rfl, hbn⟩
      clear x0 x1 x2 x3 x4 x5 x6 x7 f0 f1 f2 f3 f4 f5 f6 f7 c1 c2
      replace hS := Lib.hid (hS.out.call hbn)
      clear hbn
      obtain ⟨x0, x1, x2, x3, x4, x5, x6, x7, f0, f1, f2, f3, f4, f5, f6, f7⟩ := nd_facts (hS.out.has 0 _ _ rfl).1
      have c1 := one_facts (hS.out.has 1 _ _ rfl).1
      have c2 := one_facts (hS.out.has 2 _ _ rfl).1
      obtain ⟨y0, y1, y2, y3, y4, y5, y6, y7, q0, q1, q2, q3, q4, q5, q6, q7⟩ := nd_facts (hS.out.has 3 _ _ rfl).1
      have hZ := (hS.out.store 3 rfl (.int .i64 0) (.string ⟨#[]⟩) (.string ⟨#[]⟩) (.bool false) (.int .i64 0) (.slice none 0 0) (.slice none 0 0) (.slice none 0 0)).below
      simp only [set8] at hZ
      have HZ := Lib.hid hZ
      clear hZ
      go_wp2_with fail
      exact bodyPost_ret (v := .tuple #[.agg #[.int .i64 0, .string ⟨#[]⟩, .string ⟨#[]⟩, .bool false, .int .i64 0, .slice none 0 0, .slice none 0 0, .slice none 0 0], .bool false]) (by simp [results, Try.results53, go_sem, *]) rfl ⟨none, none, none, 0, 0, 0, rfl, zero_lies _, HZ.out⟩
    · have hc := ndChk_not (d := ⟨level, nlow, high, last, next, keys, vals, kids⟩) h2
      have hcv : (ndChk ⟨level, nlow, high, last, next, keys, vals, kids⟩ fan == (2 : Int)) = false := by rcases hc with e | e <;> rw [e] <;> rfl
      generalize ndChk ⟨level, nlow, high, last, next, keys, vals, kids⟩ fan = cv at hcv HCk
      have H2 := Lib.hid h2
      clear hc h2
      go_wp2_with fail
      refine (HCk.out _ (H00.out.up hS.out.below)).mono ?_
      rintro e wn ⟨rfl, hbn⟩
      clear x0 x1 x2 x3 x4 x5 x6 x7 f0 f1 f2 f3 f4 f5 f6 f7 c1 c2
      replace hS := Lib.hid (hS.out.call hbn)
      clear hbn
      obtain ⟨x0, x1, x2, x3, x4, x5, x6, x7, f0, f1, f2, f3, f4, f5, f6, f7⟩ := nd_facts (hS.out.has 0 _ _ rfl).1
      have c1 := one_facts (hS.out.has 1 _ _ rfl).1
      have c2 := one_facts (hS.out.has 2 _ _ rfl).1
      by_cases h3 : (keys.length : Int) < fan
      · have h3b : decide (fan ≤ (keys.length : Int)) = false := decide_eq_false (by omega)
        have H3 := Lib.hid h3
        clear h3
        have c3 := one_facts (hS.out.has 4 _ _ rfl).1
        have c4 := one_facts (hS.out.has 5 _ _ rfl).1
        go_wp2_with fail
        refine (HM.out w.heap.size (w.heap.size + 1) (w.heap.size + 2) g3 g4 _ (H00.out.up hS.out.below) c1 c2 c3 c4 ⟨x0, x1, x2, x3, x4, x5, x6, x7⟩ ⟨hS.out.lt (i := 0) rfl, hS.out.lt (i := 1) rfl, hS.out.lt (i := 2) rfl, hS.out.lt (i := 4) rfl, hS.out.lt (i := 5) rfl⟩).mono ?_
        rintro e wn ⟨rfl, hbn⟩
        clear c3 c4
        clear x0 x1 x2 x3 x4 x5 x6 x7 f0 f1 f2 f3 f4 f5 f6 f7 c1 c2
        replace hS := Lib.hid (hS.out.call hbn)
        clear hbn
        cases mb
        · obtain rfl : o = (false, zeroN) := hno.out (by rw [HPB.out]; simp)
          obtain ⟨y0, y1, y2, y3, y4, y5, y6, y7, q0, q1, q2, q3, q4, q5, q6, q7⟩ := nd_facts (hS.out.has 3 _ _ rfl).1
          have hZ := (hS.out.store 3 rfl (.int .i64 0) (.string ⟨#[]⟩) (.string ⟨#[]⟩) (.bool false) (.int .i64 0) (.slice none 0 0) (.slice none 0 0) (.slice none 0 0)).below
          simp only [set8] at hZ
          have HZ := Lib.hid hZ
          clear hZ
          go_wp2_with fail
          exact bodyPost_ret (v := .tuple #[.agg #[.int .i64 0, .string ⟨#[]⟩, .string ⟨#[]⟩, .bool false, .int .i64 0, .slice none 0 0, .slice none 0 0, .slice none 0 0], .bool false]) (by simp [results, Try.results53, go_sem, *]) rfl ⟨none, none, none, 0, 0, 0, rfl, zero_lies _, HZ.out⟩
        · have hpt : pb = true := by rw [HPB.out, decide_eq_true (p := 4 ≤ fan ∧ fan ≤ 64) (by have := H2.out; omega), decide_eq_true H3.out]; rfl
          obtain ⟨KK, hKK⟩ : ∃ KK, KK = ins keys i low := ⟨_, rfl⟩
          obtain ⟨CC, hCC⟩ : ∃ CC, CC = ins kids i kid := ⟨_, rfl⟩
          have hkl := hlen.out (by trivial)
          have hal := HAL.out
          have hkk : keys.length + 1 = KK.length := by rw [hKK, ins_len _ _ _ hal]
          have hcc : kids.length + 1 = CC.length := by rw [hCC, ins_len _ _ _ (by omega)]
          have hks : ins (strs keys) i (.string low) = strs KK := by rw [hKK, strs_ins2]
          have hcs : ins (i64s kids) i (.int .i64 kid) = i64s CC := by rw [hCC, i64s_ins2]
          have hfit : Fits KK := hKK ▸ fits_ins H00.out.fit HK.out i
          rw [← hKK, ← hCC] at hyes
          obtain rfl := hyes.out hpt
          clear hpt
          have HW := Lib.hid (And.intro hkk (And.intro hcc (And.intro hks (And.intro hcs (And.intro hfit (And.intro hal hkl))))))
          clear hKK hCC hkk hcc hks hcs hfit hal hkl HCk HIn HF HP HM h3b hcv
          have hL := H00.out.up hS.out.below
          have HA1 := Lib.hid (addS_yes A keys.length ca (i : Int) low (strs keys) _ hL.keys (strs_one keys) (by have := HW.out.2.2.2.2.2.2.2; omega) hL.ka (by omega) (by have := HW.out.2.2.2.2.2.1; omega))
          clear hL
          obtain ⟨x0, x1, x2, x3, x4, x5, x6, x7, f0, f1, f2, f3, f4, f5, f6, f7⟩ := nd_facts (hS.out.has 0 _ _ rfl).1
          have c1 := one_facts (hS.out.has 1 _ _ rfl).1
          have c2 := one_facts (hS.out.has 2 _ _ rfl).1
          go_wp2_with fail
          refine HA1.out.mono ?_
          rintro e Y1 ⟨rfl, hh1, hb1⟩
          rw [HW.out.1]
          rw [Int.toNat_natCast, HW.out.2.2.1] at hh1
          clear x0 x1 x2 x3 x4 x5 x6 x7 f0 f1 f2 f3 f4 f5 f6 f7 c1 c2
          replace hS := Lib.hid (hS.out.call1 hb1 hh1)
          clear hh1 hb1 HA1
          generalize wn.heap.size = p1 at hS ⊢
          obtain ⟨x0, x1, x2, x3, x4, x5, x6, x7, f0, f1, f2, f3, f4, f5, f6, f7⟩ := nd_facts (hS.out.has 0 _ _ rfl).1
          have c1 := one_facts (hS.out.has 1 _ _ rfl).1
          have c2 := one_facts (hS.out.has 2 _ _ rfl).1
          go_upto_region 7 with fail
          replace hS := Lib.hid (hS.out.setc 0 rfl 5 (.slice (some ⟨p1, 0, none⟩) KK.length KK.length))
          simp only [List.cons_append, List.nil_append, List.set_cons_zero, List.set_cons_succ] at hS
          clear x0 x1 x2 x3 x4 x5 x6 x7 f0 f1 f2 f3 f4 f5 f6 f7 c1 c2
          generalize Y1.setCell _ _ = Z1 at hS ⊢
          have hL := H00.out.up hS.out.below
          have HA2 := Lib.hid (addI_yes C kids.length cc (i : Int) kid (i64s kids) Z1 hL.kids (i64s_one kids) (by have := HW.out.2.2.2.2.2.2; omega) hL.kc (by omega) (by have := HW.out.2.2.2.2.2; omega))
          clear hL
          obtain ⟨x0, x1, x2, x3, x4, x5, x6, x7, f0, f1, f2, f3, f4, f5, f6, f7⟩ := nd_facts (hS.out.has 0 _ _ rfl).1
          have c1 := one_facts (hS.out.has 1 _ _ rfl).1
          have c2 := one_facts (hS.out.has 2 _ _ rfl).1
          go_wp2_with fail
          refine HA2.out.mono ?_
          rintro e Z2 ⟨rfl, hh2, hb2⟩
          rw [HW.out.2.1]
          rw [Int.toNat_natCast, HW.out.2.2.2.1] at hh2
          clear x0 x1 x2 x3 x4 x5 x6 x7 f0 f1 f2 f3 f4 f5 f6 f7 c1 c2
          replace hS := Lib.hid (hS.out.call1 hb2 hh2)
          clear hh2 hb2 HA2
          generalize Z1.heap.size = p2 at hS ⊢
          obtain ⟨x0, x1, x2, x3, x4, x5, x6, x7, f0, f1, f2, f3, f4, f5, f6, f7⟩ := nd_facts (hS.out.has 0 _ _ rfl).1
          have c1 := one_facts (hS.out.has 1 _ _ rfl).1
          have c2 := one_facts (hS.out.has 2 _ _ rfl).1
          go_upto_region 8 with fail
          replace hS := Lib.hid (hS.out.setc 0 rfl 7 (.slice (some ⟨p2, 0, none⟩) CC.length CC.length))
          simp only [List.cons_append, List.nil_append, List.set_cons_zero, List.set_cons_succ] at hS
          clear x0 x1 x2 x3 x4 x5 x6 x7 f0 f1 f2 f3 f4 f5 f6 f7 c1 c2
          generalize Z2.setCell _ _ = Z at hS ⊢
          obtain ⟨x0, x1, x2, x3, x4, x5, x6, x7, f0, f1, f2, f3, f4, f5, f6, f7⟩ := nd_facts (hS.out.has 0 _ _ rfl).1
          obtain ⟨y0, y1, y2, y3, y4, y5, y6, y7, q0, q1, q2, q3, q4, q5, q6, q7⟩ := nd_facts (hS.out.has 3 _ _ rfl).1
          have hZ := hS.out.store 3 rfl (.int .i64 level) (.string nlow) (.string high) (.bool last) (.int .i64 next) (.slice (some ⟨p1, 0, none⟩) KK.length KK.length) (.slice B vals.length cb) (.slice (some ⟨p2, 0, none⟩) CC.length CC.length)
          have hL := H00.out.up hZ.below
          have hk1 := (hZ.has 6 _ _ rfl).1
          have hk2 := (hZ.has 7 _ _ rfl).1
          have hlies : Lies _ ⟨level, nlow, high, last, next, KK, vals, CC⟩ (some ⟨p1, 0, none⟩) B (some ⟨p2, 0, none⟩) KK.length cb CC.length :=
            { low := hL.low, high := hL.high, fit := HW.out.2.2.2.2.1, la := by have := HW.out.1; have := HW.out.2.2.2.2.2.2; simp only []; omega, lb := hL.lb, lc := by have := HW.out.2.1; have := HW.out.2.2.2.2.2.2; simp only []; omega
              keys := by have := Rd.new hk1; rw [strs_length] at this; exact this
              vals := hL.vals
              kids := by have := Rd.new hk2; rw [i64s_length] at this; exact this
              ka := Nat.le_refl _, kb := hL.kb, kc := Nat.le_refl _ }
          have HFI := And.intro hZ.below hlies
          simp only [set8] at HFI
          replace HFI := Lib.hid HFI
          clear hZ hL hk1 hk2 hlies
          go_wp2_with fail
          exact bodyPost_ret (v := .tuple #[.agg #[.int .i64 level, .string nlow, .string high, .bool last, .int .i64 next, .slice (some ⟨p1, 0, none⟩) KK.length KK.length, .slice B vals.length cb, .slice (some ⟨p2, 0, none⟩) CC.length CC.length], .bool true]) (by simp [results, Try.results53, go_sem, *]) rfl ⟨_, _, _, _, _, _, by simp [ndCells], HFI.out.2, HFI.out.1⟩
      · have h3b : decide (fan ≤ (keys.length : Int)) = true := decide_eq_true (by omega)
        obtain rfl : o = (false, zeroN) := hno.out (by rw [HPB.out, decide_eq_false h3]; simp)
        clear h3
        obtain ⟨y0, y1, y2, y3, y4, y5, y6, y7, q0, q1, q2, q3, q4, q5, q6, q7⟩ := nd_facts (hS.out.has 3 _ _ rfl).1
        have hZ := (hS.out.store 3 rfl (.int .i64 0) (.string ⟨#[]⟩) (.string ⟨#[]⟩) (.bool false) (.int .i64 0) (.slice none 0 0) (.slice none 0 0) (.slice none 0 0)).below
        simp only [set8] at hZ
        have HZ := Lib.hid hZ
        clear hZ
        go_wp2_with fail
        exact bodyPost_ret (v := .tuple #[.agg #[.int .i64 0, .string ⟨#[]⟩, .string ⟨#[]⟩, .bool false, .int .i64 0, .slice none 0 0, .slice none 0 0, .slice none 0 0], .bool false]) (by simp [results, Try.results53, go_sem, *]) rfl ⟨none, none, none, 0, 0, 0, rfl, zero_lies _, HZ.out⟩

end Go.Proofs.Ytcoiadncennhpaa
