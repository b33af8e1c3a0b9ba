/- Contracts of package halve: Burst. -/
import Derived.Test.YtcoiadncennhpaaHal6
import Derived.Test.YtcoiadncennhpaaInPost2
namespace Go.Proofs.Ytcoiadncennhpaa
open Go.RowKit

theorem burstD_no {d : Nd} {low : ByteArray} {kid cell : Int} (h : burstB d low kid cell = false) : burstD d low kid cell = (false, zeroN, zeroN) := if_neg (by rw [h]; exact Bool.false_ne_true)
theorem burstD_yes {d : Nd} {low : ByteArray} {kid cell : Int} (h : burstB d low kid cell = true) : burstD d low kid cell = (true, partL (postN d low kid) cell, partR (postN d low kid)) := if_pos h
theorem inner_of {d : Nd} (h : soundB d 64 = true) (hl : d.level ≠ 0) : innerB d = true := by
  have hb : borderB d = true := by unfold soundB at h; rw [Bool.and_eq_true] at h; exact h.1
  have := border_level hb
  unfold innerB
  rw [h, decide_eq_true (by omega)]
  rfl
theorem inner_not {d : Nd} (h : soundB d 64 = false ∨ d.level = 0) : innerB d = false := by
  unfold innerB
  rcases h with h | h
  · rw [h, Bool.and_false]
  · rw [decide_eq_false (by omega)]; rfl
theorem post_lens {d : Nd} {low : ByteArray} {kid : Int} (h : innerB d = true) : 2 ≤ (postN d low kid).keys.length ∧ (postN d low kid).keys.length ≤ 1000 ∧ (postN d low kid).vals.length ≤ 1000 ∧ (postN d low kid).kids.length ≤ 1000 := by
  have hi := (innerB_iff d).1 h
  have h1 := hi.kp.len
  have h2 := hi.kp.ne
  have h3 := hi.kp.vals
  have h4 := hi.fan
  have e1 : (postN d low kid).keys.length = d.keys.length + 1 := ins_len _ _ _ (at_le _ _)
  have e2 : (postN d low kid).kids.length = d.kids.length + 1 := ins_len _ _ _ (by rw [h1]; exact at_le _ _)
  have e3 : (postN d low kid).vals.length = d.vals.length := rfl
  omega

set_option maxRecDepth 100000 in
set_option maxHeartbeats 16000000 in
theorem burst_any (d : Nd) (low : ByteArray) (kid cell : Int) (A B C : Option Addr) (ca cb cc : Nat) (w : World) (h : Lies w d A B C ca cb cc) (hk : low.size ≤ maxLen) :
    Calls Try.prog 63 #[.agg (ndCells d A B C ca cb cc), .string low, .int .i64 kid, .int .i64 cell] w (P2Ret (burstD d low kid cell) w) := by
  have hS := Lib.hid (Sx.start3b w (.cells (ndCells d A B C ca cb cc) 26) (.cells #[.int .i64 0, .string ⟨#[]⟩, .string ⟨#[]⟩, .bool false, .int .i64 0, .slice none 0 0, .slice none 0 0, .slice none 0 0] 26) (.cells #[.int .i64 0, .string ⟨#[]⟩, .string ⟨#[]⟩, .bool false, .int .i64 0, .slice none 0 0, .slice none 0 0, .slice none 0 0] 26))
  have H00 := Lib.hid h
  have HSn := Lib.hid (fun W hW => halsound_any d A B C ca cb cc W hW)
  have HCe := Lib.hid (fun W => halcell_any cell W)
  have HCk := Lib.hid (fun W => halcell_any kid W)
  have HKc := Lib.hid (fun W => check_any low W hk)
  have HCo := Lib.hid (fun W hW => covers_any d A B C ca cb cc low W hW hk)
  have HF := Lib.hid (fun W (hW : Lies W d A B C ca cb cc) => find_any A d.keys.length ca d.keys low W hW.keys hW.fit hk hW.la)
  rw [show Pl.findAt d.keys low.data.toList = atD d low from rfl, show Pl.findIs d.keys low.data.toList = hasD d low from rfl] at HF
  have HPa := Lib.hid (fun (A B C : Option Addr) (ca cb cc : Nat) W (hW : Lies W (postN d low kid) A B C ca cb cc) (q : innerB d = true) => part_any (postN d low kid) cell A B C ca cb cc W hW (post_lens q).1 (post_lens q).2.1 (post_lens q).2.2.1 (post_lens q).2.2.2)
  have hpb : burstB d low kid cell = (innerB d && (!hasD d low && (cellB cell && (cellB kid && (goodB low && (insB d low && !decide (kid ∈ d.kids))))))) := rfl
  have hno := Lib.hid (fun (q : burstB d low kid cell = false) => burstD_no q)
  have hyes := Lib.hid (fun (q : burstB d low kid cell = true) => burstD_yes q)
  have hal := at_le d low
  have hlen := Lib.hid (fun (q : innerB d = true) => And.intro ((innerB_iff d).1 q).kp.len ((innerB_iff d).1 q).fan)
  have HI1 := Lib.hid (fun (q : soundB d 64 = true) (q2 : d.level ≠ 0) => inner_of q q2)
  have HI0 := Lib.hid (fun (q : soundB d 64 = false ∨ d.level = 0) => inner_not q)
  have hpn : postN d low kid = ⟨d.level, d.low, d.high, d.last, d.next, ins d.keys (atD d low) low, d.vals, ins d.kids (atD d low) kid⟩ := rfl
  have hgc : chk low = if goodB low = true then 0 else 2 := by
    cases hg : goodB low
    · exact chk_bad hg
    · exact chk_good hg
  rw [hgc] at HKc
  clear hgc
  have HK := Lib.hid hk
  clear h hk
  generalize hon : burstD d low kid cell = o at hno hyes ⊢
  clear hon
  generalize burstB d low kid cell = pb at hpb hno hyes
  generalize partL (postN d low kid) cell = pl at hyes HPa
  generalize partR (postN d low kid) = pr at hyes HPa
  generalize postN d low kid = pn at hpn HPa
  generalize hasD d low = hs at HF hpb
  generalize atD d low = i at HF hpn hal
  generalize innerB d = ib at hpb hlen HPa HI0 HI1
  generalize soundB d 64 = sb at HSn HI0 HI1
  generalize cellB cell = cl at HCe hpb
  generalize cellB kid = ck at HCk hpb
  generalize goodB low = gb at HKc hpb
  generalize insB d low = nb at HCo hpb
  have HPB := Lib.hid hpb
  have HAL := Lib.hid hal
  have HPN := Lib.hid hpn
  clear hpb hal hpn
  obtain ⟨level, nlow, high, last, next, keys, vals, kids⟩ := d
  simp only [] at hlen HAL HPB HF HPN HI0 HI1
  simp only [ndCells] at hS HSn HCo ⊢
  go_enter Try.func63, Try.ntmps63
  go_upto_region 1 with fail
  generalize ((w.alloc _).alloc _).alloc _ = W at hS ⊢
  obtain ⟨x0, x1, x2, x3, x4, x5, x6, x7, f0, f1, f2, f3, f4, f5, f6, f7⟩ := nd_facts (hS.out.has 0 _ _ rfl).1
  go_wp2_with fail
  refine (HF.out _ (H00.out.up hS.out.below)).mono ?_
  rintro e wn ⟨rfl, hbn⟩
  clear x0 x1 x2 x3 x4 x5 x6 x7 f0 f1 f2 f3 f4 f5 f6 f7
  replace hS := Lib.hid (hS.out.call hbn)
  clear hbn
  obtain ⟨x0, x1, x2, x3, x4, x5, x6, x7, f0, f1, f2, f3, f4, f5, f6, f7⟩ := nd_facts (hS.out.has 0 _ _ rfl).1
  go_wp2_with fail
  refine (HSn.out _ (H00.out.up hS.out.below)).mono ?_
  rintro e wn ⟨rfl, hbn⟩
  clear x0 x1 x2 x3 x4 x5 x6 x7 f0 f1 f2 f3 f4 f5 f6 f7
  replace hS := Lib.hid (hS.out.call hbn)
  clear hbn
  obtain ⟨x0, x1, x2, x3, x4, x5, x6, x7, f0, f1, f2, f3, f4, f5, f6, f7⟩ := nd_facts (hS.out.has 0 _ _ rfl).1
  cases sb
  · obtain rfl := HI0.out (.inl rfl)
    obtain rfl : o = (false, zeroN, zeroN) := hno.out (by rw [HPB.out]; rfl)
    obtain ⟨s0, s1, s2, s3, s4, s5, s6, s7, t0, t1, t2, t3, t4, t5, t6, t7⟩ := nd_facts (hS.out.has 1 _ _ rfl).1
    obtain ⟨z0, z1, z2, z3, z4, z5, z6, z7, r0, r1, r2, r3, r4, r5, r6, r7⟩ := nd_facts (hS.out.has 2 _ _ rfl).1
    have hZ := ((hS.out.store 1 rfl (.int .i64 0) (.string ⟨#[]⟩) (.string ⟨#[]⟩) (.bool false) (.int .i64 0) (.slice none 0 0) (.slice none 0 0) (.slice none 0 0)).store 2 rfl (.int .i64 0) (.string ⟨#[]⟩) (.string ⟨#[]⟩) (.bool false) (.int .i64 0) (.slice none 0 0) (.slice none 0 0) (.slice none 0 0)).below
    simp only [set8] at hZ
    have HZ := Lib.hid hZ
    clear hZ
    go_wp2_with fail
    exact bodyPost_ret (v := .tuple #[.agg #[.int .i64 0, .string ⟨#[]⟩, .string ⟨#[]⟩, .bool false, .int .i64 0, .slice none 0 0, .slice none 0 0, .slice none 0 0], .agg #[.int .i64 0, .string ⟨#[]⟩, .string ⟨#[]⟩, .bool false, .int .i64 0, .slice none 0 0, .slice none 0 0, .slice none 0 0], .bool false]) (by simp [results, Try.results63, go_sem, *]) rfl ⟨none, none, none, none, none, none, 0, 0, 0, 0, 0, 0, rfl, zero_lies _, zero_lies _, HZ.out⟩
  · by_cases hl : level = 0
    · obtain rfl := HI0.out (.inr hl)
      have hlb : (level == (0 : Int)) = true := beq_iff_eq.2 hl
      clear hl
      obtain rfl : o = (false, zeroN, zeroN) := hno.out (by rw [HPB.out]; rfl)
      obtain ⟨s0, s1, s2, s3, s4, s5, s6, s7, t0, t1, t2, t3, t4, t5, t6, t7⟩ := nd_facts (hS.out.has 1 _ _ rfl).1
      obtain ⟨z0, z1, z2, z3, z4, z5, z6, z7, r0, r1, r2, r3, r4, r5, r6, r7⟩ := nd_facts (hS.out.has 2 _ _ rfl).1
      have hZ := ((hS.out.store 1 rfl (.int .i64 0) (.string ⟨#[]⟩) (.string ⟨#[]⟩) (.bool false) (.int .i64 0) (.slice none 0 0) (.slice none 0 0) (.slice none 0 0)).store 2 rfl (.int .i64 0) (.string ⟨#[]⟩) (.string ⟨#[]⟩) (.bool false) (.int .i64 0) (.slice none 0 0) (.slice none 0 0) (.slice none 0 0)).below
      simp only [set8] at hZ
      have HZ := Lib.hid hZ
      clear hZ
      go_wp2_with fail
      exact bodyPost_ret (v := .tuple #[.agg #[.int .i64 0, .string ⟨#[]⟩, .string ⟨#[]⟩, .bool false, .int .i64 0, .slice none 0 0, .slice none 0 0, .slice none 0 0], .agg #[.int .i64 0, .string ⟨#[]⟩, .string ⟨#[]⟩, .bool false, .int .i64 0, .slice none 0 0, .slice none 0 0, .slice none 0 0], .bool false]) (by simp [results, Try.results63, go_sem, *]) rfl ⟨none, none, none, none, none, none, 0, 0, 0, 0, 0, 0, rfl, zero_lies _, zero_lies _, HZ.out⟩
    · obtain rfl := HI1.out rfl hl
      have hlb : (level == (0 : Int)) = false := by simpa using hl
      clear hl
      cases hs
      · go_wp2_with fail
        refine (HCe.out _).mono ?_
        rintro e wn ⟨rfl, hbn⟩
        clear x0 x1 x2 x3 x4 x5 x6 x7 f0 f1 f2 f3 f4 f5 f6 f7
        replace hS := Lib.hid (hS.out.call hbn)
        clear hbn
        obtain ⟨x0, x1, x2, x3, x4, x5, x6, x7, f0, f1, f2, f3, f4, f5, f6, f7⟩ := nd_facts (hS.out.has 0 _ _ rfl).1
        cases cl
        · obtain rfl : o = (false, zeroN, zeroN) := hno.out (by rw [HPB.out]; simp)
          obtain ⟨s0, s1, s2, s3, s4, s5, s6, s7, t0, t1, t2, t3, t4, t5, t6, t7⟩ := nd_facts (hS.out.has 1 _ _ rfl).1
          obtain ⟨z0, z1, z2, z3, z4, z5, z6, z7, r0, r1, r2, r3, r4, r5, r6, r7⟩ := nd_facts (hS.out.has 2 _ _ rfl).1
          have hZ := ((hS.out.store 1 rfl (.int .i64 0) (.string ⟨#[]⟩) (.string ⟨#[]⟩) (.bool false) (.int .i64 0) (.slice none 0 0) (.slice none 0 0) (.slice none 0 0)).store 2 rfl (.int .i64 0) (.string ⟨#[]⟩) (.string ⟨#[]⟩) (.bool false) (.int .i64 0) (.slice none 0 0) (.slice none 0 0) (.slice none 0 0)).below
          simp only [set8] at hZ
          have HZ := Lib.hid hZ
          clear hZ
          go_wp2_with fail
          exact bodyPost_ret (v := .tuple #[.agg #[.int .i64 0, .string ⟨#[]⟩, .string ⟨#[]⟩, .bool false, .int .i64 0, .slice none 0 0, .slice none 0 0, .slice none 0 0], .agg #[.int .i64 0, .string ⟨#[]⟩, .string ⟨#[]⟩, .bool false, .int .i64 0, .slice none 0 0, .slice none 0 0, .slice none 0 0], .bool false]) (by simp [results, Try.results63, go_sem, *]) rfl ⟨none, none, none, none, none, none, 0, 0, 0, 0, 0, 0, rfl, zero_lies _, zero_lies _, HZ.out⟩
        · go_wp2_with fail
          refine (HCk.out _).mono ?_
          rintro e wn ⟨rfl, hbn⟩
          clear x0 x1 x2 x3 x4 x5 x6 x7 f0 f1 f2 f3 f4 f5 f6 f7
          replace hS := Lib.hid (hS.out.call hbn)
          clear hbn
          obtain ⟨x0, x1, x2, x3, x4, x5, x6, x7, f0, f1, f2, f3, f4, f5, f6, f7⟩ := nd_facts (hS.out.has 0 _ _ rfl).1
          cases ck
          · obtain rfl : o = (false, zeroN, zeroN) := hno.out (by rw [HPB.out]; simp)
            obtain ⟨s0, s1, s2, s3, s4, s5, s6, s7, t0, t1, t2, t3, t4, t5, t6, t7⟩ := nd_facts (hS.out.has 1 _ _ rfl).1
            obtain ⟨z0, z1, z2, z3, z4, z5, z6, z7, r0, r1, r2, r3, r4, r5, r6, r7⟩ := nd_facts (hS.out.has 2 _ _ rfl).1
            have hZ := ((hS.out.store 1 rfl (.int .i64 0) (.string ⟨#[]⟩) (.string ⟨#[]⟩) (.bool false) (.int .i64 0) (.slice none 0 0) (.slice none 0 0) (.slice none 0 0)).store 2 rfl (.int .i64 0) (.string ⟨#[]⟩) (.string ⟨#[]⟩) (.bool false) (.int .i64 0) (.slice none 0 0) (.slice none 0 0) (.slice none 0 0)).below
            simp only [set8] at hZ
            have HZ := Lib.hid hZ
            clear hZ
            go_wp2_with fail
            exact bodyPost_ret (v := .tuple #[.agg #[.int .i64 0, .string ⟨#[]⟩, .string ⟨#[]⟩, .bool false, .int .i64 0, .slice none 0 0, .slice none 0 0, .slice none 0 0], .agg #[.int .i64 0, .string ⟨#[]⟩, .string ⟨#[]⟩, .bool false, .int .i64 0, .slice none 0 0, .slice none 0 0, .slice none 0 0], .bool false]) (by simp [results, Try.results63, go_sem, *]) rfl ⟨none, none, none, none, none, none, 0, 0, 0, 0, 0, 0, rfl, zero_lies _, zero_lies _, HZ.out⟩
          · cases gb
            · simp only [if_false, Bool.false_eq_true] at HKc
              go_wp2_with fail
              refine (HKc.out _).mono ?_
              rintro e wn ⟨rfl, hbn⟩
              clear x0 x1 x2 x3 x4 x5 x6 x7 f0 f1 f2 f3 f4 f5 f6 f7
              replace hS := Lib.hid (hS.out.call hbn)
              clear hbn
              obtain ⟨x0, x1, x2, x3, x4, x5, x6, x7, f0, f1, f2, f3, f4, f5, f6, f7⟩ := nd_facts (hS.out.has 0 _ _ rfl).1
              obtain rfl : o = (false, zeroN, zeroN) := hno.out (by rw [HPB.out]; simp)
              obtain ⟨s0, s1, s2, s3, s4, s5, s6, s7, t0, t1, t2, t3, t4, t5, t6, t7⟩ := nd_facts (hS.out.has 1 _ _ rfl).1
              obtain ⟨z0, z1, z2, z3, z4, z5, z6, z7, r0, r1, r2, r3, r4, r5, r6, r7⟩ := nd_facts (hS.out.has 2 _ _ rfl).1
              have hZ := ((hS.out.store 1 rfl (.int .i64 0) (.string ⟨#[]⟩) (.string ⟨#[]⟩) (.bool false) (.int .i64 0) (.slice none 0 0) (.slice none 0 0) (.slice none 0 0)).store 2 rfl (.int .i64 0) (.string ⟨#[]⟩) (.string ⟨#[]⟩) (.bool false) (.int .i64 0) (.slice none 0 0) (.slice none 0 0) (.slice none 0 0)).below
              simp only [set8] at hZ
              have HZ := Lib.hid hZ
              clear hZ
              go_wp2_with fail
              exact bodyPost_ret (v := .tuple #[.agg #[.int .i64 0, .string ⟨#[]⟩, .string ⟨#[]⟩, .bool false, .int .i64 0, .slice none 0 0, .slice none 0 0, .slice none 0 0], .agg #[.int .i64 0, .string ⟨#[]⟩, .string ⟨#[]⟩, .bool false, .int .i64 0, .slice none 0 0, .slice none 0 0, .slice none 0 0], .bool false]) (by simp [results, Try.results63, go_sem, *]) rfl ⟨none, none, none, none, none, none, 0, 0, 0, 0, 0, 0, rfl, zero_lies _, zero_lies _, HZ.out⟩
            · simp only [if_true] at HKc
              go_wp2_with fail
              refine (HKc.out _).mono ?_
              rintro e wn ⟨rfl, hbn⟩
              clear x0 x1 x2 x3 x4 x5 x6 x7 f0 f1 f2 f3 f4 f5 f6 f7
              replace hS := Lib.hid (hS.out.call hbn)
              clear hbn
              obtain ⟨x0, x1, x2, x3, x4, x5, x6, x7, f0, f1, f2, f3, f4, f5, f6, f7⟩ := nd_facts (hS.out.has 0 _ _ rfl).1
              go_wp2_with fail
              refine (HCo.out _ (H00.out.up hS.out.below)).mono ?_
              rintro e wn ⟨rfl, hbn⟩
              clear x0 x1 x2 x3 x4 x5 x6 x7 f0 f1 f2 f3 f4 f5 f6 f7
              replace hS := Lib.hid (hS.out.call hbn)
              clear hbn
              obtain ⟨x0, x1, x2, x3, x4, x5, x6, x7, f0, f1, f2, f3, f4, f5, f6, f7⟩ := nd_facts (hS.out.has 0 _ _ rfl).1
              clear hlb
              cases nb
              · obtain rfl : o = (false, zeroN, zeroN) := hno.out (by rw [HPB.out]; simp)
                obtain ⟨s0, s1, s2, s3, s4, s5, s6, s7, t0, t1, t2, t3, t4, t5, t6, t7⟩ := nd_facts (hS.out.has 1 _ _ rfl).1
                obtain ⟨z0, z1, z2, z3, z4, z5, z6, z7, r0, r1, r2, r3, r4, r5, r6, r7⟩ := nd_facts (hS.out.has 2 _ _ rfl).1
                have hZ := ((hS.out.store 1 rfl (.int .i64 0) (.string ⟨#[]⟩) (.string ⟨#[]⟩) (.bool false) (.int .i64 0) (.slice none 0 0) (.slice none 0 0) (.slice none 0 0)).store 2 rfl (.int .i64 0) (.string ⟨#[]⟩) (.string ⟨#[]⟩) (.bool false) (.int .i64 0) (.slice none 0 0) (.slice none 0 0) (.slice none 0 0)).below
                simp only [set8] at hZ
                have HZ := Lib.hid hZ
                clear hZ
                go_wp2_with fail
                exact bodyPost_ret (v := .tuple #[.agg #[.int .i64 0, .string ⟨#[]⟩, .string ⟨#[]⟩, .bool false, .int .i64 0, .slice none 0 0, .slice none 0 0, .slice none 0 0], .agg #[.int .i64 0, .string ⟨#[]⟩, .string ⟨#[]⟩, .bool false, .int .i64 0, .slice none 0 0, .slice none 0 0, .slice none 0 0], .bool false]) (by simp [results, Try.results63, go_sem, *]) rfl ⟨none, none, none, none, none, none, 0, 0, 0, 0, 0, 0, rfl, zero_lies _, zero_lies _, HZ.out⟩
              · have hlc : kids.length ≤ 9223372036854775807 := H00.out.lc
                have hk : RdI _ C kids.length kids := (H00.out.up hS.out.below).kids
                clear HF HSn HCe HCk HKc HCo HI0 HI1
                generalize wn = W5 at hS hk x0 x1 x2 x3 x4 x5 x6 x7 f0 f1 f2 f3 f4 f5 f6 f7 ⊢
                go_wp2_with fail
                go_loop [14, 59] (fun _ i => ∃ j : Nat, j ≤ kids.length ∧ i = .int .i64 j ∧ Hid (∀ (q : Nat) (hq : q < kids.length), q < j → kids[q] ≠ kid)) (fun _ i => kids.length - (intOf i).toNat)
                case atStart => exact ⟨0, Nat.zero_le _, rfl, fun q _ hq => absurd hq (Nat.not_lt_zero _)⟩
                case round =>
                  obtain ⟨j, hj, rfl, hpre⟩ := hrel
                  by_cases hlt : j < kids.length
                  · obtain ⟨b, off, rfl, hbB, hc⟩ := hk.spot (by omega)
                    have hcj := hc j hlt
                    clear hc
                    by_cases hs : kids[j] = kid
                    · have HMM := Lib.hid (show kid ∈ kids from hs ▸ List.getElem_mem hlt)
                      have hs2 : (kids[j] == kid) = true := beq_iff_eq.2 hs
                      clear hs
                      generalize kids[j] = kj at hcj hs2
                      obtain rfl : o = (false, zeroN, zeroN) := hno.out (by rw [HPB.out, decide_eq_true HMM.out]; rfl)
                      obtain ⟨s0, s1, s2, s3, s4, s5, s6, s7, t0, t1, t2, t3, t4, t5, t6, t7⟩ := nd_facts (hS.out.has 1 _ _ rfl).1
                      obtain ⟨z0, z1, z2, z3, z4, z5, z6, z7, r0, r1, r2, r3, r4, r5, r6, r7⟩ := nd_facts (hS.out.has 2 _ _ rfl).1
                      have hZ := ((hS.out.store 1 rfl (.int .i64 0) (.string ⟨#[]⟩) (.string ⟨#[]⟩) (.bool false) (.int .i64 0) (.slice none 0 0) (.slice none 0 0) (.slice none 0 0)).store 2 rfl (.int .i64 0) (.string ⟨#[]⟩) (.string ⟨#[]⟩) (.bool false) (.int .i64 0) (.slice none 0 0) (.slice none 0 0) (.slice none 0 0)).below
                      simp only [set8] at hZ
                      have HZ := Lib.hid hZ
                      clear hZ
                      go_wp2_with fail
                      exact bodyPost_ret (v := .tuple #[.agg #[.int .i64 0, .string ⟨#[]⟩, .string ⟨#[]⟩, .bool false, .int .i64 0, .slice none 0 0, .slice none 0 0, .slice none 0 0], .agg #[.int .i64 0, .string ⟨#[]⟩, .string ⟨#[]⟩, .bool false, .int .i64 0, .slice none 0 0, .slice none 0 0, .slice none 0 0], .bool false]) (by simp [results, Try.results63, go_sem, *]) rfl ⟨none, none, none, none, none, none, 0, 0, 0, 0, 0, 0, rfl, zero_lies _, zero_lies _, HZ.out⟩
                    · have HE := Lib.hid (show ∀ (q : Nat) (hq : q < kids.length), q < j + 1 → kids[q] ≠ kid from fun q hq hqp => by
                        rcases Nat.lt_succ_iff_lt_or_eq.1 hqp with g | rfl
                        · exact hpre.out q hq g
                        · exact hs)
                      have hs2 : (kids[j] == kid) = false := by simpa using hs
                      clear hs
                      generalize kids[j] = kj at hcj hs2
                      go_wp2_with fail
                      go_round
                      case rel => exact ⟨j + 1, by omega, by go_num, HE.out⟩
                      case measure => simp [intOf]; omega
                  · have hnm : kid ∉ kids := not_mem_of fun q hq => fun e => hpre.out q hq (by omega) e.symm
                    obtain rfl := hyes.out (by rw [HPB.out, decide_eq_false hnm]; rfl)
                    obtain ⟨KK, hKK⟩ : ∃ KK, KK = ins keys i low := ⟨_, rfl⟩
                    obtain ⟨CC, hCC⟩ : ∃ CC, CC = ins kids i kid := ⟨_, rfl⟩
                    have hkl := hlen.out (by trivial)
                    have hal := HAL.out
                    have hkk : keys.length + 1 = KK.length := by rw [hKK, ins_len _ _ _ hal]
                    have hcc : kids.length + 1 = CC.length := by rw [hCC, ins_len _ _ _ (by omega)]
                    have hks : ins (strs keys) i (.string low) = strs KK := by rw [hKK, strs_ins2]
                    have hcs : ins (i64s kids) i (.int .i64 kid) = i64s CC := by rw [hCC, i64s_ins2]
                    have hfit : Fits KK := hKK ▸ fits_ins H00.out.fit HK.out i
                    rw [← hKK, ← hCC] at HPN
                    have HW := Lib.hid (And.intro hkk (And.intro hcc (And.intro hks (And.intro hcs (And.intro hfit (And.intro hal hkl))))))
                    clear hKK hCC hkk hcc hks hcs hfit hal hkl hnm hpre hj hk
                    have hL := H00.out.up hS.out.below
                    have HA1 := Lib.hid (addS_yes A keys.length ca (i : Int) low (strs keys) _ hL.keys (strs_one keys) (by have := HW.out.2.2.2.2.2.2.2; omega) hL.ka (by omega) (by have := HW.out.2.2.2.2.2.1; omega))
                    clear hL
                    go_wp2_with fail
                    refine HA1.out.mono ?_
                    rintro e Y1 ⟨rfl, hh1, hb1⟩
                    rw [HW.out.1]
                    rw [Int.toNat_natCast, HW.out.2.2.1] at hh1
                    clear x0 x1 x2 x3 x4 x5 x6 x7 f0 f1 f2 f3 f4 f5 f6 f7
                    replace hS := Lib.hid (hS.out.call1 hb1 hh1)
                    clear hh1 hb1 HA1
                    generalize W5.heap.size = p1 at hS ⊢
                    obtain ⟨x0, x1, x2, x3, x4, x5, x6, x7, f0, f1, f2, f3, f4, f5, f6, f7⟩ := nd_facts (hS.out.has 0 _ _ rfl).1
                    go_upto_region 11 with fail
                    replace hS := Lib.hid (hS.out.setc 0 rfl 5 (.slice (some ⟨p1, 0, none⟩) KK.length KK.length))
                    simp only [List.cons_append, List.nil_append, List.set_cons_zero, List.set_cons_succ] at hS
                    clear x0 x1 x2 x3 x4 x5 x6 x7 f0 f1 f2 f3 f4 f5 f6 f7
                    generalize Y1.setCell _ _ = Z1 at hS ⊢
                    have hL := H00.out.up hS.out.below
                    have HA2 := Lib.hid (addI_yes C kids.length cc (i : Int) kid (i64s kids) Z1 hL.kids (i64s_one kids) (by have := HW.out.2.2.2.2.2.2; omega) hL.kc (by omega) (by have := HW.out.2.2.2.2.2; omega))
                    clear hL
                    obtain ⟨x0, x1, x2, x3, x4, x5, x6, x7, f0, f1, f2, f3, f4, f5, f6, f7⟩ := nd_facts (hS.out.has 0 _ _ rfl).1
                    go_wp2_with fail
                    refine HA2.out.mono ?_
                    rintro e Z2 ⟨rfl, hh2, hb2⟩
                    rw [HW.out.2.1]
                    rw [Int.toNat_natCast, HW.out.2.2.2.1] at hh2
                    clear x0 x1 x2 x3 x4 x5 x6 x7 f0 f1 f2 f3 f4 f5 f6 f7
                    replace hS := Lib.hid (hS.out.call1 hb2 hh2)
                    clear hh2 hb2 HA2
                    generalize Z1.heap.size = p2 at hS ⊢
                    obtain ⟨x0, x1, x2, x3, x4, x5, x6, x7, f0, f1, f2, f3, f4, f5, f6, f7⟩ := nd_facts (hS.out.has 0 _ _ rfl).1
                    go_upto_region 12 with fail
                    replace hS := Lib.hid (hS.out.setc 0 rfl 7 (.slice (some ⟨p2, 0, none⟩) CC.length CC.length))
                    simp only [List.cons_append, List.nil_append, List.set_cons_zero, List.set_cons_succ] at hS
                    clear x0 x1 x2 x3 x4 x5 x6 x7 f0 f1 f2 f3 f4 f5 f6 f7
                    generalize Z2.setCell _ _ = Z at hS ⊢
                    obtain ⟨x0, x1, x2, x3, x4, x5, x6, x7, f0, f1, f2, f3, f4, f5, f6, f7⟩ := nd_facts (hS.out.has 0 _ _ rfl).1
                    have hL := H00.out.up hS.out.below
                    have hk1 := (hS.out.has 3 _ _ rfl).1
                    have hk2 := (hS.out.has 4 _ _ rfl).1
                    have hlies : Lies _ ⟨level, nlow, high, last, next, KK, vals, CC⟩ (some ⟨p1, 0, none⟩) B (some ⟨p2, 0, none⟩) KK.length cb CC.length :=
                      { low := hL.low, high := hL.high, fit := HW.out.2.2.2.2.1, la := by have := HW.out.1; have := HW.out.2.2.2.2.2.2; simp only []; omega, lb := hL.lb, lc := by have := HW.out.2.1; have := HW.out.2.2.2.2.2.2; simp only []; omega
                        keys := by have := Rd.new hk1; rw [strs_length] at this; exact this
                        vals := hL.vals
                        kids := by have := Rd.new hk2; rw [i64s_length] at this; exact this
                        ka := Nat.le_refl _, kb := hL.kb, kc := Nat.le_refl _ }
                    rw [← HPN.out] at hlies
                    have HPC := Lib.hid (HPa.out (some ⟨p1, 0, none⟩) B (some ⟨p2, 0, none⟩) KK.length cb CC.length _ hlies (by trivial))
                    rw [HPN.out] at HPC
                    simp only [ndCells] at HPC
                    clear hL hk1 hk2 hlies HPa
                    go_wp2_with fail
                    refine HPC.out.mono ?_
                    rintro e Y9 ⟨A1, A2, A3, B1, B2, B3, ca1, cb1, cc1, da, db, dc, rfl, hl1, hl2, hb⟩
                    clear x0 x1 x2 x3 x4 x5 x6 x7 f0 f1 f2 f3 f4 f5 f6 f7
                    have HLT := Lib.hid (And.intro (hS.out.lt (i := 1) rfl) (hS.out.lt (i := 2) rfl))
                    replace hS := Lib.hid (hS.out.call hb)
                    clear hb HPC
                    obtain ⟨level1, nlow1, high1, last1, next1, keys1, vals1, kids1⟩ := pl
                    obtain ⟨level2, nlow2, high2, last2, next2, keys2, vals2, kids2⟩ := pr
                    simp only [ndCells] at hl1 hl2 ⊢
                    obtain ⟨x0, x1, x2, x3, x4, x5, x6, x7, f0, f1, f2, f3, f4, f5, f6, f7⟩ := nd_facts (hS.out.has 0 _ _ rfl).1
                    obtain ⟨y0, y1, y2, y3, y4, y5, y6, y7, q0, q1, q2, q3, q4, q5, q6, q7⟩ := nd_facts (hS.out.has 1 _ _ rfl).1
                    obtain ⟨z0, z1, z2, z3, z4, z5, z6, z7, r0, r1, r2, r3, r4, r5, r6, r7⟩ := nd_facts (hS.out.has 2 _ _ rfl).1
                    replace hl1 := hl1.mono (B' := w.heap.size + 3) (by have := HLT.out; omega)
                    replace hl2 := hl2.mono (B' := w.heap.size + 3) (by have := HLT.out; omega)
                    go_upto_region 13 with fail
                    have hZ := And.intro (((hS.out.store 1 rfl (.int .i64 level1) (.string nlow1) (.string high1) (.bool last1) (.int .i64 next1) (.slice A1 keys1.length ca1) (.slice A2 vals1.length cb1) (.slice A3 kids1.length cc1)).store 2 rfl (.int .i64 level2) (.string nlow2) (.string high2) (.bool last2) (.int .i64 next2) (.slice B1 keys2.length da) (.slice B2 vals2.length db) (.slice B3 kids2.length dc)).top 3) (And.intro ((hl1.off (set8_off _ (w.heap.size + 1) (.int .i64 level1) (.string nlow1) (.string high1) (.bool last1) (.int .i64 next1) (.slice A1 keys1.length ca1) (.slice A2 vals1.length cb1) (.slice A3 kids1.length cc1)) (fun k q => by rw [q]; omega)).off (set8_off _ (w.heap.size + 1 + 1) (.int .i64 level2) (.string nlow2) (.string high2) (.bool last2) (.int .i64 next2) (.slice B1 keys2.length da) (.slice B2 vals2.length db) (.slice B3 kids2.length dc)) (fun k q => by rw [q]; omega)) ((hl2.off (set8_off _ (w.heap.size + 1) (.int .i64 level1) (.string nlow1) (.string high1) (.bool last1) (.int .i64 next1) (.slice A1 keys1.length ca1) (.slice A2 vals1.length cb1) (.slice A3 kids1.length cc1)) (fun k q => by rw [q]; omega)).off (set8_off _ (w.heap.size + 1 + 1) (.int .i64 level2) (.string nlow2) (.string high2) (.bool last2) (.int .i64 next2) (.slice B1 keys2.length da) (.slice B2 vals2.length db) (.slice B3 kids2.length dc)) (fun k q => by rw [q]; omega)))
                    simp only [set8, List.set_cons_zero, List.set_cons_succ, List.take_succ_cons, List.take_zero] at hZ
                    clear hl1 hl2 hS
                    clear z0 z1 z2 z3 z4 z5 z6 z7 r0 r1 r2 r3 r4 r5 r6 r7
                    clear x0 x1 x2 x3 x4 x5 x6 x7 f0 f1 f2 f3 f4 f5 f6 f7
                    clear y0 y1 y2 y3 y4 y5 y6 y7 q0 q1 q2 q3 q4 q5 q6 q7
                    generalize World.setCell _ _ _ = W4 at hZ ⊢
                    have hd := Below.drew (Below.refl W4.heap.size W4)
                    replace hZ := And.intro (hZ.1.call hd) (And.intro (hZ.2.1.up hd) (hZ.2.2.up hd))
                    clear hd
                    refine wp_region_held_drew (S := fun w' => Sx w.heap.size w w' [(w.heap.size, .cells #[.int .i64 level, .string nlow, .string high, .bool last, .int .i64 next, .slice (some ⟨p1, 0, none⟩) KK.length KK.length, .slice B vals.length cb, .slice (some ⟨p2, 0, none⟩) CC.length CC.length] 26), (w.heap.size + 1, .cells #[.int .i64 level1, .string nlow1, .string high1, .bool last1, .int .i64 next1, .slice A1 keys1.length ca1, .slice A2 vals1.length cb1, .slice A3 kids1.length cc1] 26), (w.heap.size + 1 + 1, .cells #[.int .i64 level2, .string nlow2, .string high2, .bool last2, .int .i64 next2, .slice B1 keys2.length da, .slice B2 vals2.length db, .slice B3 kids2.length dc] 26)] ∧ LiesF (w.heap.size + 3) w' ⟨level1, nlow1, high1, last1, next1, keys1, vals1, kids1⟩ A1 A2 A3 ca1 cb1 cc1 ∧ LiesF (w.heap.size + 3) w' ⟨level2, nlow2, high2, last2, next2, keys2, vals2, kids2⟩ B1 B2 B3 da db dc) (by kernel_rfl) hZ (fun hcur => ?_)
                    (try dsimp only at hcur)
                    generalize W4.drew = X4 at hZ hcur ⊢
                    clear hZ
                    refine wpAnyH_take (i := 0) (v := ?_) rfl (by decide +kernel) (by decide +kernel) (by decide +kernel) (fun _ _ _ h => h) (Or.inl ⟨by rfl, ?hy⟩) hcur ?_
                    case hy =>
                      intro w1 hSw
                      (try dsimp only at hSw)
                      obtain ⟨y0, y1, y2, y3, y4, y5, y6, y7, -, -, -, -, -, -, -, -⟩ := nd_facts (hSw.1.has 1 _ _ rfl).1
                      obtain ⟨z0, z1, z2, z3, z4, z5, z6, z7, -, -, -, -, -, -, -, -⟩ := nd_facts (hSw.1.has 2 _ _ rfl).1
                      go_simp
                      (try with_reducible rfl)
                    (try simp only [Act.put, List.getElem_toArray, List.getElem_cons_zero, List.getElem_cons_succ, List.setIfInBounds_toArray, List.set_cons_zero, List.set_cons_succ])
                    refine wpAnyH_take (i := 1) (v := ?_) rfl (by decide +kernel) (by decide +kernel) (by decide +kernel) (fun _ _ _ h => h) (Or.inl ⟨by rfl, ?hy⟩) hcur ?_
                    case hy =>
                      intro w1 hSw
                      (try dsimp only at hSw)
                      obtain ⟨y0, y1, y2, y3, y4, y5, y6, y7, -, -, -, -, -, -, -, -⟩ := nd_facts (hSw.1.has 1 _ _ rfl).1
                      obtain ⟨z0, z1, z2, z3, z4, z5, z6, z7, -, -, -, -, -, -, -, -⟩ := nd_facts (hSw.1.has 2 _ _ rfl).1
                      go_simp
                      (try with_reducible rfl)
                    (try simp only [Act.put, List.getElem_toArray, List.getElem_cons_zero, List.getElem_cons_succ, List.setIfInBounds_toArray, List.set_cons_zero, List.set_cons_succ])
                    refine wpAnyH_ready (rs := [2]) (by decide +kernel) (by simp) ?_
                    refine AllReadyH.cons rfl (fun K hK => ?_) AllReadyH.nil
                    obtain ⟨y0, y1, y2, y3, y4, y5, y6, y7, q0, q1, q2, q3, q4, q5, q6, q7⟩ := nd_facts (hcur.1.has 1 _ _ rfl).1
                    go_simp
                    have hZ := And.intro (hcur.1.store 1 rfl (.int .i64 level1) (.string nlow1) (.string high1) (.bool last1) (.int .i64 next1) (.slice A1 keys1.length ca1) (.slice A2 vals1.length cb1) (.slice A3 kids1.length cc1)) (And.intro (hcur.2.1.off (set8_off _ (w.heap.size + 1) (.int .i64 level1) (.string nlow1) (.string high1) (.bool last1) (.int .i64 next1) (.slice A1 keys1.length ca1) (.slice A2 vals1.length cb1) (.slice A3 kids1.length cc1)) (fun k q => by rw [q]; omega)) (hcur.2.2.off (set8_off _ (w.heap.size + 1) (.int .i64 level1) (.string nlow1) (.string high1) (.bool last1) (.int .i64 next1) (.slice A1 keys1.length ca1) (.slice A2 vals1.length cb1) (.slice A3 kids1.length cc1)) (fun k q => by rw [q]; omega)))
                    simp only [set8, List.set_cons_zero, List.set_cons_succ] at hZ
                    clear y0 y1 y2 y3 y4 y5 y6 y7 q0 q1 q2 q3 q4 q5 q6 q7
                    refine hK.out _ _ (hZ) (fun hcur2 => ?_)
                    clear hK K
                    replace hcur := hcur2
                    (try dsimp only at hcur)
                    clear hcur2
                    (try simp only [Act.put, List.getElem_toArray, List.getElem_cons_zero, List.getElem_cons_succ, List.setIfInBounds_toArray, List.set_cons_zero, List.set_cons_succ])
                    clear hZ
                    generalize World.setCell _ _ _ = X5 at hcur ⊢
                    refine wpAnyH_ready (rs := [3]) (by decide +kernel) (by simp) ?_
                    refine AllReadyH.cons rfl (fun K hK => ?_) AllReadyH.nil
                    obtain ⟨y0, y1, y2, y3, y4, y5, y6, y7, q0, q1, q2, q3, q4, q5, q6, q7⟩ := nd_facts (hcur.1.has 2 _ _ rfl).1
                    go_simp
                    have hZ := And.intro (hcur.1.store 2 rfl (.int .i64 level2) (.string nlow2) (.string high2) (.bool last2) (.int .i64 next2) (.slice B1 keys2.length da) (.slice B2 vals2.length db) (.slice B3 kids2.length dc)) (And.intro (hcur.2.1.off (set8_off _ (w.heap.size + 1 + 1) (.int .i64 level2) (.string nlow2) (.string high2) (.bool last2) (.int .i64 next2) (.slice B1 keys2.length da) (.slice B2 vals2.length db) (.slice B3 kids2.length dc)) (fun k q => by rw [q]; omega)) (hcur.2.2.off (set8_off _ (w.heap.size + 1 + 1) (.int .i64 level2) (.string nlow2) (.string high2) (.bool last2) (.int .i64 next2) (.slice B1 keys2.length da) (.slice B2 vals2.length db) (.slice B3 kids2.length dc)) (fun k q => by rw [q]; omega)))
                    simp only [set8, List.set_cons_zero, List.set_cons_succ] at hZ
                    clear y0 y1 y2 y3 y4 y5 y6 y7 q0 q1 q2 q3 q4 q5 q6 q7
                    refine hK.out _ _ (hZ) (fun hcur2 => ?_)
                    clear hK K
                    replace hcur := hcur2
                    (try dsimp only at hcur)
                    clear hcur2
                    (try simp only [Act.put, List.getElem_toArray, List.getElem_cons_zero, List.getElem_cons_succ, List.setIfInBounds_toArray, List.set_cons_zero, List.set_cons_succ])
                    clear hZ
                    generalize World.setCell _ _ _ = X6 at hcur ⊢
                    refine wpAnyH_take (i := 4) (v := ?_) rfl (by decide +kernel) (by decide +kernel) (by decide +kernel) (fun _ _ _ h => h) (Or.inl ⟨by rfl, ?hy⟩) hcur ?_
                    case hy =>
                      intro w1 hSw
                      (try dsimp only at hSw)
                      obtain ⟨y0, y1, y2, y3, y4, y5, y6, y7, -, -, -, -, -, -, -, -⟩ := nd_facts (hSw.1.has 1 _ _ rfl).1
                      obtain ⟨z0, z1, z2, z3, z4, z5, z6, z7, -, -, -, -, -, -, -, -⟩ := nd_facts (hSw.1.has 2 _ _ rfl).1
                      go_simp
                      (try with_reducible rfl)
                    (try simp only [Act.put, List.getElem_toArray, List.getElem_cons_zero, List.getElem_cons_succ, List.setIfInBounds_toArray, List.set_cons_zero, List.set_cons_succ])
                    refine wpAnyH_done (by decide +kernel) ?_ _
                    have HFI := Lib.hid (And.intro hcur.1.below (And.intro hcur.2.1.lies hcur.2.2.lies))
                    obtain ⟨y0, y1, y2, y3, y4, y5, y6, y7, q0, q1, q2, q3, q4, q5, q6, q7⟩ := nd_facts (hcur.1.has 1 _ _ rfl).1
                    obtain ⟨z0, z1, z2, z3, z4, z5, z6, z7, r0, r1, r2, r3, r4, r5, r6, r7⟩ := nd_facts (hcur.1.has 2 _ _ rfl).1
                    clear hcur
                    go_wp2_with fail
                    exact bodyPost_ret (v := .tuple #[.agg #[.int .i64 level1, .string nlow1, .string high1, .bool last1, .int .i64 next1, .slice A1 keys1.length ca1, .slice A2 vals1.length cb1, .slice A3 kids1.length cc1], .agg #[.int .i64 level2, .string nlow2, .string high2, .bool last2, .int .i64 next2, .slice B1 keys2.length da, .slice B2 vals2.length db, .slice B3 kids2.length dc], .bool true]) (by simp [results, Try.results63, go_sem, *]) rfl ⟨_, _, _, _, _, _, _, _, _, _, _, _, by simp only [ndCells], HFI.out.2.1, HFI.out.2.2, HFI.out.1⟩
      · obtain rfl : o = (false, zeroN, zeroN) := hno.out (by rw [HPB.out]; simp)
        obtain ⟨s0, s1, s2, s3, s4, s5, s6, s7, t0, t1, t2, t3, t4, t5, t6, t7⟩ := nd_facts (hS.out.has 1 _ _ rfl).1
        obtain ⟨z0, z1, z2, z3, z4, z5, z6, z7, r0, r1, r2, r3, r4, r5, r6, r7⟩ := nd_facts (hS.out.has 2 _ _ rfl).1
        have hZ := ((hS.out.store 1 rfl (.int .i64 0) (.string ⟨#[]⟩) (.string ⟨#[]⟩) (.bool false) (.int .i64 0) (.slice none 0 0) (.slice none 0 0) (.slice none 0 0)).store 2 rfl (.int .i64 0) (.string ⟨#[]⟩) (.string ⟨#[]⟩) (.bool false) (.int .i64 0) (.slice none 0 0) (.slice none 0 0) (.slice none 0 0)).below
        simp only [set8] at hZ
        have HZ := Lib.hid hZ
        clear hZ
        go_wp2_with fail
        exact bodyPost_ret (v := .tuple #[.agg #[.int .i64 0, .string ⟨#[]⟩, .string ⟨#[]⟩, .bool false, .int .i64 0, .slice none 0 0, .slice none 0 0, .slice none 0 0], .agg #[.int .i64 0, .string ⟨#[]⟩, .string ⟨#[]⟩, .bool false, .int .i64 0, .slice none 0 0, .slice none 0 0, .slice none 0 0], .bool false]) (by simp [results, Try.results63, go_sem, *]) rfl ⟨none, none, none, none, none, none, 0, 0, 0, 0, 0, 0, rfl, zero_lies _, zero_lies _, HZ.out⟩

end Go.Proofs.Ytcoiadncennhpaa
