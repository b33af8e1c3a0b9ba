/- Contracts of package inner: Drop. -/
import Derived.Test.YtcoiadncennhpaaInPost2
import Derived.Test.YtcoiadncennhpaaLeafCut
namespace Go.Proofs.Ytcoiadncennhpaa
open Go.RowKit

theorem fits_erase {ss : List ByteArray} (h : Fits ss) (i : Nat) : Fits (ss.eraseIdx i) := by
  intro j hj
  have hm := List.getElem_mem hj
  generalize (ss.eraseIdx i)[j] = sj at hm ⊢
  obtain ⟨q, hq, rfl⟩ := List.getElem_of_mem ((List.eraseIdx_sublist _ _).subset hm)
  exact h q hq
theorem dropD_no {d : Nd} {i : Int} (h : inB d i = false) : dropD d i = (false, zeroN) := if_neg (by rw [h]; exact Bool.false_ne_true)
theorem dropD_yes {d : Nd} {i : Int} (h : inB d i = true) : dropD d i = (true, dropN d i) := if_pos h

set_option maxRecDepth 100000 in
set_option maxHeartbeats 16000000 in
theorem indrop_any (d : Nd) (i : Int) (A B C : Option Addr) (ca cb cc : Nat) (w : World) (h : Lies w d A B C ca cb cc) :
    Calls Try.prog 55 #[.agg (ndCells d A B C ca cb cc), .int .i64 i] w (NRet (dropD d i) w) := by
  have hS := Lib.hid (Sx.start2 w (.cells (ndCells d A B C ca cb cc) 26) (.cells #[.int .i64 0, .string ⟨#[]⟩, .string ⟨#[]⟩, .bool false, .int .i64 0, .slice none 0 0, .slice none 0 0, .slice none 0 0] 26))
  have H00 := Lib.hid h
  have HIn := Lib.hid (fun W hW => insound_any d A B C ca cb cc W hW)
  have hpb : inB d i = (innerB d && (decide (1 ≤ i) && decide (i < (d.keys.length : Int)))) := rfl
  have hno := Lib.hid (fun (q : inB d i = false) => dropD_no q)
  have hyes := Lib.hid (fun (q : inB d i = true) => (dropD_yes q).trans (show (true, dropN d i) = (true, ⟨d.level, d.low, d.high, d.last, d.next, d.keys.eraseIdx i.toNat, d.vals, d.kids.eraseIdx i.toNat⟩) from rfl))
  have hlen := Lib.hid (fun (q : innerB d = true) => And.intro ((innerB_iff d).1 q).kp.len ((innerB_iff d).1 q).fan)
  clear h
  generalize dropD d i = o at hno hyes ⊢
  generalize inB d i = pb at hpb hno hyes
  generalize innerB d = ib at HIn hpb hlen
  have HPB := Lib.hid hpb
  clear hpb
  obtain ⟨level, nlow, high, last, next, keys, vals, kids⟩ := d
  simp only [] at hlen hyes HPB
  simp only [ndCells] at hS HIn ⊢
  go_enter Try.func55, Try.ntmps55
  go_upto_region 1 with fail
  generalize (w.alloc _).alloc _ = W at hS ⊢
  obtain ⟨x0, x1, x2, x3, x4, x5, x6, x7, f0, f1, f2, f3, f4, f5, f6, f7⟩ := nd_facts (hS.out.has 0 _ _ rfl).1
  go_wp2_with fail
  refine (HIn.out _ (H00.out.up hS.out.below)).mono ?_
  rintro e wn ⟨rfl, hbn⟩
  clear x0 x1 x2 x3 x4 x5 x6 x7 f0 f1 f2 f3 f4 f5 f6 f7
  replace hS := Lib.hid (hS.out.call hbn)
  clear hbn
  obtain ⟨x0, x1, x2, x3, x4, x5, x6, x7, f0, f1, f2, f3, f4, f5, f6, f7⟩ := nd_facts (hS.out.has 0 _ _ rfl).1
  cases ib
  · obtain rfl : o = (false, zeroN) := hno.out (by rw [HPB.out]; rfl)
    obtain ⟨y0, y1, y2, y3, y4, y5, y6, y7, q0, q1, q2, q3, q4, q5, q6, q7⟩ := nd_facts (hS.out.has 1 _ _ rfl).1
    have hZ := (hS.out.store 1 rfl (.int .i64 0) (.string ⟨#[]⟩) (.string ⟨#[]⟩) (.bool false) (.int .i64 0) (.slice none 0 0) (.slice none 0 0) (.slice none 0 0)).below
    simp only [set8] at hZ
    have HZ := Lib.hid hZ
    clear hZ
    go_wp2_with fail
    exact bodyPost_ret (v := .tuple #[.agg #[.int .i64 0, .string ⟨#[]⟩, .string ⟨#[]⟩, .bool false, .int .i64 0, .slice none 0 0, .slice none 0 0, .slice none 0 0], .bool false]) (by simp [results, Try.results55, go_sem, *]) rfl ⟨none, none, none, 0, 0, 0, rfl, zero_lies _, HZ.out⟩
  · by_cases h1 : i < 1
    · obtain rfl : o = (false, zeroN) := hno.out (by rw [HPB.out, decide_eq_false (p := 1 ≤ i) (by omega)]; rfl)
      obtain ⟨y0, y1, y2, y3, y4, y5, y6, y7, q0, q1, q2, q3, q4, q5, q6, q7⟩ := nd_facts (hS.out.has 1 _ _ rfl).1
      have hZ := (hS.out.store 1 rfl (.int .i64 0) (.string ⟨#[]⟩) (.string ⟨#[]⟩) (.bool false) (.int .i64 0) (.slice none 0 0) (.slice none 0 0) (.slice none 0 0)).below
      simp only [set8] at hZ
      have HZ := Lib.hid hZ
      clear hZ
      go_wp2_with fail
      exact bodyPost_ret (v := .tuple #[.agg #[.int .i64 0, .string ⟨#[]⟩, .string ⟨#[]⟩, .bool false, .int .i64 0, .slice none 0 0, .slice none 0 0, .slice none 0 0], .bool false]) (by simp [results, Try.results55, go_sem, *]) rfl ⟨none, none, none, 0, 0, 0, rfl, zero_lies _, HZ.out⟩
    · by_cases h2 : (keys.length : Int) ≤ i
      · obtain rfl : o = (false, zeroN) := hno.out (by rw [HPB.out, decide_eq_false (p := i < (keys.length : Int)) (by omega)]; simp)
        have h1b : decide (i < 1) = false := decide_eq_false h1
        have h2b : decide ((keys.length : Int) ≤ i) = true := decide_eq_true h2
        obtain ⟨y0, y1, y2, y3, y4, y5, y6, y7, q0, q1, q2, q3, q4, q5, q6, q7⟩ := nd_facts (hS.out.has 1 _ _ rfl).1
        have hZ := (hS.out.store 1 rfl (.int .i64 0) (.string ⟨#[]⟩) (.string ⟨#[]⟩) (.bool false) (.int .i64 0) (.slice none 0 0) (.slice none 0 0) (.slice none 0 0)).below
        simp only [set8] at hZ
        have HZ := Lib.hid hZ
        clear hZ
        go_wp2_with fail
        exact bodyPost_ret (v := .tuple #[.agg #[.int .i64 0, .string ⟨#[]⟩, .string ⟨#[]⟩, .bool false, .int .i64 0, .slice none 0 0, .slice none 0 0, .slice none 0 0], .bool false]) (by simp [results, Try.results55, go_sem, *]) rfl ⟨none, none, none, 0, 0, 0, rfl, zero_lies _, HZ.out⟩
      · have h1b : decide (i < 1) = false := decide_eq_false h1
        have h2b : decide ((keys.length : Int) ≤ i) = false := decide_eq_false h2
        have hpt : pb = true := by rw [HPB.out, decide_eq_true (p := 1 ≤ i) (by omega), decide_eq_true (p := i < (keys.length : Int)) (by omega)]; rfl
        obtain ⟨KK, hKK⟩ : ∃ KK, KK = keys.eraseIdx i.toNat := ⟨_, rfl⟩
        obtain ⟨CC, hCC⟩ : ∃ CC, CC = kids.eraseIdx i.toNat := ⟨_, rfl⟩
        have hkl := hlen.out (by trivial)
        have hkk : keys.length - 1 = KK.length := by rw [hKK, List.length_eraseIdx_of_lt (by omega)]
        have hcc : kids.length - 1 = CC.length := by rw [hCC, List.length_eraseIdx_of_lt (by omega)]
        have hks : (strs keys).eraseIdx i.toNat = strs KK := by rw [hKK]; exact erase_map _ _ _
        have hcs : (i64s kids).eraseIdx i.toNat = i64s CC := by rw [hCC]; exact erase_map _ _ _
        have hfit : Fits KK := hKK ▸ fits_erase H00.out.fit _
        rw [← hKK, ← hCC] at hyes
        obtain rfl := hyes.out hpt
        clear hpt
        have HW := Lib.hid (And.intro hkk (And.intro hcc (And.intro hks (And.intro hcs (And.intro hfit (And.intro (And.intro h1 h2) hkl))))))
        clear hKK hCC hkk hcc hks hcs hfit hkl HIn h1 h2
        have hL := H00.out.up hS.out.below
        have HA1 := Lib.hid (cutS_yes A keys.length ca i (strs keys) _ hL.keys (strs_one keys) (by have := HW.out.2.2.2.2.2.2; omega) hL.ka (by have := HW.out.2.2.2.2.2.1; omega) (by have := HW.out.2.2.2.2.2.1; omega))
        clear hL
        go_wp2_with fail
        refine HA1.out.mono ?_
        rintro e Y1 ⟨rfl, hh1, hb1⟩
        rw [HW.out.1]
        rw [HW.out.2.2.1] at hh1
        clear x0 x1 x2 x3 x4 x5 x6 x7 f0 f1 f2 f3 f4 f5 f6 f7
        replace hS := Lib.hid (hS.out.call1 hb1 hh1)
        clear hh1 hb1 HA1 h1b h2b
        generalize wn.heap.size = p1 at hS ⊢
        obtain ⟨x0, x1, x2, x3, x4, x5, x6, x7, f0, f1, f2, f3, f4, f5, f6, f7⟩ := nd_facts (hS.out.has 0 _ _ rfl).1
        go_upto_region 4 with fail
        replace hS := Lib.hid (hS.out.setc 0 rfl 5 (.slice (some ⟨p1, 0, none⟩) KK.length KK.length))
        simp only [List.cons_append, List.nil_append, List.set_cons_zero, List.set_cons_succ] at hS
        clear x0 x1 x2 x3 x4 x5 x6 x7 f0 f1 f2 f3 f4 f5 f6 f7
        generalize Y1.setCell _ _ = Z1 at hS ⊢
        have hL := H00.out.up hS.out.below
        have HA2 := Lib.hid (cutI_yes C kids.length cc i (i64s kids) Z1 hL.kids (i64s_one kids) (by have := HW.out.2.2.2.2.2.2; omega) hL.kc (by have := HW.out.2.2.2.2.2.1; omega) (by have := HW.out.2.2.2.2.2; omega))
        clear hL
        obtain ⟨x0, x1, x2, x3, x4, x5, x6, x7, f0, f1, f2, f3, f4, f5, f6, f7⟩ := nd_facts (hS.out.has 0 _ _ rfl).1
        go_wp2_with fail
        refine HA2.out.mono ?_
        rintro e Z2 ⟨rfl, hh2, hb2⟩
        rw [HW.out.2.1]
        rw [HW.out.2.2.2.1] at hh2
        clear x0 x1 x2 x3 x4 x5 x6 x7 f0 f1 f2 f3 f4 f5 f6 f7
        replace hS := Lib.hid (hS.out.call1 hb2 hh2)
        clear hh2 hb2 HA2
        generalize Z1.heap.size = p2 at hS ⊢
        obtain ⟨x0, x1, x2, x3, x4, x5, x6, x7, f0, f1, f2, f3, f4, f5, f6, f7⟩ := nd_facts (hS.out.has 0 _ _ rfl).1
        go_upto_region 5 with fail
        replace hS := Lib.hid (hS.out.setc 0 rfl 7 (.slice (some ⟨p2, 0, none⟩) CC.length CC.length))
        simp only [List.cons_append, List.nil_append, List.set_cons_zero, List.set_cons_succ] at hS
        clear x0 x1 x2 x3 x4 x5 x6 x7 f0 f1 f2 f3 f4 f5 f6 f7
        generalize Z2.setCell _ _ = Z at hS ⊢
        obtain ⟨x0, x1, x2, x3, x4, x5, x6, x7, f0, f1, f2, f3, f4, f5, f6, f7⟩ := nd_facts (hS.out.has 0 _ _ rfl).1
        obtain ⟨y0, y1, y2, y3, y4, y5, y6, y7, q0, q1, q2, q3, q4, q5, q6, q7⟩ := nd_facts (hS.out.has 1 _ _ rfl).1
        have hZ := hS.out.store 1 rfl (.int .i64 level) (.string nlow) (.string high) (.bool last) (.int .i64 next) (.slice (some ⟨p1, 0, none⟩) KK.length KK.length) (.slice B vals.length cb) (.slice (some ⟨p2, 0, none⟩) CC.length CC.length)
        have hL := H00.out.up hZ.below
        have hk1 := (hZ.has 2 _ _ rfl).1
        have hk2 := (hZ.has 3 _ _ rfl).1
        have hlies : Lies _ ⟨level, nlow, high, last, next, KK, vals, CC⟩ (some ⟨p1, 0, none⟩) B (some ⟨p2, 0, none⟩) KK.length cb CC.length :=
          { low := hL.low, high := hL.high, fit := HW.out.2.2.2.2.1, la := by have := HW.out.1; have := HW.out.2.2.2.2.2.2; simp only []; omega, lb := hL.lb, lc := by have := HW.out.2.1; have := HW.out.2.2.2.2.2.2; simp only []; omega
            keys := by have := Rd.new hk1; rw [strs_length] at this; exact this
            vals := hL.vals
            kids := by have := Rd.new hk2; rw [i64s_length] at this; exact this
            ka := Nat.le_refl _, kb := hL.kb, kc := Nat.le_refl _ }
        have HFI := And.intro hZ.below hlies
        simp only [set8] at HFI
        replace HFI := Lib.hid HFI
        clear hZ hL hk1 hk2 hlies
        go_wp2_with fail
        exact bodyPost_ret (v := .tuple #[.agg #[.int .i64 level, .string nlow, .string high, .bool last, .int .i64 next, .slice (some ⟨p1, 0, none⟩) KK.length KK.length, .slice B vals.length cb, .slice (some ⟨p2, 0, none⟩) CC.length CC.length], .bool true]) (by simp [results, Try.results55, go_sem, *]) rfl ⟨_, _, _, _, _, _, by simp [ndCells], HFI.out.2, HFI.out.1⟩

end Go.Proofs.Ytcoiadncennhpaa
