/- The reference of layer 12: Post, Drop, Turn. -/
import Derived.Test.YtcoiadncennhpaaInPut
import Derived.Test.YtcoiadncennhpaaInDrop
import Derived.Test.YtcoiadncennhpaaInTurn
import Derived.Test.YtcoiadncennhpaaOw2
namespace Go.Proofs.Ytcoiadncennhpaa
open Go.RowKit

theorem own_at {w : World} {B n c : Nat} {e : TypeId} {A : Option Addr} {xs : List Value} (h : w.ownsRow B e 1 (.slice A n c) n xs) (hn : 0 < n) : ∃ g, A = some ⟨g, 0, none⟩ ∧ (∀ j u, xs[j]? = some u → w.cell? ⟨g, j, none⟩ = some u) ∧ ∀ j, w.frozen? ⟨g, j, none⟩ = false := by
  rcases h.2 with ⟨_, h0⟩ | ⟨g, cap, cur, hv, _, hg, _⟩
  · omega
  · injection hv with e1 e2 e3
    subst e1
    refine ⟨g, rfl, fun j u hu => ?_, fun j => heap_frozen hg j⟩
    have := h.cells (g := g) rfl j u hu
    rwa [Addr.add_lit, Nat.zero_add] at this

set_option maxRecDepth 100000 in
set_option maxHeartbeats 16000000 in
theorem refpost_any (d : Nd) (low : ByteArray) (kid fan : Int) (A B C : Option Addr) (ca cb cc : Nat) (w : World) (h : Lies w d A B C ca cb cc) (hk : low.size ≤ maxLen) :
    Calls Try.prog 54 #[.agg (ndCells d A B C ca cb cc), .string low, .int .i64 kid, .int .i64 fan] w (NRet (postD d low kid fan) w) := by
  have hS := Lib.hid (Sx.start2 w (.cells (ndCells d A B C ca cb cc) 26) (.cells #[.int .i64 0, .string ⟨#[]⟩, .string ⟨#[]⟩, .bool false, .int .i64 0, .slice none 0 0, .slice none 0 0, .slice none 0 0] 26))
  have H00 := Lib.hid h
  have HIn := Lib.hid (fun W hW => refinner_any d A B C ca cb cc W hW)
  have HKy := Lib.hid (fun W => refkey_any low W hk)
  have HCe := Lib.hid (fun W => refcell_any kid W)
  have HIs := Lib.hid (fun W => refinside_any d.low d.high d.last low W h.low h.high hk)
  have HPu := Lib.hid (fun W (hW : Lies W d A B C ca cb cc) (q1 : innerB d = true) (q2 : ∀ q (hq : q < d.keys.length), d.keys[q] ≠ low) =>
    refput_any d low kid A B C ca cb cc W hW hk ((innerB_iff d).1 q1).up q2 ((innerB_iff d).1 q1).kp.len (by have := ((innerB_iff d).1 q1).kp.len; have := ((innerB_iff d).1 q1).kp.ne; omega) (by have := ((innerB_iff d).1 q1).fan; omega) ((innerB_iff d).1 q1).kp.vals)
  have hpb : postB d low kid fan = (innerB d && (decide (4 ≤ fan ∧ fan ≤ 64) && (decide ((d.keys.length : Int) < fan) && (goodB low && (cellB kid && (!hasD d low && (!placeB d kid && insB d low))))))) := rfl
  have hno := Lib.hid (fun (q : postB d low kid fan = false) => postD_no q)
  have hyes := Lib.hid (fun (q : postB d low kid fan = true) => postD_yes q)
  have hlen := Lib.hid (fun (q : innerB d = true) => ((innerB_iff d).1 q).kp.len)
  have HH0 := Lib.hid (fun (q : innerB d = true) (hn : ∀ q (hq : q < d.keys.length), d.keys[q] ≠ low) => has_no ((innerB_iff d).1 q).up hn)
  have HH1 := Lib.hid (fun (q : innerB d = true) (j : Nat) (hj : j < d.keys.length) (e : d.keys[j] = low) => has_yes ((innerB_iff d).1 q).up hj e)
  have HP0 := Lib.hid (fun (hn : ∀ q (hq : q < d.kids.length), d.kids[q] ≠ kid) => place_none hn)
  have HP1 := Lib.hid (fun (q : innerB d = true) (j : Nat) (hj : j < d.kids.length) (e : d.kids[j] = kid) => place_some q hj e)
  rw [show (!Pl.ls low.data.toList d.low.data.toList && (d.last || Pl.ls low.data.toList d.high.data.toList)) = insB d low from rfl] at HIs
  clear h hk
  generalize hon : postD d low kid fan = o at hno hyes ⊢
  clear hon
  generalize postB d low kid fan = pb at hpb hno hyes
  generalize goodB low = gb at HKy hpb
  generalize cellB kid = cl at HCe hpb
  generalize insB d low = ns at HIs hpb
  generalize hasD d low = hs at hpb HH0 HH1
  generalize placeB d kid = pl at hpb HP0 HP1
  generalize postN d low kid = pn at hyes HPu
  generalize innerB d = ib at HIn HPu hpb hlen HH0 HH1 HP1
  have HPB := Lib.hid hpb
  clear hpb
  obtain ⟨level, nlow, high, last, next, keys, vals, kids⟩ := d
  simp only [] at hlen HPB HPu HH0 HH1 HP0 HP1 HIs
  simp only [ndCells] at hS HIn HPu ⊢
  go_enter Try.func54, Try.ntmps54
  go_upto_region 1 with fail
  generalize (w.alloc _).alloc _ = W at hS ⊢
  obtain ⟨x0, x1, x2, x3, x4, x5, x6, x7, f0, f1, f2, f3, f4, f5, f6, f7⟩ := nd_facts (hS.out.has 0 _ _ rfl).1
  go_wp2_with fail
  refine (HIn.out _ (H00.out.up hS.out.below)).mono ?_
  rintro e wn ⟨rfl, hbn⟩
  clear x0 x1 x2 x3 x4 x5 x6 x7 f0 f1 f2 f3 f4 f5 f6 f7
  replace hS := Lib.hid (hS.out.call hbn)
  clear hbn
  obtain ⟨x0, x1, x2, x3, x4, x5, x6, x7, f0, f1, f2, f3, f4, f5, f6, f7⟩ := nd_facts (hS.out.has 0 _ _ rfl).1
  cases ib
  · obtain rfl : o = (false, zeroN) := hno.out (by rw [HPB.out]; rfl)
    obtain ⟨y0, y1, y2, y3, y4, y5, y6, y7, q0, q1, q2, q3, q4, q5, q6, q7⟩ := nd_facts (hS.out.has 1 _ _ rfl).1
    have hZ := (hS.out.store 1 rfl (.int .i64 0) (.string ⟨#[]⟩) (.string ⟨#[]⟩) (.bool false) (.int .i64 0) (.slice none 0 0) (.slice none 0 0) (.slice none 0 0)).below
    simp only [set8] at hZ
    have HZ := Lib.hid hZ
    clear hZ
    go_wp2_with fail
    exact bodyPost_ret (v := .tuple #[.agg #[.int .i64 0, .string ⟨#[]⟩, .string ⟨#[]⟩, .bool false, .int .i64 0, .slice none 0 0, .slice none 0 0, .slice none 0 0], .bool false]) (by simp [results, Try.results54, go_sem, *]) rfl ⟨none, none, none, 0, 0, 0, rfl, zero_lies _, HZ.out⟩
  · go_wp2_with fail
    refine (HKy.out _).mono ?_
    rintro e wn ⟨rfl, hbn⟩
    clear x0 x1 x2 x3 x4 x5 x6 x7 f0 f1 f2 f3 f4 f5 f6 f7
    replace hS := Lib.hid (hS.out.call hbn)
    clear hbn
    obtain ⟨x0, x1, x2, x3, x4, x5, x6, x7, f0, f1, f2, f3, f4, f5, f6, f7⟩ := nd_facts (hS.out.has 0 _ _ rfl).1
    cases gb
    · obtain rfl : o = (false, zeroN) := hno.out (by rw [HPB.out]; simp)
      obtain ⟨y0, y1, y2, y3, y4, y5, y6, y7, q0, q1, q2, q3, q4, q5, q6, q7⟩ := nd_facts (hS.out.has 1 _ _ rfl).1
      have hZ := (hS.out.store 1 rfl (.int .i64 0) (.string ⟨#[]⟩) (.string ⟨#[]⟩) (.bool false) (.int .i64 0) (.slice none 0 0) (.slice none 0 0) (.slice none 0 0)).below
      simp only [set8] at hZ
      have HZ := Lib.hid hZ
      clear hZ
      go_wp2_with fail
      exact bodyPost_ret (v := .tuple #[.agg #[.int .i64 0, .string ⟨#[]⟩, .string ⟨#[]⟩, .bool false, .int .i64 0, .slice none 0 0, .slice none 0 0, .slice none 0 0], .bool false]) (by simp [results, Try.results54, go_sem, *]) rfl ⟨none, none, none, 0, 0, 0, rfl, zero_lies _, HZ.out⟩
    · go_wp2_with fail
      refine (HCe.out _).mono ?_
      rintro e wn ⟨rfl, hbn⟩
      clear x0 x1 x2 x3 x4 x5 x6 x7 f0 f1 f2 f3 f4 f5 f6 f7
      replace hS := Lib.hid (hS.out.call hbn)
      clear hbn
      obtain ⟨x0, x1, x2, x3, x4, x5, x6, x7, f0, f1, f2, f3, f4, f5, f6, f7⟩ := nd_facts (hS.out.has 0 _ _ rfl).1
      cases cl
      · obtain rfl : o = (false, zeroN) := hno.out (by rw [HPB.out]; simp)
        obtain ⟨y0, y1, y2, y3, y4, y5, y6, y7, q0, q1, q2, q3, q4, q5, q6, q7⟩ := nd_facts (hS.out.has 1 _ _ rfl).1
        have hZ := (hS.out.store 1 rfl (.int .i64 0) (.string ⟨#[]⟩) (.string ⟨#[]⟩) (.bool false) (.int .i64 0) (.slice none 0 0) (.slice none 0 0) (.slice none 0 0)).below
        simp only [set8] at hZ
        have HZ := Lib.hid hZ
        clear hZ
        go_wp2_with fail
        exact bodyPost_ret (v := .tuple #[.agg #[.int .i64 0, .string ⟨#[]⟩, .string ⟨#[]⟩, .bool false, .int .i64 0, .slice none 0 0, .slice none 0 0, .slice none 0 0], .bool false]) (by simp [results, Try.results54, go_sem, *]) rfl ⟨none, none, none, 0, 0, 0, rfl, zero_lies _, HZ.out⟩
      · by_cases h1 : fan < 4
        · obtain rfl : o = (false, zeroN) := hno.out (by rw [HPB.out, decide_eq_false (p := 4 ≤ fan ∧ fan ≤ 64) (by omega)]; rfl)
          have h1b : decide (fan < 4) = true := decide_eq_true h1
          obtain ⟨y0, y1, y2, y3, y4, y5, y6, y7, q0, q1, q2, q3, q4, q5, q6, q7⟩ := nd_facts (hS.out.has 1 _ _ rfl).1
          have hZ := (hS.out.store 1 rfl (.int .i64 0) (.string ⟨#[]⟩) (.string ⟨#[]⟩) (.bool false) (.int .i64 0) (.slice none 0 0) (.slice none 0 0) (.slice none 0 0)).below
          simp only [set8] at hZ
          have HZ := Lib.hid hZ
          clear hZ
          go_wp2_with fail
          exact bodyPost_ret (v := .tuple #[.agg #[.int .i64 0, .string ⟨#[]⟩, .string ⟨#[]⟩, .bool false, .int .i64 0, .slice none 0 0, .slice none 0 0, .slice none 0 0], .bool false]) (by simp [results, Try.results54, go_sem, *]) rfl ⟨none, none, none, 0, 0, 0, rfl, zero_lies _, HZ.out⟩
        · have h1b : decide (fan < 4) = false := decide_eq_false h1
          by_cases h2 : 64 < fan
          · obtain rfl : o = (false, zeroN) := hno.out (by rw [HPB.out, decide_eq_false (p := 4 ≤ fan ∧ fan ≤ 64) (by omega)]; rfl)
            have h2b : decide (64 < fan) = true := decide_eq_true h2
            obtain ⟨y0, y1, y2, y3, y4, y5, y6, y7, q0, q1, q2, q3, q4, q5, q6, q7⟩ := nd_facts (hS.out.has 1 _ _ rfl).1
            have hZ := (hS.out.store 1 rfl (.int .i64 0) (.string ⟨#[]⟩) (.string ⟨#[]⟩) (.bool false) (.int .i64 0) (.slice none 0 0) (.slice none 0 0) (.slice none 0 0)).below
            simp only [set8] at hZ
            have HZ := Lib.hid hZ
            clear hZ
            go_wp2_with fail
            exact bodyPost_ret (v := .tuple #[.agg #[.int .i64 0, .string ⟨#[]⟩, .string ⟨#[]⟩, .bool false, .int .i64 0, .slice none 0 0, .slice none 0 0, .slice none 0 0], .bool false]) (by simp [results, Try.results54, go_sem, *]) rfl ⟨none, none, none, 0, 0, 0, rfl, zero_lies _, HZ.out⟩
          · have h2b : decide (64 < fan) = false := decide_eq_false h2
            by_cases h3 : (keys.length : Int) < fan
            · have h3b : decide (fan ≤ (keys.length : Int)) = false := decide_eq_false (by omega)
              have HF := Lib.hid (And.intro h1 (And.intro h2 h3))
              clear h1 h2 h3
              go_wp2_with fail
              refine (HIs.out _).mono ?_
              rintro e wn ⟨rfl, hbn⟩
              clear x0 x1 x2 x3 x4 x5 x6 x7 f0 f1 f2 f3 f4 f5 f6 f7
              replace hS := Lib.hid (hS.out.call hbn)
              clear hbn
              obtain ⟨x0, x1, x2, x3, x4, x5, x6, x7, f0, f1, f2, f3, f4, f5, f6, f7⟩ := nd_facts (hS.out.has 0 _ _ rfl).1
              clear h1b h2b h3b
              cases ns
              · obtain rfl : o = (false, zeroN) := hno.out (by rw [HPB.out]; simp)
                obtain ⟨y0, y1, y2, y3, y4, y5, y6, y7, q0, q1, q2, q3, q4, q5, q6, q7⟩ := nd_facts (hS.out.has 1 _ _ rfl).1
                have hZ := (hS.out.store 1 rfl (.int .i64 0) (.string ⟨#[]⟩) (.string ⟨#[]⟩) (.bool false) (.int .i64 0) (.slice none 0 0) (.slice none 0 0) (.slice none 0 0)).below
                simp only [set8] at hZ
                have HZ := Lib.hid hZ
                clear hZ
                go_wp2_with fail
                exact bodyPost_ret (v := .tuple #[.agg #[.int .i64 0, .string ⟨#[]⟩, .string ⟨#[]⟩, .bool false, .int .i64 0, .slice none 0 0, .slice none 0 0, .slice none 0 0], .bool false]) (by simp [results, Try.results54, go_sem, *]) rfl ⟨none, none, none, 0, 0, 0, rfl, zero_lies _, HZ.out⟩
              · have hla := H00.out.la
                have hlc := H00.out.lc
                have hkl := hlen.out (by trivial)
                simp only [] at hla hlc
                have HL := Lib.hid (And.intro hla (And.intro hlc hkl))
                have hlk : keys.length ≤ 9223372036854775807 := by omega
                clear hla hlc hkl
                go_wp2_with fail
                go_loopw [10] (fun i wr => ∃ j : Nat, i = .int .i64 j ∧ Hid (j ≤ keys.length ∧ (∀ q (hq : q < keys.length) (hq' : q < kids.length), q < j → keys[q] ≠ low ∧ kids[q] ≠ kid) ∧
                  Sx w.heap.size w wr [(w.heap.size, .cells #[.int .i64 level, .string nlow, .string high, .bool last, .int .i64 next, .slice A keys.length ca, .slice B vals.length cb, .slice C kids.length cc] 26), (w.heap.size + 1, .cells #[.int .i64 0, .string ⟨#[]⟩, .string ⟨#[]⟩, .bool false, .int .i64 0, .slice none 0 0, .slice none 0 0, .slice none 0 0] 26)])) (fun i _ => keys.length - (intOf i).toNat)
                case atStart => exact ⟨0, rfl, Nat.zero_le _, fun q _ _ hq => absurd hq (Nat.not_lt_zero _), hS.out⟩
                case round =>
                  obtain ⟨j, rfl, H⟩ := hrel
                  clear x0 x1 x2 x3 x4 x5 x6 x7 f0 f1 f2 f3 f4 f5 f6 f7
                  clear hS
                  have hS := Lib.hid H.out.2.2
                  obtain ⟨x0, x1, x2, x3, x4, x5, x6, x7, f0, f1, f2, f3, f4, f5, f6, f7⟩ := nd_facts (hS.out.has 0 _ _ rfl).1
                  by_cases hlt : j < keys.length
                  · have hlt2 : j < kids.length := by have := HL.out; omega
                    have HPRE := Lib.hid H.out.2.1
                    clear H
                    have hL := H00.out.up hS.out.below
                    obtain ⟨b, off, rfl, hbB, hc⟩ := RdS.spot hL.keys (show 0 < keys.length by omega)
                    obtain ⟨b', off', rfl, hbB', hc'⟩ := RdI.spot hL.kids (show 0 < kids.length by omega)
                    have cj := hc j hlt
                    have dj := hc' j hlt2
                    have HHj := Lib.hid (HH1.out (by trivial) j hlt)
                    have HPj := Lib.hid (HP1.out (by trivial) j hlt2)
                    have HNX := Lib.hid (fun (q1 : keys[j] ≠ low) (q2 : kids[j] ≠ kid) (q : Nat) (hq : q < keys.length) (hq' : q < kids.length) (hqj : q < j + 1) => show keys[q] ≠ low ∧ kids[q] ≠ kid from by
                      rcases Nat.lt_succ_iff_lt_or_eq.1 hqj with g | rfl
                      · exact HPRE.out q hq hq' g
                      · exact ⟨q1, q2⟩)
                    simp only [] at cj dj HHj HPj
                    clear hL hc hc' hbB hbB' HPRE
                    generalize keys[j] = kj at cj HHj HNX
                    generalize kids[j] = cj2 at dj HPj HNX
                    by_cases h1 : kj = low
                    · obtain rfl : o = (false, zeroN) := hno.out (by rw [HPB.out, HHj.out h1]; simp)
                      have h1b : (kj.toList == low.toList) = true := by rw [txt_eq]; exact decide_eq_true h1
                      clear h1
                      obtain ⟨y0, y1, y2, y3, y4, y5, y6, y7, q0, q1, q2, q3, q4, q5, q6, q7⟩ := nd_facts (hS.out.has 1 _ _ rfl).1
                      have hZ := (hS.out.store 1 rfl (.int .i64 0) (.string ⟨#[]⟩) (.string ⟨#[]⟩) (.bool false) (.int .i64 0) (.slice none 0 0) (.slice none 0 0) (.slice none 0 0)).below
                      simp only [set8] at hZ
                      have HZ := Lib.hid hZ
                      clear hZ
                      go_wp2_with fail
                      exact bodyPost_ret (v := .tuple #[.agg #[.int .i64 0, .string ⟨#[]⟩, .string ⟨#[]⟩, .bool false, .int .i64 0, .slice none 0 0, .slice none 0 0, .slice none 0 0], .bool false]) (by simp [results, Try.results54, go_sem, *]) rfl ⟨none, none, none, 0, 0, 0, rfl, zero_lies _, HZ.out⟩
                    · have h1b : (kj.toList == low.toList) = false := by rw [txt_eq]; exact decide_eq_false h1
                      by_cases h2 : cj2 = kid
                      · obtain rfl : o = (false, zeroN) := hno.out (by rw [HPB.out, HPj.out h2]; simp)
                        have h2b : (cj2 == kid) = true := beq_iff_eq.2 h2
                        clear h1 h2
                        obtain ⟨y0, y1, y2, y3, y4, y5, y6, y7, q0, q1, q2, q3, q4, q5, q6, q7⟩ := nd_facts (hS.out.has 1 _ _ rfl).1
                        have hZ := (hS.out.store 1 rfl (.int .i64 0) (.string ⟨#[]⟩) (.string ⟨#[]⟩) (.bool false) (.int .i64 0) (.slice none 0 0) (.slice none 0 0) (.slice none 0 0)).below
                        simp only [set8] at hZ
                        have HZ := Lib.hid hZ
                        clear hZ
                        go_wp2_with fail
                        exact bodyPost_ret (v := .tuple #[.agg #[.int .i64 0, .string ⟨#[]⟩, .string ⟨#[]⟩, .bool false, .int .i64 0, .slice none 0 0, .slice none 0 0, .slice none 0 0], .bool false]) (by simp [results, Try.results54, go_sem, *]) rfl ⟨none, none, none, 0, 0, 0, rfl, zero_lies _, HZ.out⟩
                      · have h2b : (cj2 == kid) = false := by simpa using h2
                        have HNY := Lib.hid (HNX.out h1 h2)
                        clear h1 h2 HNX
                        go_wp2_with fail
                        go_roundw
                        case rel => exact ⟨j + 1, by go_num, by omega, HNY.out, hS.out⟩
                        case measure => simp [intOf]; omega
                  · obtain rfl : j = keys.length := by have := H.out.1; omega
                    have hnk : ∀ q (hq : q < keys.length), keys[q] ≠ low := fun q hq => (H.out.2.1 q hq (by have := HL.out; omega) hq).1
                    have hnc : ∀ q (hq : q < kids.length), kids[q] ≠ kid := fun q hq => (H.out.2.1 q (by have := HL.out; omega) hq (by have := HL.out; omega)).2
                    have hpt : pb = true := by
                      rw [HPB.out, HH0.out (by trivial) hnk, HP0.out hnc, decide_eq_true (p := 4 ≤ fan ∧ fan ≤ 64) (by have := HF.out; omega), decide_eq_true HF.out.2.2]; rfl
                    obtain rfl := hyes.out hpt
                    clear hpt
                    have HN := Lib.hid hnk
                    clear hnk hnc H
                    have HBW := Lib.hid (hS.out.lt (i := 1) rfl)
                    go_wp2_with fail
                    refine (HPu.out _ (H00.out.up hS.out.below) (by trivial) HN.out).mono ?_
                    rintro e W1 ⟨A1, B1, C1, ca1, cb1, cc1, rfl, hl, hb⟩
                    clear x0 x1 x2 x3 x4 x5 x6 x7 f0 f1 f2 f3 f4 f5 f6 f7
                    replace hS := Lib.hid (hS.out.call hb)
                    obtain ⟨x0, x1, x2, x3, x4, x5, x6, x7, f0, f1, f2, f3, f4, f5, f6, f7⟩ := nd_facts (hS.out.has 0 _ _ rfl).1
                    obtain ⟨y0, y1, y2, y3, y4, y5, y6, y7, q0, q1, q2, q3, q4, q5, q6, q7⟩ := nd_facts (hS.out.has 1 _ _ rfl).1
                    obtain ⟨level1, nlow1, high1, last1, next1, keys1, vals1, kids1⟩ := pn
                    simp only [ndCells] at hl ⊢
                    have hZ := hS.out.store 1 rfl (.int .i64 level1) (.string nlow1) (.string high1) (.bool last1) (.int .i64 next1) (.slice A1 keys1.length ca1) (.slice B1 vals1.length cb1) (.slice C1 kids1.length cc1)
                    have hlF := hl.off (set8_off W1 (w.heap.size + 1) (.int .i64 level1) (.string nlow1) (.string high1) (.bool last1) (.int .i64 next1) (.slice A1 keys1.length ca1) (.slice B1 vals1.length cb1) (.slice C1 kids1.length cc1)) (fun k q => by have := HBW.out; rw [q]; exact this)
                    have HFI := And.intro hZ.below hlF.lies
                    simp only [set8] at HFI
                    replace HFI := Lib.hid HFI
                    clear hZ hlF hl hb
                    go_wp2_with fail
                    exact bodyPost_ret (v := .tuple #[.agg #[.int .i64 level1, .string nlow1, .string high1, .bool last1, .int .i64 next1, .slice A1 keys1.length ca1, .slice B1 vals1.length cb1, .slice C1 kids1.length cc1], .bool true]) (by simp [results, Try.results54, go_sem, *]) rfl ⟨_, _, _, _, _, _, by simp [ndCells], HFI.out.2, HFI.out.1⟩
            · obtain rfl : o = (false, zeroN) := hno.out (by rw [HPB.out, decide_eq_false (p := (keys.length : Int) < fan) h3]; simp)
              have h3b : decide (fan ≤ (keys.length : Int)) = true := decide_eq_true (by omega)
              obtain ⟨y0, y1, y2, y3, y4, y5, y6, y7, q0, q1, q2, q3, q4, q5, q6, q7⟩ := nd_facts (hS.out.has 1 _ _ rfl).1
              have hZ := (hS.out.store 1 rfl (.int .i64 0) (.string ⟨#[]⟩) (.string ⟨#[]⟩) (.bool false) (.int .i64 0) (.slice none 0 0) (.slice none 0 0) (.slice none 0 0)).below
              simp only [set8] at hZ
              have HZ := Lib.hid hZ
              clear hZ
              go_wp2_with fail
              exact bodyPost_ret (v := .tuple #[.agg #[.int .i64 0, .string ⟨#[]⟩, .string ⟨#[]⟩, .bool false, .int .i64 0, .slice none 0 0, .slice none 0 0, .slice none 0 0], .bool false]) (by simp [results, Try.results54, go_sem, *]) rfl ⟨none, none, none, 0, 0, 0, rfl, zero_lies _, HZ.out⟩

set_option maxRecDepth 100000 in
set_option maxHeartbeats 16000000 in
theorem refdrop_any (d : Nd) (i : Int) (A B C : Option Addr) (ca cb cc : Nat) (w : World) (h : Lies w d A B C ca cb cc) :
    Calls Try.prog 56 #[.agg (ndCells d A B C ca cb cc), .int .i64 i] w (NRet (dropD d i) w) := by
  have hS := Lib.hid (Sx.start2 w (.cells (ndCells d A B C ca cb cc) 26) (.cells #[.int .i64 0, .string ⟨#[]⟩, .string ⟨#[]⟩, .bool false, .int .i64 0, .slice none 0 0, .slice none 0 0, .slice none 0 0] 26))
  have H00 := Lib.hid h
  have HIn := Lib.hid (fun W hW => refinner_any d A B C ca cb cc W hW)
  have hpb : inB d i = (innerB d && (decide (1 ≤ i) && decide (i < (d.keys.length : Int)))) := rfl
  have hno := Lib.hid (fun (q : inB d i = false) => dropD_no q)
  have hyes := Lib.hid (fun (q : inB d i = true) => (dropD_yes q).trans (show (true, dropN d i) = (true, ⟨d.level, d.low, d.high, d.last, d.next, d.keys.eraseIdx i.toNat, d.vals, d.kids.eraseIdx i.toNat⟩) from rfl))
  have hlen := Lib.hid (fun (q : innerB d = true) => And.intro ((innerB_iff d).1 q).kp.len ((innerB_iff d).1 q).fan)
  clear h
  generalize hon : dropD d i = o at hno hyes ⊢
  clear hon
  generalize inB d i = pb at hpb hno hyes
  generalize innerB d = ib at HIn hpb hlen
  have HPB := Lib.hid hpb
  clear hpb
  obtain ⟨level, nlow, high, last, next, keys, vals, kids⟩ := d
  simp only [] at hlen hyes HPB
  simp only [ndCells] at hS HIn ⊢
  go_enter Try.func56, Try.ntmps56
  go_upto_region 1 with fail
  generalize (w.alloc _).alloc _ = W at hS ⊢
  obtain ⟨x0, x1, x2, x3, x4, x5, x6, x7, f0, f1, f2, f3, f4, f5, f6, f7⟩ := nd_facts (hS.out.has 0 _ _ rfl).1
  go_wp2_with fail
  refine (HIn.out _ (H00.out.up hS.out.below)).mono ?_
  rintro e wn ⟨rfl, hbn⟩
  clear x0 x1 x2 x3 x4 x5 x6 x7 f0 f1 f2 f3 f4 f5 f6 f7
  replace hS := Lib.hid (hS.out.call hbn)
  clear hbn
  obtain ⟨x0, x1, x2, x3, x4, x5, x6, x7, f0, f1, f2, f3, f4, f5, f6, f7⟩ := nd_facts (hS.out.has 0 _ _ rfl).1
  cases ib
  · obtain rfl : o = (false, zeroN) := hno.out (by rw [HPB.out]; rfl)
    obtain ⟨y0, y1, y2, y3, y4, y5, y6, y7, q0, q1, q2, q3, q4, q5, q6, q7⟩ := nd_facts (hS.out.has 1 _ _ rfl).1
    have hZ := (hS.out.store 1 rfl (.int .i64 0) (.string ⟨#[]⟩) (.string ⟨#[]⟩) (.bool false) (.int .i64 0) (.slice none 0 0) (.slice none 0 0) (.slice none 0 0)).below
    simp only [set8] at hZ
    have HZ := Lib.hid hZ
    clear hZ
    go_wp2_with fail
    exact bodyPost_ret (v := .tuple #[.agg #[.int .i64 0, .string ⟨#[]⟩, .string ⟨#[]⟩, .bool false, .int .i64 0, .slice none 0 0, .slice none 0 0, .slice none 0 0], .bool false]) (by simp [results, Try.results56, go_sem, *]) rfl ⟨none, none, none, 0, 0, 0, rfl, zero_lies _, HZ.out⟩
  · by_cases h1 : i < 1
    · obtain rfl : o = (false, zeroN) := hno.out (by rw [HPB.out, decide_eq_false (p := 1 ≤ i) (by omega)]; rfl)
      have h1b : decide (i < 1) = true := decide_eq_true h1
      obtain ⟨y0, y1, y2, y3, y4, y5, y6, y7, q0, q1, q2, q3, q4, q5, q6, q7⟩ := nd_facts (hS.out.has 1 _ _ rfl).1
      have hZ := (hS.out.store 1 rfl (.int .i64 0) (.string ⟨#[]⟩) (.string ⟨#[]⟩) (.bool false) (.int .i64 0) (.slice none 0 0) (.slice none 0 0) (.slice none 0 0)).below
      simp only [set8] at hZ
      have HZ := Lib.hid hZ
      clear hZ
      go_wp2_with fail
      exact bodyPost_ret (v := .tuple #[.agg #[.int .i64 0, .string ⟨#[]⟩, .string ⟨#[]⟩, .bool false, .int .i64 0, .slice none 0 0, .slice none 0 0, .slice none 0 0], .bool false]) (by simp [results, Try.results56, go_sem, *]) rfl ⟨none, none, none, 0, 0, 0, rfl, zero_lies _, HZ.out⟩
    · by_cases h2 : (keys.length : Int) ≤ i
      · obtain rfl : o = (false, zeroN) := hno.out (by rw [HPB.out, decide_eq_false (p := i < (keys.length : Int)) (by omega)]; simp)
        have h1b : decide (i < 1) = false := decide_eq_false h1
        have h2b : decide ((keys.length : Int) ≤ i) = true := decide_eq_true h2
        obtain ⟨y0, y1, y2, y3, y4, y5, y6, y7, q0, q1, q2, q3, q4, q5, q6, q7⟩ := nd_facts (hS.out.has 1 _ _ rfl).1
        have hZ := (hS.out.store 1 rfl (.int .i64 0) (.string ⟨#[]⟩) (.string ⟨#[]⟩) (.bool false) (.int .i64 0) (.slice none 0 0) (.slice none 0 0) (.slice none 0 0)).below
        simp only [set8] at hZ
        have HZ := Lib.hid hZ
        clear hZ
        go_wp2_with fail
        exact bodyPost_ret (v := .tuple #[.agg #[.int .i64 0, .string ⟨#[]⟩, .string ⟨#[]⟩, .bool false, .int .i64 0, .slice none 0 0, .slice none 0 0, .slice none 0 0], .bool false]) (by simp [results, Try.results56, go_sem, *]) rfl ⟨none, none, none, 0, 0, 0, rfl, zero_lies _, HZ.out⟩
      · have h1b : decide (i < 1) = false := decide_eq_false h1
        have h2b : decide ((keys.length : Int) ≤ i) = false := decide_eq_false h2
        have hpt : pb = true := by rw [HPB.out, decide_eq_true (p := 1 ≤ i) (by omega), decide_eq_true (p := i < (keys.length : Int)) (by omega)]; rfl
        have hkl := hlen.out (by trivial)
        have ho := hyes.out hpt
        have HN := Lib.hid hkl
        have HI := Lib.hid (And.intro h1 h2)
        obtain ⟨b, off, rfl, hbB, hc⟩ := RdS.spot H00.out.keys (show 0 < keys.length by omega)
        obtain ⟨b', off', rfl, hbB', hc'⟩ := RdI.spot H00.out.kids (show 0 < kids.length by omega)
        have HCC := Lib.hid (And.intro hc hc')
        have HB1 := Lib.hid hbB
        have HB2 := Lib.hid hbB'
        clear hpt hkl h1 h2 hc hc' hbB hbB' hno hyes HPB hlen HIn
        go_upto_region 3 with fail
        obtain ⟨at_, rfl⟩ := Int.eq_ofNat_of_zero_le (show 0 ≤ i by have := HI.out; omega)
        rw [Int.toNat_natCast] at ho
        obtain rfl := ho
        clear h1b h2b
        have hO := ((Ow.start hS.out).nil 9 1).nil 3 1
        simp only [List.nil_append, List.cons_append] at hO
        have HO := Lib.hid hO
        clear hO hS
        have hlk : keys.length ≤ 1000 := by have := HN.out; omega
        go_wp2_with fail
        go_loopw [6, 7, 8] (fun a z i wr => ∃ (j m : Nat) (A1 C1 : Option Addr) (c1 c2 : Nat), i = .int .i64 j ∧ a = .slice A1 m c1 ∧ z = .slice C1 m c2 ∧ Hid (j ≤ keys.length ∧ m ≤ j ∧
          Ow w.heap.size w wr [(w.heap.size, .cells #[.int .i64 level, .string nlow, .string high, .bool last, .int .i64 next, .slice (some ⟨b, off, none⟩) keys.length ca, .slice B vals.length cb, .slice (some ⟨b', off', none⟩) kids.length cc] 26), (w.heap.size + 1, .cells #[.int .i64 0, .string ⟨#[]⟩, .string ⟨#[]⟩, .bool false, .int .i64 0, .slice none 0 0, .slice none 0 0, .slice none 0 0] 26)]
            [⟨9, 1, .slice A1 m c1, m, strs (cutR keys at_ j)⟩, ⟨3, 1, .slice C1 m c2, m, i64s (cutR kids at_ j)⟩])) (fun _ _ i _ => keys.length - (intOf i).toNat)
        case atStart => exact ⟨0, 0, none, none, 0, 0, rfl, rfl, rfl, Nat.zero_le _, by omega, by rw [cutR_zero, cutR_zero]; exact HO.out⟩
        case round =>
          obtain ⟨j, m, A1, C1, c1, c2, rfl, rfl, rfl, H⟩ := hrel
          clear HO
          have HO := Lib.hid H.out.2.2
          clear x0 x1 x2 x3 x4 x5 x6 x7 f0 f1 f2 f3 f4 f5 f6 f7
          obtain ⟨x0, x1, x2, x3, x4, x5, x6, x7, f0, f1, f2, f3, f4, f5, f6, f7⟩ := nd_facts (HO.out.sx.has 0 _ _ rfl).1
          by_cases hlt : j < keys.length
          · have HMJ := Lib.hid (show m ≤ j from H.out.2.1)
            have HM := Lib.hid (show m ≤ 1001 by have := H.out.2.1; have := HN.out; omega)
            have hlt2 : j < kids.length := by have := HN.out; omega
            have HC1 := Lib.hid (HCC.out.1 j hlt)
            have HC2 := Lib.hid (HCC.out.2 j (by have := HN.out; omega))
            have HPE := Lib.hid (fun q => And.intro (cutR_else keys at_ j hlt q) (cutR_else kids at_ j (by have := HN.out; omega) q))
            have HPH := Lib.hid (And.intro (cutR_here keys j hlt) (cutR_here kids j (by have := HN.out; omega)))
            generalize keys[j] = kj at HC1 HPE
            generalize kids[j] = vj at HC2 HPE
            by_cases h2 : at_ = j
            · subst h2
              have h2b : ((at_ : Int) != (at_ : Int)) = false := by simp
              clear H
              go_wp2_with fail
              go_roundw
              case rel => exact ⟨at_ + 1, m, A1, C1, c1, c2, by go_num, rfl, rfl, by omega, by have := HMJ.out; omega, by have := HO.out; rw [HPH.out.1, HPH.out.2] at this; exact this⟩
              case measure => simp [intOf]; omega
            · have h2b : ((j : Int) != (at_ : Int)) = true := by simp; omega
              have HP := Lib.hid (HPE.out h2)
              clear h2 HPE HPH H
              have cj := (HO.out.below.cell (p := ⟨b, off + j, none⟩) HB1.out).trans HC1.out
              have dj := (HO.out.below.cell (p := ⟨b', off' + j, none⟩) HB2.out).trans HC2.out
              obtain ⟨A2, cA2, WA2, hrun, hcA2, hO⟩ := HO.out.pushS 0 rfl kj (by have := HM.out; omega)
              have Hrun := Lib.hid hrun
              simp only [List.set_cons_zero, List.set_cons_succ] at hO
              replace HO := Lib.hid hO
              clear hrun hO
              obtain ⟨z0, z1, z2, z3, z4, z5, z6, z7, -, -, -, -, -, -, -, -⟩ := nd_facts (HO.out.sx.has 0 _ _ rfl).1
              have zcj := (HO.out.below.cell (p := ⟨b, off + j, none⟩) HB1.out).trans HC1.out
              have zdj := (HO.out.below.cell (p := ⟨b', off' + j, none⟩) HB2.out).trans HC2.out
              go_upto_region 10 with (at_builtin; refine wpList_append_run rfl (.tmp 34) (.tmp 40) 22 rfl rfl rfl Hrun.out ?_)
              clear Hrun z0 z1 z2 z3 z4 z5 z6 z7 zcj zdj cj dj
              clear x0 x1 x2 x3 x4 x5 x6 x7 f0 f1 f2 f3 f4 f5 f6 f7
              obtain ⟨x0, x1, x2, x3, x4, x5, x6, x7, f0, f1, f2, f3, f4, f5, f6, f7⟩ := nd_facts (HO.out.sx.has 0 _ _ rfl).1
              have cj := (HO.out.below.cell (p := ⟨b, off + j, none⟩) HB1.out).trans HC1.out
              have dj := (HO.out.below.cell (p := ⟨b', off' + j, none⟩) HB2.out).trans HC2.out
              obtain ⟨C2, cC2, WC2, hrun, hcC2, hO⟩ := HO.out.pushI 1 rfl vj (by have := HM.out; omega)
              have Hrun := Lib.hid hrun
              simp only [List.set_cons_zero, List.set_cons_succ] at hO
              replace HO := Lib.hid hO
              clear hrun hO
              obtain ⟨z0, z1, z2, z3, z4, z5, z6, z7, -, -, -, -, -, -, -, -⟩ := nd_facts (HO.out.sx.has 0 _ _ rfl).1
              have zcj := (HO.out.below.cell (p := ⟨b, off + j, none⟩) HB1.out).trans HC1.out
              have zdj := (HO.out.below.cell (p := ⟨b', off' + j, none⟩) HB2.out).trans HC2.out
              go_wp2_with (at_builtin; refine wpList_append_run rfl (.tmp 42) (.tmp 48) 24 rfl rfl rfl Hrun.out ?_)
              clear Hrun z0 z1 z2 z3 z4 z5 z6 z7 zcj zdj cj dj
              clear x0 x1 x2 x3 x4 x5 x6 x7 f0 f1 f2 f3 f4 f5 f6 f7
              obtain ⟨x0, x1, x2, x3, x4, x5, x6, x7, f0, f1, f2, f3, f4, f5, f6, f7⟩ := nd_facts (HO.out.sx.has 0 _ _ rfl).1
              have cj := (HO.out.below.cell (p := ⟨b, off + j, none⟩) HB1.out).trans HC1.out
              have dj := (HO.out.below.cell (p := ⟨b', off' + j, none⟩) HB2.out).trans HC2.out
              go_roundw
              case rel => exact ⟨j + 1, m + 1, A2, C2, cA2, cC2, by go_num, rfl, rfl, by omega, by have := HMJ.out; omega, by have := HO.out; rw [HP.out.1, HP.out.2] at this; exact this⟩
              case measure => simp [intOf]; omega
          · obtain rfl : j = keys.length := by have := H.out.1; omega
            have HM := Lib.hid (show m ≤ 1001 by have := H.out.2.1; have := HN.out; omega)
            have hp := HO.out
            rw [cutR_end, show cutR kids at_ keys.length = kids.eraseIdx at_ by rw [← HN.out.1]; exact cutR_end kids at_] at hp
            replace HO := Lib.hid hp
            clear hp H
            go_upto_region 12 with fail
            have hO := HO.out.setc 0 rfl 5 (.slice A1 m c1)
            simp only [List.set_cons_zero, List.set_cons_succ] at hO
            generalize World.setCell _ _ _ = Z1 at hO ⊢
            replace HO := Lib.hid hO
            clear hO
            clear x0 x1 x2 x3 x4 x5 x6 x7 f0 f1 f2 f3 f4 f5 f6 f7
            obtain ⟨x0, x1, x2, x3, x4, x5, x6, x7, f0, f1, f2, f3, f4, f5, f6, f7⟩ := nd_facts (HO.out.sx.has 0 _ _ rfl).1
            go_upto_region 13 with fail
            have hO := HO.out.setc 0 rfl 7 (.slice C1 m c2)
            simp only [List.set_cons_zero, List.set_cons_succ] at hO
            generalize World.setCell _ _ _ = Z2 at hO ⊢
            replace HO := Lib.hid hO
            clear hO
            clear x0 x1 x2 x3 x4 x5 x6 x7 f0 f1 f2 f3 f4 f5 f6 f7
            obtain ⟨x0, x1, x2, x3, x4, x5, x6, x7, f0, f1, f2, f3, f4, f5, f6, f7⟩ := nd_facts (HO.out.sx.has 0 _ _ rfl).1
            obtain ⟨y0, y1, y2, y3, y4, y5, y6, y7, q0, q1, q2, q3, q4, q5, q6, q7⟩ := nd_facts (HO.out.sx.has 1 _ _ rfl).1
            have hZ := HO.out.store 1 rfl (.int .i64 level) (.string nlow) (.string high) (.bool last) (.int .i64 next) (.slice A1 m c1) (.slice B vals.length cb) (.slice C1 m c2)
            have hkr : RdS _ A1 m (keys.eraseIdx at_) := hZ.rowRd 0 rfl
            have hcr : RdI _ C1 m (kids.eraseIdx at_) := hZ.rowRd 1 rfl
            have hkl : (keys.eraseIdx at_).length = m := by have := hkr.1; rw [strs_length] at this; omega
            have hcl : (kids.eraseIdx at_).length = m := by have := hcr.1; rw [i64s_length] at this; omega
            have hL := H00.out.up hZ.below
            have hlies : Lies _ ⟨level, nlow, high, last, next, keys.eraseIdx at_, vals, kids.eraseIdx at_⟩ A1 B C1 c1 cb c2 :=
              { low := hL.low, high := hL.high, fit := fits_erase H00.out.fit at_, la := by have := HM.out; simp only []; omega, lb := hL.lb, lc := by have := HM.out; simp only []; omega
                keys := by rw [hkl]; exact hkr
                vals := hL.vals
                kids := by rw [hcl]; exact hcr
                ka := by rw [hkl]; exact hZ.rowLe 0 rfl
                kb := hL.kb
                kc := by rw [hcl]; exact hZ.rowLe 1 rfl }
            have hcells : ndCells ⟨level, nlow, high, last, next, keys.eraseIdx at_, vals, kids.eraseIdx at_⟩ A1 B C1 c1 cb c2 = #[.int .i64 level, .string nlow, .string high, .bool last, .int .i64 next, .slice A1 m c1, .slice B vals.length cb, .slice C1 m c2] := by
              simp only [ndCells, hkl, hcl]
            have HFI := And.intro hZ.below (And.intro hlies hcells)
            simp only [set8] at HFI
            replace HFI := Lib.hid HFI
            clear hZ hkr hcr hkl hcl hL hlies hcells
            go_wp2_with fail
            exact bodyPost_ret (v := .tuple #[.agg #[.int .i64 level, .string nlow, .string high, .bool last, .int .i64 next, .slice A1 m c1, .slice B vals.length cb, .slice C1 m c2], .bool true]) (by simp [results, Try.results56, go_sem, *]) rfl ⟨A1, B, C1, c1, cb, c2, by rw [HFI.out.2.2], HFI.out.2.1, HFI.out.1⟩

set_option maxRecDepth 100000 in
set_option maxHeartbeats 16000000 in
theorem refturn_any (d : Nd) (i : Int) (low : ByteArray) (A B C : Option Addr) (ca cb cc : Nat) (w : World) (h : Lies w d A B C ca cb cc) (hk : low.size ≤ maxLen) :
    Calls Try.prog 58 #[.agg (ndCells d A B C ca cb cc), .int .i64 i, .string low] w (NRet (turnD d i low) w) := by
  have hS := Lib.hid (Sx.start2 w (.cells (ndCells d A B C ca cb cc) 26) (.cells #[.int .i64 0, .string ⟨#[]⟩, .string ⟨#[]⟩, .bool false, .int .i64 0, .slice none 0 0, .slice none 0 0, .slice none 0 0] 26))
  have H00 := Lib.hid h
  have HIn := Lib.hid (fun W hW => refinner_any d A B C ca cb cc W hW)
  have HI2 := Lib.hid (fun A' B' C' ca' cb' cc' W hW => refinner_any (turnN d i low) A' B' C' ca' cb' cc' W hW)
  have hpb : inB d i = (innerB d && (decide (1 ≤ i) && decide (i < (d.keys.length : Int)))) := rfl
  have hno := Lib.hid (fun (q : (inB d i && innerB (turnN d i low)) = false) => turnD_no q)
  have hyes := Lib.hid (fun (q : (inB d i && innerB (turnN d i low)) = true) => turnD_yes q)
  have hlen := Lib.hid (fun (q : innerB d = true) => And.intro ((innerB_iff d).1 q).kp.len ((innerB_iff d).1 q).fan)
  have htn : turnN d i low = ⟨d.level, d.low, d.high, d.last, d.next, d.keys.set i.toNat low, d.vals, d.kids⟩ := rfl
  have HK := Lib.hid hk
  clear h hk
  generalize hon : turnD d i low = o at hno hyes ⊢
  clear hon
  generalize innerB (turnN d i low) = ub at hno hyes HI2
  generalize turnN d i low = tn at HI2 hyes htn
  generalize inB d i = pb at hpb hno hyes
  generalize innerB d = ib at HIn hpb hlen
  have HPB := Lib.hid hpb
  have HTN := Lib.hid htn
  clear hpb htn
  obtain ⟨level, nlow, high, last, next, keys, vals, kids⟩ := d
  simp only [] at hlen HTN HPB
  simp only [ndCells] at hS HIn ⊢
  go_enter Try.func58, Try.ntmps58
  go_upto_region 1 with fail
  generalize (w.alloc _).alloc _ = W at hS ⊢
  obtain ⟨x0, x1, x2, x3, x4, x5, x6, x7, f0, f1, f2, f3, f4, f5, f6, f7⟩ := nd_facts (hS.out.has 0 _ _ rfl).1
  go_wp2_with fail
  refine (HIn.out _ (H00.out.up hS.out.below)).mono ?_
  rintro e wn ⟨rfl, hbn⟩
  clear x0 x1 x2 x3 x4 x5 x6 x7 f0 f1 f2 f3 f4 f5 f6 f7
  replace hS := Lib.hid (hS.out.call hbn)
  clear hbn
  obtain ⟨x0, x1, x2, x3, x4, x5, x6, x7, f0, f1, f2, f3, f4, f5, f6, f7⟩ := nd_facts (hS.out.has 0 _ _ rfl).1
  cases ib
  · obtain rfl : o = (false, zeroN) := hno.out (by rw [HPB.out]; rfl)
    obtain ⟨y0, y1, y2, y3, y4, y5, y6, y7, q0, q1, q2, q3, q4, q5, q6, q7⟩ := nd_facts (hS.out.has 1 _ _ rfl).1
    have hZ := (hS.out.store 1 rfl (.int .i64 0) (.string ⟨#[]⟩) (.string ⟨#[]⟩) (.bool false) (.int .i64 0) (.slice none 0 0) (.slice none 0 0) (.slice none 0 0)).below
    simp only [set8] at hZ
    have HZ := Lib.hid hZ
    clear hZ
    go_wp2_with fail
    exact bodyPost_ret (v := .tuple #[.agg #[.int .i64 0, .string ⟨#[]⟩, .string ⟨#[]⟩, .bool false, .int .i64 0, .slice none 0 0, .slice none 0 0, .slice none 0 0], .bool false]) (by simp [results, Try.results58, go_sem, *]) rfl ⟨none, none, none, 0, 0, 0, rfl, zero_lies _, HZ.out⟩
  · by_cases h1 : i < 1
    · obtain rfl : o = (false, zeroN) := hno.out (by rw [HPB.out, decide_eq_false (p := 1 ≤ i) (by omega)]; rfl)
      have h1b : decide (i < 1) = true := decide_eq_true h1
      obtain ⟨y0, y1, y2, y3, y4, y5, y6, y7, q0, q1, q2, q3, q4, q5, q6, q7⟩ := nd_facts (hS.out.has 1 _ _ rfl).1
      have hZ := (hS.out.store 1 rfl (.int .i64 0) (.string ⟨#[]⟩) (.string ⟨#[]⟩) (.bool false) (.int .i64 0) (.slice none 0 0) (.slice none 0 0) (.slice none 0 0)).below
      simp only [set8] at hZ
      have HZ := Lib.hid hZ
      clear hZ
      go_wp2_with fail
      exact bodyPost_ret (v := .tuple #[.agg #[.int .i64 0, .string ⟨#[]⟩, .string ⟨#[]⟩, .bool false, .int .i64 0, .slice none 0 0, .slice none 0 0, .slice none 0 0], .bool false]) (by simp [results, Try.results58, go_sem, *]) rfl ⟨none, none, none, 0, 0, 0, rfl, zero_lies _, HZ.out⟩
    · by_cases h2 : (keys.length : Int) ≤ i
      · obtain rfl : o = (false, zeroN) := hno.out (by rw [HPB.out, decide_eq_false (p := i < (keys.length : Int)) (by omega)]; simp)
        have h1b : decide (i < 1) = false := decide_eq_false h1
        have h2b : decide ((keys.length : Int) ≤ i) = true := decide_eq_true h2
        obtain ⟨y0, y1, y2, y3, y4, y5, y6, y7, q0, q1, q2, q3, q4, q5, q6, q7⟩ := nd_facts (hS.out.has 1 _ _ rfl).1
        have hZ := (hS.out.store 1 rfl (.int .i64 0) (.string ⟨#[]⟩) (.string ⟨#[]⟩) (.bool false) (.int .i64 0) (.slice none 0 0) (.slice none 0 0) (.slice none 0 0)).below
        simp only [set8] at hZ
        have HZ := Lib.hid hZ
        clear hZ
        go_wp2_with fail
        exact bodyPost_ret (v := .tuple #[.agg #[.int .i64 0, .string ⟨#[]⟩, .string ⟨#[]⟩, .bool false, .int .i64 0, .slice none 0 0, .slice none 0 0, .slice none 0 0], .bool false]) (by simp [results, Try.results58, go_sem, *]) rfl ⟨none, none, none, 0, 0, 0, rfl, zero_lies _, HZ.out⟩
      · have h1b : decide (i < 1) = false := decide_eq_false h1
        have h2b : decide ((keys.length : Int) ≤ i) = false := decide_eq_false h2
        have hpt : pb = true := by rw [HPB.out, decide_eq_true (p := 1 ≤ i) (by omega), decide_eq_true (p := i < (keys.length : Int)) (by omega)]; rfl
        obtain rfl := hpt
        have hkl := hlen.out (by trivial)
        have HN := Lib.hid hkl
        have HI := Lib.hid (And.intro h1 h2)
        clear h1 h2 HIn hlen hkl HPB
        go_upto_region 3 with fail
        clear h1b h2b
        obtain ⟨j, rfl⟩ := Int.eq_ofNat_of_zero_le (show 0 ≤ i by have := HI.out; omega)
        have HJ := Lib.hid (show j < keys.length by have := HI.out; omega)
        rw [Int.toNat_natCast] at HTN
        clear HI
        obtain ⟨A1, c1, W1, hrun, hown, hbw, hc1⟩ := run_clone (P := Try.prog) (w := wn) 22 22 9 (.string ByteArray.empty) 16 (by kernel_rfl) joinS_info rfl (by omega) A keys.length ca (strs keys) (H00.out.up hS.out.below).keys (strs_one keys) (by have := HN.out; omega)
        have hO := (Ow.start hS.out).row hbw hown
        simp only [List.nil_append] at hO
        have HO := Lib.hid hO
        have Hrun := Lib.hid hrun
        clear hO hrun hown hbw
        obtain ⟨z0, z1, z2, z3, z4, z5, z6, z7, -, -, -, -, -, -, -, -⟩ := nd_facts ((hS.out.call (below_alloc wn (.cells #[] 9))).has 0 _ _ rfl).1
        clear hS
        go_upto_region 4 with (at_builtin; refine wpList_append_run rfl (.tmp 24) (.tmp 26) 22 rfl rfl rfl Hrun.out ?_)
        clear Hrun z0 z1 z2 z3 z4 z5 z6 z7
        clear x0 x1 x2 x3 x4 x5 x6 x7 f0 f1 f2 f3 f4 f5 f6 f7
        obtain ⟨x0, x1, x2, x3, x4, x5, x6, x7, f0, f1, f2, f3, f4, f5, f6, f7⟩ := nd_facts (HO.out.sx.has 0 _ _ rfl).1
        obtain ⟨g, rfl, hgc, hgf⟩ := own_at (HO.out.own 0 _ rfl) (show 0 < keys.length by have := HJ.out; omega)
        have cj := hgc j (.string (keys[j]'HJ.out)) (by simp [strs, HJ.out])
        have fj := hgf j
        have hj1 : (j : Int) < (keys.length : Int) := by have := HJ.out; omega
        generalize keys[j]'HJ.out = u0 at cj
        clear hgc hgf
        go_upto_region 5 with fail
        clear cj fj hj1
        have hO := HO.out.setr 0 rfl j HJ.out (.string low)
        rw [show (strs keys).set j (.string low) = strs (keys.set j low) from by simp [strs, List.map_set]] at hO
        simp only [List.set_cons_zero, List.set_cons_succ] at hO
        generalize World.setCell _ _ _ = Z1 at hO ⊢
        replace HO := Lib.hid hO
        clear hO
        clear x0 x1 x2 x3 x4 x5 x6 x7 f0 f1 f2 f3 f4 f5 f6 f7
        obtain ⟨x0, x1, x2, x3, x4, x5, x6, x7, f0, f1, f2, f3, f4, f5, f6, f7⟩ := nd_facts (HO.out.sx.has 0 _ _ rfl).1
        go_upto_region 6 with fail
        have hO := HO.out.setc 0 rfl 5 (.slice (some ⟨g, 0, none⟩) keys.length c1)
        simp only [List.set_cons_zero, List.set_cons_succ] at hO
        generalize World.setCell _ _ _ = Z2 at hO ⊢
        replace HO := Lib.hid hO
        clear hO
        clear x0 x1 x2 x3 x4 x5 x6 x7 f0 f1 f2 f3 f4 f5 f6 f7
        obtain ⟨x0, x1, x2, x3, x4, x5, x6, x7, f0, f1, f2, f3, f4, f5, f6, f7⟩ := nd_facts (HO.out.sx.has 0 _ _ rfl).1
        have hmk : ∀ V, Below w.heap.size w V → RdS V (some ⟨g, 0, none⟩) keys.length (keys.set j low) → Lies V ⟨level, nlow, high, last, next, keys.set j low, vals, kids⟩ (some ⟨g, 0, none⟩) B C c1 cb cc := fun V hV hr =>
          { low := H00.out.low, high := H00.out.high, fit := fits_set H00.out.fit HK.out _, la := by have := H00.out.la; simp only [List.length_set] at this ⊢; exact this, lb := H00.out.lb, lc := H00.out.lc
            keys := by simp only [List.length_set]; exact hr
            vals := (H00.out.up hV).vals
            kids := (H00.out.up hV).kids
            ka := by simp only [List.length_set]; exact HO.out.rowLe 0 rfl, kb := H00.out.kb, kc := H00.out.kc }
        rw [← HTN.out] at hmk
        have HMK := Lib.hid hmk
        have hcs : ndCells tn (some ⟨g, 0, none⟩) B C c1 cb cc = #[.int .i64 level, .string nlow, .string high, .bool last, .int .i64 next, .slice (some ⟨g, 0, none⟩) keys.length c1, .slice B vals.length cb, .slice C kids.length cc] := by
          rw [HTN.out]; simp [ndCells]
        have HI3 := Lib.hid (fun W hW => HI2.out (some ⟨g, 0, none⟩) B C c1 cb cc W hW)
        rw [hcs] at HI3
        have HCS := Lib.hid hcs
        clear hmk hcs HI2
        go_wp2_with fail
        refine (HI3.out _ (HMK.out _ HO.out.below (HO.out.rowRd 0 rfl))).mono ?_
        rintro e wn2 ⟨rfl, hbn⟩
        replace HO := Lib.hid (HO.out.call hbn)
        clear hbn HI3
        clear x0 x1 x2 x3 x4 x5 x6 x7 f0 f1 f2 f3 f4 f5 f6 f7
        obtain ⟨x0, x1, x2, x3, x4, x5, x6, x7, f0, f1, f2, f3, f4, f5, f6, f7⟩ := nd_facts (HO.out.sx.has 0 _ _ rfl).1
        have hS := Lib.hid HO.out.sx
        cases ub
        · obtain rfl : o = (false, zeroN) := hno.out rfl
          obtain ⟨y0, y1, y2, y3, y4, y5, y6, y7, q0, q1, q2, q3, q4, q5, q6, q7⟩ := nd_facts (hS.out.has 1 _ _ rfl).1
          have hZ := (hS.out.store 1 rfl (.int .i64 0) (.string ⟨#[]⟩) (.string ⟨#[]⟩) (.bool false) (.int .i64 0) (.slice none 0 0) (.slice none 0 0) (.slice none 0 0)).below
          simp only [set8] at hZ
          have HZ := Lib.hid hZ
          clear hZ
          go_wp2_with fail
          exact bodyPost_ret (v := .tuple #[.agg #[.int .i64 0, .string ⟨#[]⟩, .string ⟨#[]⟩, .bool false, .int .i64 0, .slice none 0 0, .slice none 0 0, .slice none 0 0], .bool false]) (by simp [results, Try.results58, go_sem, *]) rfl ⟨none, none, none, 0, 0, 0, rfl, zero_lies _, HZ.out⟩
        · obtain rfl := hyes.out rfl
          obtain ⟨y0, y1, y2, y3, y4, y5, y6, y7, q0, q1, q2, q3, q4, q5, q6, q7⟩ := nd_facts (hS.out.has 1 _ _ rfl).1
          have hZ := HO.out.store 1 rfl (.int .i64 level) (.string nlow) (.string high) (.bool last) (.int .i64 next) (.slice (some ⟨g, 0, none⟩) keys.length c1) (.slice B vals.length cb) (.slice C kids.length cc)
          have hlies := HMK.out _ hZ.below (hZ.rowRd 0 rfl)
          have HFI := And.intro hZ.below hlies
          simp only [set8] at HFI
          replace HFI := Lib.hid HFI
          clear hZ hlies HMK
          go_wp2_with fail
          exact bodyPost_ret (v := .tuple #[.agg #[.int .i64 level, .string nlow, .string high, .bool last, .int .i64 next, .slice (some ⟨g, 0, none⟩) keys.length c1, .slice B vals.length cb, .slice C kids.length cc], .bool true]) (by simp [results, Try.results58, go_sem, *]) rfl ⟨_, _, _, _, _, _, by rw [HCS.out], HFI.out.2, HFI.out.1⟩

end Go.Proofs.Ytcoiadncennhpaa
