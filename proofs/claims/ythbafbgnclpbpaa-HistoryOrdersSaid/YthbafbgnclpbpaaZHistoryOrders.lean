/- The law HistoryOrders: the walk. -/
import Derived.Test.YthbafbgnclpbpaaHOb
import Derived.Test.YthbafbgnclpbpaaHistB
namespace Go.Proofs.Ythbafbgnclpbpaa
open Go.RowKit

theorem light39_len2 {xs : List CallD} (h : light39 xs = true) : xs.length ≤ 40 := by
  unfold light39 at h
  rw [Bool.and_eq_true, decide_eq_true_iff] at h
  exact h.2

set_option maxRecDepth 100000 in
set_option maxHeartbeats 16000000 in
theorem historyorders_no (A : Option Addr) (c : Nat) (xs : List CallD) (w : World) (h : Cls w A xs.length xs) (hx : ∀ x ∈ xs, CallOk x) (hl : xs.length ≤ 9223372036854775807) (hli : light39 xs = false) :
    Calls Try.prog 14 #[.slice A xs.length c] w (Ret (.bool true) w) := by
  have HH := Lib.hid h
  have HLi := Lib.hid (fun W hW => light39_any A c xs W hW hx hl)
  rw [hli] at HLi
  clear h hx hl hli
  go_enter Try.func14, Try.ntmps14
  go_wp2_with fail
  refine (HLi.out _ HH.out).mono ?_
  rintro e wn ⟨rfl, hbn⟩
  go_wp2_with fail
  refine (lives39_any _).mono ?_
  rintro e wn2 ⟨rfl, hbn2⟩
  go_wp2_with fail
  go_ret
  exact ⟨rfl, below_of hbn hbn2⟩

set_option maxRecDepth 100000 in
set_option maxHeartbeats 16000000 in
theorem historyorders_yes (A : Option Addr) (c : Nat) (xs : List CallD) (w : World) (h : Cls w A xs.length xs) (hx : ∀ x ∈ xs, CallOk x) (hl : xs.length ≤ 9223372036854775807) (hli : light39 xs = true) :
    Calls Try.prog 14 #[.slice A xs.length c] w (Ret (.bool true) w) := by
  have HH := Lib.hid h
  have HLi := Lib.hid (fun W hW => light39_any A c xs W hW hx hl)
  rw [hli] at HLi
  have hl40 := light39_len2 hli
  have HXO := Lib.hid (fun x hm => (hx x hm).ans.len)
  clear h hx hl hli
  go_enter Try.func14, Try.ntmps14
  go_wp2_with fail
  refine (HLi.out _ HH.out).mono ?_
  rintro e wn ⟨rfl, hbn⟩
  have hO := ((((Ow.start (Sx.start0 w)).call hbn).nil 3 1).nil 3 1).nil 93 12
  simp only [List.nil_append, List.cons_append] at hO
  have HO := Lib.hid hO
  clear hO hbn HLi
  go_wp2_with fail
  go_loopw [3, 4, 6, 7, 8, 29] (fun v3 v4 v6 _ _ i wr => ∃ (j m m2 : Nat) (A1 A2 A3 : Option Addr) (c1 c2 c3 : Nat), i = .int .i64 j ∧ v3 = .slice A1 m c1 ∧ v4 = .slice A2 m c2 ∧ v6 = .slice A3 m2 c3 ∧ Hid (j ≤ xs.length ∧ m = (plN xs j).length ∧ m2 = (askL xs j).length ∧
    Ow w.heap.size w wr [] [⟨3, 1, .slice A1 m c1, m, i64s (atL xs j)⟩, ⟨3, 1, .slice A2 m c2, m, i64s (ints (plN xs j))⟩, ⟨93, 12, .slice A3 m2 c3, m2, evRow (askL xs j)⟩])) (fun _ _ _ _ _ i _ => xs.length - (intOf i).toNat)
  case atStart => exact ⟨0, 0, 0, none, none, none, 0, 0, 0, rfl, rfl, rfl, rfl, Nat.zero_le _, rfl, rfl, HO.out⟩
  case round =>
    obtain ⟨j, m, m2, A1, A2, A3, c1, c2, c3, rfl, rfl, rfl, rfl, H⟩ := hrel
    clear HO
    by_cases hlt : j < xs.length
    · obtain ⟨b, off, _, hA, hbw, _, _⟩ := HH.out.at_ hlt
      subst hA
      have HBL := Lib.hid hbw
      have HCJ := Lib.hid (HH.out.get hlt).2.2
      have HT1 := Lib.hid (And.intro (plN_succ xs j) (And.intro (atL_succ xs j) (askL_succ hlt)))
      have HDN := Lib.hid (dnAt_at hlt)
      have hm1 : m ≤ 1000 := by have := H.out.2.1; have := plN_le xs j; omega
      have hm2 : m2 ≤ 1000 := by have := H.out.2.2.1; have := askL_le xs j; omega
      have HO := Lib.hid H.out.2.2.2
      have HM := Lib.hid (And.intro H.out.2.1 H.out.2.2.1)
      clear H hbw
      generalize xs[j] = x at HCJ HT1 HDN
      rw [show dnAt xs j = x.done from HDN.out] at HT1
      obtain ⟨x0, x1, x2, x3, x4, x5, x6, x7, x8, x9, x10, x11, x12, x13, x14⟩ := CallAt.moved HCJ.out HO.out.below HBL.out
      have hOw := HO.out.alloc (.cells (callCells x) 71)
      simp only [callCells, List.nil_append] at hOw
      go_upto_region 8 with fail
      clear x0 x1 x2 x3 x4 x5 x6 x7 x8 x9 x10 x11 x12 x13 x14
      generalize wr.alloc _ = W2 at hOw ⊢
      generalize wr.heap.size = g at hOw ⊢
      generalize (Value.agg #[.int .i64 x.thread, .int .i64 x.op.kind, .string x.op.key, .string x.op.upto, .int .u64 (x.op.val : Int), .int .i64 x.op.limit, .int .i64 x.since, .int .i64 x.done, .int .i64 x.upto, .int .i64 x.steps, .bool x.short, .int .i64 x.ans.code, .string x.ans.key, .int .u64 (x.ans.val : Int), .slice x.pa x.ans.pairs.length x.pc]) = V33
      clear HO
      have HOw := Lib.hid hOw
      clear hOw
      obtain ⟨-, -, -, -, -, -, -, x7, -, -, -, -, -, -, -⟩ := call15 (HOw.out.sx.has 0 _ _ rfl).1
      go_upto_if 36 with fail
      go_cut [3, 4] (fun s3 s4 wx => ∃ (m : Nat) (A1 A2 : Option Addr) (c1 c2 : Nat), s3 = .slice A1 m c1 ∧ s4 = .slice A2 m c2 ∧ Hid (m = (plN xs (j + 1)).length ∧
        Ow w.heap.size w wx [(g, .cells #[.int .i64 x.thread, .int .i64 x.op.kind, .string x.op.key, .string x.op.upto, .int .u64 (x.op.val : Int), .int .i64 x.op.limit, .int .i64 x.since, .int .i64 x.done, .int .i64 x.upto, .int .i64 x.steps, .bool x.short, .int .i64 x.ans.code, .string x.ans.key, .int .u64 (x.ans.val : Int), .slice x.pa x.ans.pairs.length x.pc] 71)] [⟨3, 1, .slice A1 m c1, m, i64s (atL xs (j + 1))⟩, ⟨3, 1, .slice A2 m c2, m, i64s (ints (plN xs (j + 1)))⟩, ⟨93, 12, .slice A3 m2 c3, m2, evRow (askL xs j)⟩]))
      case first =>
        obtain ⟨A4, c4, W4, hrun4, _, hO4⟩ := HOw.out.pushI 0 rfl x.done (by omega)
        simp only [List.set_cons_zero, List.set_cons_succ] at hO4
        obtain ⟨A5, c5, W5, hrun5, _, hO5⟩ := hO4.pushI 1 rfl (j : Int) (by omega)
        simp only [List.set_cons_zero, List.set_cons_succ] at hO5
        by_cases ht : (x.done != -1) = true
        · have HN := Lib.hid (And.intro (HT1.out.1.trans (by rw [if_pos ht])) (And.intro (HT1.out.2.1.trans (by rw [if_pos ht])) hO5))
          have Hrun4 := Lib.hid hrun4
          have Hrun5 := Lib.hid hrun5
          clear hO4 hO5 hrun4 hrun5 HOw
          go_wp2_with ((at_builtin; first | refine wpList_append_run rfl (.tmp 37) (.tmp 40) 90 rfl rfl rfl Hrun4.out ?_ | refine wpList_append_run rfl (.tmp 42) (.tmp 44) 90 rfl rfl rfl Hrun5.out ?_))
          go_meet
          exact ⟨m + 1, A4, A5, c4, c5, rfl, rfl, by rw [HN.out.1, List.length_append, ← HM.out.1]; rfl, by rw [HN.out.1, HN.out.2.1, ints_app]; exact HN.out.2.2⟩
        · have ht2 : (x.done != -1) = false := by simpa using ht
          have HN := Lib.hid (And.intro (HT1.out.1.trans (by rw [if_neg ht, List.append_nil])) (HT1.out.2.1.trans (by rw [if_neg ht, List.append_nil])))
          clear hO4 hO5 hrun4 hrun5 ht
          go_wp2_with fail
          go_meet
          exact ⟨m, A1, A2, c1, c2, rfl, rfl, by rw [HN.out.1]; exact HM.out.1, by rw [HN.out.1, HN.out.2]; exact HOw.out⟩
      case rest =>
        clear x7 HOw
        obtain ⟨m3, A4, A5, c4, c5, rfl, rfl, HF⟩ := hcut
        obtain ⟨x0, x1, x2, x3, x4, x5, x6, -, -, -, -, -, -, -, -⟩ := call15 (HF.out.2.sx.has 0 _ _ rfl).1
        obtain ⟨A6, c6, W6, hrun, _, hO6⟩ := HF.out.2.pushE 2 rfl (askE x) (by omega)
        simp only [List.set_cons_zero, List.set_cons_succ] at hO6
        simp only [evCells, askE] at hrun
        have HN := Lib.hid hO6.strip
        have Hrun := Lib.hid hrun
        clear hO6 hrun
        go_wp2_with (at_builtin; refine wpList_append_run rfl (.tmp 46) (.tmp 54) 91 rfl rfl rfl Hrun.out ?_)
        go_roundw
        case rel => exact ⟨j + 1, m3, m2 + 1, A4, A5, A6, c4, c5, c6, by go_num, rfl, rfl, rfl, by omega, HF.out.1, by rw [HT1.out.2.2, List.length_append, ← HM.out.2]; rfl, by rw [HT1.out.2.2]; exact HN.out⟩
        case measure => simp [intOf]; omega
    · obtain rfl : j = xs.length := by have := H.out.1; omega
      clear hlt
      have hm1 : m ≤ 40 := by have := H.out.2.1; have := plN_le xs xs.length; omega
      have HO := Lib.hid H.out.2.2.2
      have HM := Lib.hid (And.intro H.out.2.1 H.out.2.2.1)
      clear H
      go_wp2_with fail
      go_loopw [6, 10, 59] (fun v6 _ i wr => ∃ (j m2 : Nat) (A3 : Option Addr) (c3 : Nat), i = .int .i64 j ∧ v6 = .slice A3 m2 c3 ∧ Hid (j ≤ xs.length ∧ m2 = (askL xs xs.length ++ tellL xs j).length ∧
        Ow w.heap.size w wr [] [⟨3, 1, .slice A1 m c1, m, i64s (atL xs xs.length)⟩, ⟨3, 1, .slice A2 m c2, m, i64s (ints (plN xs xs.length))⟩, ⟨93, 12, .slice A3 m2 c3, m2, evRow (askL xs xs.length ++ tellL xs j)⟩])) (fun _ _ i _ => xs.length - (intOf i).toNat)
      case atStart => exact ⟨0, m2, A3, c3, rfl, rfl, Nat.zero_le _, by rw [show tellL xs 0 = [] from rfl, List.append_nil]; exact HM.out.2, by rw [show tellL xs 0 = [] from rfl, List.append_nil]; exact HO.out⟩
      case round =>
        obtain ⟨j, m4, A6, c6, rfl, rfl, H⟩ := hrel
        clear HO
        by_cases hlt : j < xs.length
        · obtain ⟨b, off, _, hA, hbw, _, _⟩ := HH.out.at_ hlt
          subst hA
          have HBL := Lib.hid hbw
          have HCJ := Lib.hid (HH.out.get hlt).2.2
          have HT2 := Lib.hid (tellL_succ hlt)
          have hm4 : m4 ≤ 1000 := by have := H.out.2.1; have := askL_le xs xs.length; have := tellL_le xs j; rw [List.length_append] at *; omega
          have HO := Lib.hid H.out.2.2
          have HM4 := Lib.hid H.out.2.1
          clear H hbw
          generalize xs[j] = x at HCJ HT2
          obtain ⟨x0, x1, x2, x3, x4, x5, x6, x7, x8, x9, x10, x11, x12, x13, x14⟩ := CallAt.moved HCJ.out HO.out.below HBL.out
          have hOw := HO.out.alloc (.cells (callCells x) 71)
          simp only [callCells, List.nil_append] at hOw
          go_upto_region 15 with fail
          clear x0 x1 x2 x3 x4 x5 x6 x7 x8 x9 x10 x11 x12 x13 x14
          generalize wr.alloc _ = W2 at hOw ⊢
          generalize wr.heap.size = g at hOw ⊢
          generalize (Value.agg #[.int .i64 x.thread, .int .i64 x.op.kind, .string x.op.key, .string x.op.upto, .int .u64 (x.op.val : Int), .int .i64 x.op.limit, .int .i64 x.since, .int .i64 x.done, .int .i64 x.upto, .int .i64 x.steps, .bool x.short, .int .i64 x.ans.code, .string x.ans.key, .int .u64 (x.ans.val : Int), .slice x.pa x.ans.pairs.length x.pc]) = V33
          clear HO
          obtain ⟨x0, x1, -, -, -, -, -, -, x8, -, -, x11, x12, x13, x14⟩ := call15 (hOw.sx.has 0 _ _ rfl).1
          obtain ⟨A7, c7, W7, hrun, _, hO7⟩ := hOw.pushE 2 rfl (tellE x) (by omega)
          simp only [List.set_cons_zero, List.set_cons_succ] at hO7
          simp only [evCells, tellE] at hrun
          by_cases ht : (x.upto != -1) = true
          · have HN := Lib.hid (And.intro (HT2.out.trans (by rw [if_pos ht])) hO7.strip)
            have Hrun := Lib.hid hrun
            clear hO7 hrun HT2 hOw
            go_wp2_with (at_builtin; refine wpList_append_run rfl (.tmp 66) (.tmp 74) 91 rfl rfl rfl Hrun.out ?_)
            go_roundw
            case rel => exact ⟨j + 1, m4 + 1, A7, c7, by go_num, rfl, by omega, by rw [HN.out.1, ← List.append_assoc, List.length_append, ← HM4.out]; rfl, by rw [HN.out.1, ← List.append_assoc]; exact HN.out.2⟩
            case measure => simp [intOf]; omega
          · have ht2 : (x.upto != -1) = false := by simpa using ht
            have HN := Lib.hid (And.intro (HT2.out.trans (by rw [if_neg ht, List.append_nil])) hOw.strip)
            clear hO7 hrun HT2 hOw ht
            go_wp2_with fail
            go_roundw
            case rel => exact ⟨j + 1, m4, A6, c6, by go_num, rfl, by omega, by rw [HN.out.1]; exact HM4.out, by rw [HN.out.1]; exact HN.out.2⟩
            case measure => simp [intOf]; omega
        · obtain rfl : j = xs.length := by have := H.out.1; omega
          clear hlt
          obtain ⟨N, hN⟩ : ∃ N, N = (evAll xs).length := ⟨_, rfl⟩
          have hmN : m4 = N := by rw [hN, H.out.2.1]; rfl
          subst hmN
          have hNl : m4 ≤ 80 := by rw [hN]; have := askL_le xs xs.length; have := tellL_le xs xs.length; unfold evAll; rw [List.length_append]; omega
          have HNN := Lib.hid hN
          have hO := (show Ow w.heap.size w wr [] [⟨3, 1, .slice A1 m c1, m, i64s (atL xs xs.length)⟩, ⟨3, 1, .slice A2 m c2, m, i64s (ints (plN xs xs.length))⟩, ⟨93, 12, .slice A6 m4 c6, m4, evRow (evAll xs)⟩] from H.out.2.2).nil 3 1
          simp only [List.nil_append, List.cons_append] at hO
          have HO := Lib.hid hO
          clear H hO hN
          go_wp2_with fail
          go_loopw [5, 12, 79] (fun v5 _ i wr => ∃ (j : Nat) (A8 : Option Addr) (c8 : Nat), i = .int .i64 j ∧ v5 = .slice A8 j c8 ∧ Hid (j ≤ m4 ∧
            Ow w.heap.size w wr [] [⟨3, 1, .slice A1 m c1, m, i64s (atL xs xs.length)⟩, ⟨3, 1, .slice A2 m c2, m, i64s (ints (plN xs xs.length))⟩, ⟨93, 12, .slice A6 m4 c6, m4, evRow (evAll xs)⟩, ⟨3, 1, .slice A8 j c8, j, i64s (stepL ((evAll xs).take j))⟩])) (fun _ _ i _ => m4 - (intOf i).toNat)
          case atStart => exact ⟨0, none, 0, rfl, rfl, Nat.zero_le _, HO.out⟩
          case round =>
            obtain ⟨j, A8, c8, rfl, rfl, H⟩ := hrel
            clear HO
            by_cases hlt : j < m4
            · have hje : j < (evAll xs).length := by rw [← HNN.out]; exact hlt
              have HO := Lib.hid H.out.2
              have HT3 := Lib.hid (stepL_succ hje)
              obtain ⟨eb, eo, hA6, hel, hec⟩ := (RdE.of_own (HO.out.own 2 _ rfl)).spot (by omega)
              subst hA6
              have hev := hec j hje
              clear H hec
              generalize (evAll xs)[j] = x at hev HT3
              have y0 := hev 0 _ rfl
              have y1 := hev 1 _ rfl
              have y2 := hev 2 _ rfl
              have y3 := hev 3 _ rfl
              have y4 := hev 4 _ rfl
              have y5 := hev 5 _ rfl
              have y6 := hev 6 _ rfl
              have y7 := hev 7 _ rfl
              have y8 := hev 8 _ rfl
              have y9 := hev 9 _ rfl
              have y10 := hev 10 _ rfl
              have y11 := hev 11 _ rfl
              clear hev
              rw [Nat.add_zero] at y0
              have hOw := HO.out.call (below_alloc wr (.cells (evCells x).toArray 93))
              have hn := EvAt.new wr x 93 0 _ rfl
              simp only [evCells] at hOw hn
              go_upto_region 21 with fail
              clear y0 y1 y2 y3 y4 y5 y6 y7 y8 y9 y10 y11 HO
              generalize wr.alloc _ = W2 at hOw hn ⊢
              generalize wr.heap.size = g at hn ⊢
              rw [Nat.add_zero] at hn
              obtain ⟨A9, c9, W9, hrun, _, hO9⟩ := hOw.pushI 3 rfl x.step (by omega)
              simp only [List.set_cons_zero, List.set_cons_succ] at hO9
              have HN := Lib.hid hO9
              have Hrun := Lib.hid hrun
              clear hO9 hrun hOw
              go_wp2_with (at_builtin; refine wpList_append_run rfl (.tmp 83) (.tmp 86) 90 rfl rfl rfl Hrun.out ?_)
              go_roundw
              case rel => exact ⟨j + 1, A9, c9, by go_num, rfl, by omega, by rw [HT3.out]; exact HN.out⟩
              case measure => simp [intOf]; omega
            · obtain rfl : j = m4 := by have := H.out.1; omega
              clear hlt
              have HO := Lib.hid (show Ow w.heap.size w wr [] [⟨3, 1, .slice A1 m c1, m, i64s (atL xs xs.length)⟩, ⟨3, 1, .slice A2 m c2, m, i64s (ints (plN xs xs.length))⟩, ⟨93, 12, .slice A6 j c6, j, evRow (evAll xs)⟩, ⟨3, 1, .slice A8 j c8, j, i64s (stepL (evAll xs))⟩] by
                have := H.out.2
                rw [List.take_of_length_le (Nat.le_of_eq HNN.out.symm)] at this
                exact this)
              clear H
              go_wp2_with fail
              refine (order_any A c xs _ (HH.out.up HO.out.below) (by omega)).mono ?_
              rintro e w2 ⟨Ao, co, p, rfl, hro, hpp, hps, hb2⟩
              rw [← HM.out.1] at hro hpp hps ⊢
              have HO2 := Lib.hid (HO.out.call hb2)
              have HRO := Lib.hid hro
              have HPP := Lib.hid (And.intro hpp hps)
              clear hro hb2 hpp hps HO
              go_wp2_with fail
              refine (events_any A c xs _ (HH.out.up HO2.out.below) (by omega)).mono ?_
              rintro e w3 ⟨Ae, ce, q, rfl, hre, hpp, hps, hb3⟩
              rw [← HNN.out] at hre hpp hps ⊢
              have HO3 := Lib.hid (HO2.out.call hb3)
              replace HRO := Lib.hid (HRO.out.up hb3)
              have HRE := Lib.hid hre
              have HQQ := Lib.hid (And.intro hpp hps)
              clear hre hb3 hpp hps HO2
              go_wp2_with fail
              refine (reforder_any A1 m c1 (atL xs xs.length) p _ (HO3.out.rdI 0 rfl) (by omega) HPP.out.1 (HPP.out.2.key HPP.out.1 (fun x hx => (atL_get xs x (by rw [← HM.out.1]; exact hx)).symm))).mono ?_
              rintro e w4 ⟨Aw, cw, rfl, hrw, hb4⟩
              have HO4 := Lib.hid (HO3.out.call hb4)
              replace HRO := Lib.hid (HRO.out.up hb4)
              replace HRE := Lib.hid (HRE.out.up hb4)
              have HRW := Lib.hid hrw
              clear hrw hb4 HO3
              go_wp2_with fail
              refine (reforder_any A8 j c8 (stepL (evAll xs)) q _ (HO4.out.rdI 3 rfl) (by omega) HQQ.out.1 (HQQ.out.2.key HQQ.out.1 (fun x hx => (stepL_get (by rw [← HNN.out]; exact hx)).symm))).mono ?_
              rintro e w5 ⟨Av, cv, rfl, hrv, hb5⟩
              have HO5 := Lib.hid (HO4.out.call hb5)
              replace HRO := Lib.hid (HRO.out.up hb5)
              replace HRE := Lib.hid (HRE.out.up hb5)
              replace HRW := Lib.hid (HRW.out.up hb5)
              have HRV := Lib.hid hrv
              have HRP := Lib.hid (HO5.out.rdI 1 rfl)
              have HRA := Lib.hid (show RdE w5 A6 j (evAll xs) from RdE.of_own (HO5.out.own 2 _ rfl))
              have HBE := Lib.hid HO5.out.below
              clear hrv hb5 HO4 HO5
              go_wp2_with fail
              go_loopw [17, 18, 111] (fun _ _ i wr => ∃ k : Nat, i = .int .i64 k ∧ Hid (k ≤ m ∧ Below w5.heap.size w5 wr)) (fun _ _ i _ => m - (intOf i).toNat)
              case atStart => exact ⟨0, rfl, Nat.zero_le _, Below.refl _ _⟩
              case round =>
                obtain ⟨k, rfl, H⟩ := hrel
                by_cases hlt : k < m
                · have hpk : p k < m := permOn_id_lt HPP.out.1 k hlt
                  obtain ⟨ob, oo, hAo, hol, hoc⟩ := HRO.out.spot (by omega)
                  obtain ⟨wb, wo, hAw, hwl, hwc⟩ := HRW.out.spot (by omega)
                  obtain ⟨pb, po, hAp, hpl, hpc⟩ := HRP.out.spot (by omega)
                  subst hAo
                  subst hAw
                  subst hAp
                  have z1 := hoc k (by rw [tab_length]; exact hlt)
                  rw [tab_elem] at z1
                  have z2 := hwc k (by rw [tab_length]; exact hlt)
                  rw [tab_elem] at z2
                  have z3 := hpc (p k) (by rw [ints_length, ← HM.out.1]; exact hpk)
                  have e3 := plAt_get (xs := xs) (x := p k) (by rw [← HM.out.1]; exact hpk)
                  rw [List.getElem?_eq_getElem (by rw [ints_length, ← HM.out.1]; exact hpk)] at e3
                  injection e3 with e3
                  rw [e3] at z3
                  have y2 := (H.out.2.cell (p := ⟨wb, wo + k, none⟩) hwl).trans z2
                  have HZ := Lib.hid (And.intro (And.intro hol z1) (And.intro hpl z3))
                  clear z1 z2 z3 e3 hoc hwc hpc hol hwl hpl
                  generalize plAt xs (p k) = pk at HZ
                  generalize p k = kk at y2 hpk HZ
                  go_upto_region 30 with fail
                  clear y2
                  generalize wr = W at H ⊢
                  refine wp_region_held_drew (S := fun w' => Below W.heap.size W w') (by kernel_rfl) (Below.drew (Below.refl _ _)) (fun hcur => ?_)
                  replace hcur : Below W.heap.size W W.drew := hcur
                  refine wpAnyH_take (i := 0) (v := ?_) rfl (by decide +kernel) (by decide +kernel) (by decide +kernel) (fun _ _ _ h => h) (Or.inl ⟨by rfl, ?hy⟩) hcur ?_
                  case hy =>
                    intro w1 hSw
                    go_simp
                    (try with_reducible rfl)
                  (try simp only [Act.put, List.getElem_toArray, List.getElem_cons_zero, List.getElem_cons_succ, List.setIfInBounds_toArray, List.set_cons_zero, List.set_cons_succ])
                  refine wpAnyH_take (i := 1) (v := ?_) rfl (by decide +kernel) (by decide +kernel) (by decide +kernel) (fun _ _ _ h => h) (Or.inl ⟨by rfl, ?hy⟩) hcur ?_
                  case hy =>
                    intro w1 hSw
                    go_simp
                    (try with_reducible rfl)
                  (try simp only [Act.put, List.getElem_toArray, List.getElem_cons_zero, List.getElem_cons_succ, List.setIfInBounds_toArray, List.set_cons_zero, List.set_cons_succ])
                  refine wpAnyH_take (i := 2) (v := ?_) rfl (by decide +kernel) (by decide +kernel) (by decide +kernel) (fun _ _ _ h => h) (Or.inl ⟨by rfl, ?hy⟩) hcur ?_
                  case hy =>
                    intro w1 hSw
                    go_simp
                    (try with_reducible rfl)
                  (try simp only [Act.put, List.getElem_toArray, List.getElem_cons_zero, List.getElem_cons_succ, List.setIfInBounds_toArray, List.set_cons_zero, List.set_cons_succ])
                  refine wpAnyH_take (i := 3) (v := ?_) rfl (by decide +kernel) (by decide +kernel) (by decide +kernel) (fun _ _ _ h => h) (Or.inl ⟨by rfl, ?hy⟩) hcur ?_
                  case hy =>
                    intro w1 hSw
                    replace hSw : Below W.heap.size W w1 := hSw
                    have x1 := ((below_of H.out.2 hSw).cell (p := ⟨ob, oo + k, none⟩) HZ.out.1.1).trans HZ.out.1.2
                    have x3 := ((below_of H.out.2 hSw).cell (p := ⟨pb, po + kk, none⟩) HZ.out.2.1).trans HZ.out.2.2
                    go_simp
                    (try with_reducible rfl)
                  (try simp only [Act.put, List.getElem_toArray, List.getElem_cons_zero, List.getElem_cons_succ, List.setIfInBounds_toArray, List.set_cons_zero, List.set_cons_succ])
                  refine wpAnyH_take (i := 4) (v := ?_) rfl (by decide +kernel) (by decide +kernel) (by decide +kernel) (fun _ _ _ h => h) (Or.inl ⟨by rfl, ?hy⟩) hcur ?_
                  case hy =>
                    intro w1 hSw
                    go_simp
                    (try with_reducible rfl)
                  (try simp only [Act.put, List.getElem_toArray, List.getElem_cons_zero, List.getElem_cons_succ, List.setIfInBounds_toArray, List.set_cons_zero, List.set_cons_succ])
                  refine wpAnyH_take (i := 5) (v := ?_) rfl (by decide +kernel) (by decide +kernel) (by decide +kernel) (fun _ _ _ h => h) (Or.inl ⟨by rfl, ?hy⟩) hcur ?_
                  case hy =>
                    intro w1 hSw
                    go_simp
                    (try with_reducible rfl)
                  (try simp only [Act.put, List.getElem_toArray, List.getElem_cons_zero, List.getElem_cons_succ, List.setIfInBounds_toArray, List.set_cons_zero, List.set_cons_succ])
                  refine wpAnyH_take (i := 6) (v := ?_) rfl (by decide +kernel) (by decide +kernel) (by decide +kernel) (fun _ _ _ h => h) (Or.inl ⟨by rfl, ?hy⟩) hcur ?_
                  case hy =>
                    intro w1 hSw
                    go_simp
                    (try with_reducible rfl)
                  (try simp only [Act.put, List.getElem_toArray, List.getElem_cons_zero, List.getElem_cons_succ, List.setIfInBounds_toArray, List.set_cons_zero, List.set_cons_succ])
                  refine wpAnyH_take (i := 7) (v := ?_) rfl (by decide +kernel) (by decide +kernel) (by decide +kernel) (fun _ _ _ h => h) (Or.inl ⟨by rfl, ?hy⟩) hcur ?_
                  case hy =>
                    intro w1 hSw
                    replace hSw : Below W.heap.size W w1 := hSw
                    have x1 := ((below_of H.out.2 hSw).cell (p := ⟨ob, oo + k, none⟩) HZ.out.1.1).trans HZ.out.1.2
                    have x3 := ((below_of H.out.2 hSw).cell (p := ⟨pb, po + kk, none⟩) HZ.out.2.1).trans HZ.out.2.2
                    go_simp
                    (try with_reducible rfl)
                  (try simp only [Act.put, List.getElem_toArray, List.getElem_cons_zero, List.getElem_cons_succ, List.setIfInBounds_toArray, List.set_cons_zero, List.set_cons_succ])
                  refine wpAnyH_take (i := 8) (v := ?_) rfl (by decide +kernel) (by decide +kernel) (by decide +kernel) (fun _ _ _ h => h) (Or.inl ⟨by rfl, ?hy⟩) hcur ?_
                  case hy =>
                    intro w1 hSw
                    go_simp
                    (try with_reducible rfl)
                  (try simp only [Act.put, List.getElem_toArray, List.getElem_cons_zero, List.getElem_cons_succ, List.setIfInBounds_toArray, List.set_cons_zero, List.set_cons_succ])
                  refine wpAnyH_done (by decide +kernel) ?_ _
                  have HB := Lib.hid (below_of H.out.2 hcur)
                  clear hcur
                  go_wp2_with fail
                  go_roundw
                  case rel => exact ⟨k + 1, by go_num, by omega, HB.out⟩
                  case measure => simp [intOf]; omega
                · obtain rfl : k = m := by have := H.out.1; omega
                  have HB6 := Lib.hid H.out.2
                  clear H
                  go_wp2_with fail
                  go_loopw [19, 20, 21, 22, 128] (fun _ _ _ _ i wr => ∃ t : Nat, i = .int .i64 t ∧ Hid (t ≤ j ∧ Below w5.heap.size w5 wr)) (fun _ _ _ _ i _ => j - (intOf i).toNat)
                  case atStart => exact ⟨0, rfl, Nat.zero_le _, HB6.out⟩
                  case round =>
                    obtain ⟨t, rfl, H⟩ := hrel
                    clear HB6
                    by_cases hlt2 : t < j
                    · have hqt : q t < j := permOn_id_lt HQQ.out.1 t hlt2
                      obtain ⟨eb, eo, hAe, hel, hec⟩ := HRE.out.spot (by omega)
                      obtain ⟨vb, vo, hAv, hvl, hvc⟩ := HRV.out.spot (by omega)
                      obtain ⟨ab, ao, hAa, hal, hac⟩ := HRA.out.spot (by omega)
                      subst hAe
                      subst hAv
                      subst hAa
                      have hqe : q t < (evAll xs).length := by rw [← HNN.out]; exact hqt
                      have z1 := hec t (by rw [tab_length]; exact hlt2)
                      rw [tab_elem] at z1
                      have z2 := hvc t (by rw [tab_length]; exact hlt2)
                      rw [tab_elem] at z2
                      have z3 := hac (q t) hqe
                      rw [evX_at hqe] at z3
                      have y2 := (H.out.2.cell (p := ⟨vb, vo + t, none⟩) hvl).trans z2
                      have HPR := Lib.hid (ev_pairs (HH.out.up HBE.out).2.1 HXO.out hqe)
                      have HZ := Lib.hid (And.intro (And.intro hel z1) (And.intro hal z3))
                      clear z1 z2 z3 hec hvc hac hel hvl hal hqe
                      generalize evX xs (q t) = x at HZ HPR
                      generalize q t = kk at y2 hqt HZ
                      go_upto_region 36 with fail
                      clear y2
                      generalize wr = W at H ⊢
                      apply cut_after3 (R := fun W2 a b => Below W.heap.size W W2 ∧ EvAt W2 a 0 x ∧ EvAt W2 b 0 x ∧ a < W2.heap.size ∧ b < W2.heap.size)
                      case main =>
                        intro HG
                        refine wp_region_held_drew (S := fun w' => Below W.heap.size W w') (by kernel_rfl) (Below.drew (Below.refl _ _)) (fun hcur => ?_)
                        replace hcur : Below W.heap.size W W.drew := hcur
                        refine wpAnyH_take (i := 0) (v := ?_) rfl (by decide +kernel) (by decide +kernel) (by decide +kernel) (fun _ _ _ h => h) (Or.inl ⟨by rfl, ?hy⟩) hcur ?_
                        case hy =>
                          intro w1 hSw
                          go_simp
                          (try with_reducible rfl)
                        (try simp only [Act.put, List.getElem_toArray, List.getElem_cons_zero, List.getElem_cons_succ, List.setIfInBounds_toArray, List.set_cons_zero, List.set_cons_succ])
                        refine wpAnyH_take (i := 1) (v := ?_) rfl (by decide +kernel) (by decide +kernel) (by decide +kernel) (fun _ _ _ h => h) (Or.inl ⟨by rfl, ?hy⟩) hcur ?_
                        case hy =>
                          intro w1 hSw
                          go_simp
                          (try with_reducible rfl)
                        (try simp only [Act.put, List.getElem_toArray, List.getElem_cons_zero, List.getElem_cons_succ, List.setIfInBounds_toArray, List.set_cons_zero, List.set_cons_succ])
                        refine wpAnyH_take (i := 2) (v := ?_) rfl (by decide +kernel) (by decide +kernel) (by decide +kernel) (fun _ _ _ h => h) (Or.inl ⟨by rfl, ?hy⟩) hcur ?_
                        case hy =>
                          intro w1 hSw
                          go_simp
                          (try with_reducible rfl)
                        (try simp only [Act.put, List.getElem_toArray, List.getElem_cons_zero, List.getElem_cons_succ, List.setIfInBounds_toArray, List.set_cons_zero, List.set_cons_succ])
                        refine wpAnyH_take (i := 3) (v := .agg (evCells x).toArray) rfl (by decide +kernel) (by decide +kernel) (by decide +kernel) (fun _ _ _ h => h) (Or.inl ⟨by rfl, ?hy⟩) hcur ?_
                        case hy =>
                          intro w1 hSw
                          replace hSw : Below W.heap.size W w1 := hSw
                          exact exec_loadV (fun k v hk => (((below_of H.out.2 hSw).cell (p := ⟨_, _, none⟩) HZ.out.1.1)).trans (HZ.out.1.2 k v hk)) rfl rfl (by omega)
                        (try simp only [Act.put, List.getElem_toArray, List.getElem_cons_zero, List.getElem_cons_succ, List.setIfInBounds_toArray, List.set_cons_zero, List.set_cons_succ])
                        refine wpAnyH_take (i := 4) (v := ?_) rfl (by decide +kernel) (by decide +kernel) (by decide +kernel) (fun _ _ _ h => h) (Or.inl ⟨by rfl, ?hy⟩) hcur ?_
                        case hy =>
                          intro w1 hSw
                          go_simp
                          (try with_reducible rfl)
                        (try simp only [Act.put, List.getElem_toArray, List.getElem_cons_zero, List.getElem_cons_succ, List.setIfInBounds_toArray, List.set_cons_zero, List.set_cons_succ])
                        refine wpAnyH_take (i := 5) (v := ?_) rfl (by decide +kernel) (by decide +kernel) (by decide +kernel) (fun _ _ _ h => h) (Or.inl ⟨by rfl, ?hy⟩) hcur ?_
                        case hy =>
                          intro w1 hSw
                          go_simp
                          (try with_reducible rfl)
                        (try simp only [Act.put, List.getElem_toArray, List.getElem_cons_zero, List.getElem_cons_succ, List.setIfInBounds_toArray, List.set_cons_zero, List.set_cons_succ])
                        refine wpAnyH_take (i := 6) (v := ?_) rfl (by decide +kernel) (by decide +kernel) (by decide +kernel) (fun _ _ _ h => h) (Or.inl ⟨by rfl, ?hy⟩) hcur ?_
                        case hy =>
                          intro w1 hSw
                          go_simp
                          (try with_reducible rfl)
                        (try simp only [Act.put, List.getElem_toArray, List.getElem_cons_zero, List.getElem_cons_succ, List.setIfInBounds_toArray, List.set_cons_zero, List.set_cons_succ])
                        refine wpAnyH_take (i := 7) (v := .agg (evCells x).toArray) rfl (by decide +kernel) (by decide +kernel) (by decide +kernel) (fun _ _ _ h => h) (Or.inl ⟨by rfl, ?hy⟩) hcur ?_
                        case hy =>
                          intro w1 hSw
                          replace hSw : Below W.heap.size W w1 := hSw
                          exact exec_loadV (fun k v hk => (((below_of H.out.2 hSw).cell (p := ⟨_, _, none⟩) HZ.out.2.1)).trans (HZ.out.2.2 k v hk)) rfl rfl (by omega)
                        (try simp only [Act.put, List.getElem_toArray, List.getElem_cons_zero, List.getElem_cons_succ, List.setIfInBounds_toArray, List.set_cons_zero, List.set_cons_succ])
                        generalize W.drew = X at hcur ⊢
                        refine wpAnyH_ready (rs := [8, 9]) (by decide +kernel) (by simp) ?_
                        have hWX := hcur.size
                        have HB9 := Lib.hid (below_of H.out.2 hcur)
                        refine AllReadyH.cons rfl (fun K hK => ?_) (AllReadyH.cons rfl (fun K hK => ?_) AllReadyH.nil)
                        · go_simp
                          refine hK.out _ _ (below_of hcur (below_alloc _ _)) (fun hcur2 => ?_)
                          clear hK K
                          replace hcur := hcur2
                          clear hcur2
                          (try simp only [Act.put, List.getElem_toArray, List.getElem_cons_zero, List.getElem_cons_succ, List.setIfInBounds_toArray, List.set_cons_zero, List.set_cons_succ])
                          refine wpAnyH_ready (rs := [9]) (by decide +kernel) (by simp) ?_
                          refine AllReadyH.cons rfl (fun K hK => ?_) AllReadyH.nil
                          go_simp
                          refine hK.out _ _ (below_of hcur (below_alloc _ _)) (fun hcur2 => ?_)
                          clear hK K
                          replace hcur := hcur2
                          clear hcur2
                          (try simp only [Act.put, List.getElem_toArray, List.getElem_cons_zero, List.getElem_cons_succ, List.setIfInBounds_toArray, List.set_cons_zero, List.set_cons_succ])
                          have hpp := ev_pair X (.cells (evCells evZ).toArray 93) (.cells (evCells evZ).toArray 93)
                          rw [ev_zero] at hpp
                          generalize (X.alloc _).alloc _ = Y at hpp hcur ⊢
                          obtain ⟨ga, hga⟩ : ∃ ga, ga = X.heap.size := ⟨_, rfl⟩
                          rw [← hga] at hpp hWX ⊢
                          obtain ⟨gb, hgb⟩ : ∃ gb, gb = ga + 1 := ⟨_, rfl⟩
                          rw [← hgb] at hpp ⊢
                          have hgt : ga < gb := by omega
                          have hgW : W.heap.size ≤ ga := by omega
                          have HP := Lib.hid hpp
                          have HS3 := Lib.hid (show ga < Y.heap.size ∧ gb < Y.heap.size by rw [hpp.2.2]; omega)
                          have hcur0 : Below W.heap.size W Y := hcur
                          clear hpp hga hgb hWX
                          have hF := And.intro (ev_put (x := x) (z := evZ) hcur0 hcur0.size (by omega) HP.out.1) (ev_second (vs := evCells x) HP.out.2.1 (show gb ≠ ga by omega))
                          refine wpAnyH_ready (rs := [10]) (by decide +kernel) (by simp) ?_
                          refine AllReadyH.cons rfl (fun K hK => ?_) AllReadyH.nil
                          rw [if_pos (by rfl)]
                          refine oper_skip (exec_storeV (z := evZ) (x := x) (HP.out.1) rfl rfl rfl) ?_
                          refine hK.out _ _ (ev_one hcur hcur.size (by omega)) (fun hcur2 => ?_)
                          clear hK K
                          replace hcur := hcur2
                          clear hcur2
                          (try simp only [Act.put, List.getElem_toArray, List.getElem_cons_zero, List.getElem_cons_succ, List.setIfInBounds_toArray, List.set_cons_zero, List.set_cons_succ])
                          generalize setL _ _ _ _ = Y2 at hF hcur ⊢
                          have hF2 := And.intro (ev_put (x := x) (z := evZ) hcur hcur.size (show W.heap.size ≤ gb by omega) hF.2) (ev_second (vs := evCells x) hF.1.2 (show ga ≠ gb by omega))
                          refine wpAnyH_ready (rs := [11]) (by decide +kernel) (by simp) ?_
                          refine AllReadyH.cons rfl (fun K hK => ?_) AllReadyH.nil
                          rw [if_pos (by rfl)]
                          refine oper_skip (exec_storeV (z := evZ) (x := x) (hF.2) rfl rfl rfl) ?_
                          refine hK.out _ _ (ev_one hcur hcur.size (by omega)) (fun hcur2 => ?_)
                          clear hK K
                          replace hcur := hcur2
                          clear hcur2
                          (try simp only [Act.put, List.getElem_toArray, List.getElem_cons_zero, List.getElem_cons_succ, List.setIfInBounds_toArray, List.set_cons_zero, List.set_cons_succ])
                          generalize setL _ _ _ _ = Y3 at hF2 hcur ⊢
                          have hG1 := EvAt.of_heap hF2.2
                          have hG2 := EvAt.of_heap hF2.1.2
                          refine wpAnyH_done (by decide +kernel) ?_ _
                          exact HG _ _ _ ⟨hcur, hG1.1, hG2.1, hG1.2, hG2.2⟩
                        · go_simp
                          refine hK.out _ _ (below_of hcur (below_alloc _ _)) (fun hcur2 => ?_)
                          clear hK K
                          replace hcur := hcur2
                          clear hcur2
                          (try simp only [Act.put, List.getElem_toArray, List.getElem_cons_zero, List.getElem_cons_succ, List.setIfInBounds_toArray, List.set_cons_zero, List.set_cons_succ])
                          refine wpAnyH_ready (rs := [8]) (by decide +kernel) (by simp) ?_
                          refine AllReadyH.cons rfl (fun K hK => ?_) AllReadyH.nil
                          go_simp
                          refine hK.out _ _ (below_of hcur (below_alloc _ _)) (fun hcur2 => ?_)
                          clear hK K
                          replace hcur := hcur2
                          clear hcur2
                          (try simp only [Act.put, List.getElem_toArray, List.getElem_cons_zero, List.getElem_cons_succ, List.setIfInBounds_toArray, List.set_cons_zero, List.set_cons_succ])
                          have hpp := ev_pair X (.cells (evCells evZ).toArray 93) (.cells (evCells evZ).toArray 93)
                          rw [ev_zero] at hpp
                          generalize (X.alloc _).alloc _ = Y at hpp hcur ⊢
                          obtain ⟨ga, hga⟩ : ∃ ga, ga = X.heap.size := ⟨_, rfl⟩
                          rw [← hga] at hpp hWX ⊢
                          obtain ⟨gb, hgb⟩ : ∃ gb, gb = ga + 1 := ⟨_, rfl⟩
                          rw [← hgb] at hpp ⊢
                          have hgt : ga < gb := by omega
                          have hgW : W.heap.size ≤ ga := by omega
                          have HP := Lib.hid hpp
                          have HS3 := Lib.hid (show ga < Y.heap.size ∧ gb < Y.heap.size by rw [hpp.2.2]; omega)
                          have hcur0 : Below W.heap.size W Y := hcur
                          clear hpp hga hgb hWX
                          have hF := And.intro (ev_put (x := x) (z := evZ) hcur0 hcur0.size (by omega) HP.out.2.1) (ev_second (vs := evCells x) HP.out.1 (show ga ≠ gb by omega))
                          refine wpAnyH_ready (rs := [10]) (by decide +kernel) (by simp) ?_
                          refine AllReadyH.cons rfl (fun K hK => ?_) AllReadyH.nil
                          rw [if_pos (by rfl)]
                          refine oper_skip (exec_storeV (z := evZ) (x := x) (HP.out.2.1) rfl rfl rfl) ?_
                          refine hK.out _ _ (ev_one hcur hcur.size (by omega)) (fun hcur2 => ?_)
                          clear hK K
                          replace hcur := hcur2
                          clear hcur2
                          (try simp only [Act.put, List.getElem_toArray, List.getElem_cons_zero, List.getElem_cons_succ, List.setIfInBounds_toArray, List.set_cons_zero, List.set_cons_succ])
                          generalize setL _ _ _ _ = Y2 at hF hcur ⊢
                          have hF2 := And.intro (ev_put (x := x) (z := evZ) hcur hcur.size (show W.heap.size ≤ ga by omega) hF.2) (ev_second (vs := evCells x) hF.1.2 (show gb ≠ ga by omega))
                          refine wpAnyH_ready (rs := [11]) (by decide +kernel) (by simp) ?_
                          refine AllReadyH.cons rfl (fun K hK => ?_) AllReadyH.nil
                          rw [if_pos (by rfl)]
                          refine oper_skip (exec_storeV (z := evZ) (x := x) (hF.2) rfl rfl rfl) ?_
                          refine hK.out _ _ (ev_one hcur hcur.size (by omega)) (fun hcur2 => ?_)
                          clear hK K
                          replace hcur := hcur2
                          clear hcur2
                          (try simp only [Act.put, List.getElem_toArray, List.getElem_cons_zero, List.getElem_cons_succ, List.setIfInBounds_toArray, List.set_cons_zero, List.set_cons_succ])
                          generalize setL _ _ _ _ = Y3 at hF2 hcur ⊢
                          have hG1 := EvAt.of_heap hF2.2
                          have hG2 := EvAt.of_heap hF2.1.2
                          refine wpAnyH_done (by decide +kernel) ?_ _
                          exact HG _ _ _ ⟨hcur, hG1.1, hG2.1, hG1.2, hG2.2⟩
                      case tail =>
                        intro W2 ga gb hr
                        have HB7 := Lib.hid (below_of H.out.2 hr.1)
                        obtain ⟨a, ea1, ea2, ea3, ea4, ea5, ea6⟩ := HPR.out
                        have z0 := hr.2.1 0 _ rfl
                        have z1 := hr.2.1 1 _ rfl
                        have z2 := hr.2.1 2 _ rfl
                        have z3 := hr.2.1 3 _ rfl
                        have z4 := hr.2.1 4 _ rfl
                        have z5 := hr.2.1 5 _ rfl
                        have z6 := hr.2.1 6 _ rfl
                        have z7 := hr.2.1 7 _ rfl
                        have z8 := hr.2.1 8 _ rfl
                        have z9 := hr.2.1 9 _ rfl
                        have z10 := hr.2.1 10 _ rfl
                        have z11 := hr.2.1 11 _ rfl
                        have y0 := hr.2.2.1 0 _ rfl
                        have y1 := hr.2.2.1 1 _ rfl
                        have y2 := hr.2.2.1 2 _ rfl
                        have y3 := hr.2.2.1 3 _ rfl
                        have y4 := hr.2.2.1 4 _ rfl
                        have y5 := hr.2.2.1 5 _ rfl
                        have y6 := hr.2.2.1 6 _ rfl
                        have y7 := hr.2.2.1 7 _ rfl
                        have y8 := hr.2.2.1 8 _ rfl
                        have y9 := hr.2.2.1 9 _ rfl
                        have y10 := hr.2.2.1 10 _ rfl
                        have y11 := hr.2.2.1 11 _ rfl
                        clear hr HZ
                        simp only [Nat.zero_add] at z0 z1 z2 z3 z4 z5 z6 z7 z8 z9 z10 z11 y0 y1 y2 y3 y4 y5 y6 y7 y8 y9 y10 y11
                        obtain ⟨xs0, xs1, xs2, xs3, xs4, xs5, xs6, xs7, xs8, xs9, xs10, xs11, xs12, xs13⟩ := x
                        simp only [] at ea1 ea2 ea3 ea4 ea5 z0 z1 z2 z3 z4 z5 z6 z7 z8 z9 z10 z11 y0 y1 y2 y3 y4 y5 y6 y7 y8 y9 y10 y11
                        subst ea1
                        subst ea2
                        subst ea3
                        subst ea4
                        have HPP2 := Lib.hid (And.intro (ea5.up HB7.out) ea6)
                        clear ea5 ea6
                        have HAB := Lib.hid (show ansB a a = true by simp [ansB])
                        go_wp2_with fail
                        refine (refsame17_any a a _ _ _ _ _ HPP2.out.1 HPP2.out.1 HPP2.out.2).mono ?_
                        rintro e w7 ⟨rfl, hb7⟩
                        rw [HAB.out]
                        clear z0 z1 z2 z3 z4 z5 z6 z7 z8 z9 z10 z11 y0 y1 y2 y3 y4 y5 y6 y7 y8 y9 y10 y11
                        have HB8 := Lib.hid (below_of HB7.out hb7)
                        clear hb7
                        go_wp2_with fail
                        go_roundw
                        case rel => exact ⟨t + 1, by go_num, hlt2, HB8.out⟩
                        case measure => simp [intOf]; omega
                    · obtain rfl : t = j := by have := H.out.1; omega
                      have HB7 := Lib.hid (below_of HBE.out H.out.2)
                      clear H
                      go_wp2_with fail
                      refine (lives39_any _).mono ?_
                      rintro e w7 ⟨rfl, hb⟩
                      go_wp2_with fail
                      go_ret
                      exact ⟨rfl, below_of HB7.out hb⟩

theorem historyorders_row (A : Option Addr) (c : Nat) (xs : List CallD) (w : World) (h : Cls w A xs.length xs) (hx : ∀ x ∈ xs, CallOk x) (_ : xs.length ≤ c) (hl : xs.length ≤ 9223372036854775807) :
    Calls Try.prog 14 #[.slice A xs.length c] w (Ret (.bool true) w) := by
  cases hli : light39 xs
  · exact historyorders_no A c xs w h hx hl hli
  · exact historyorders_yes A c xs w h hx hl hli

end Go.Proofs.Ythbafbgnclpbpaa
