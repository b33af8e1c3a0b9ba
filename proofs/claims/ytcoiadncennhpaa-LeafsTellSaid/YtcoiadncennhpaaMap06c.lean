/- Contracts of bowerref06: All, Scan. -/
import Derived.Test.YtcoiadncennhpaaMap06b
namespace Go.Proofs.Ytcoiadncennhpaa
open Go.RowKit

def lenOf : Value → Nat
  | .slice _ n _ => n
  | _ => 0
theorem allS_zero_none {m : List PairD} (h : Pl.gotM m ⟨#[]⟩ = none) : Pl.allS m [] = (Pl.nextM m []).getD Pl.zeroP := by unfold Pl.allS; rw [h]; rfl
theorem allS_zero_some {m : List PairD} {q : PairD} (h : Pl.gotM m ⟨#[]⟩ = some q) : Pl.allS m [] = ⟨⟨#[]⟩, q.val⟩ := by unfold Pl.allS; rw [h]
theorem allS_cons {m out : List PairD} (h : out ≠ []) : Pl.allS m out = (Pl.nextM m (Pl.allK out).data.toList).getD Pl.zeroP := by
  unfold Pl.allS
  cases out with
  | nil => exact absurd rfl h
  | cons a t => rfl
theorem allK_last {out : List PairD} {q : Nat} (h : q + 1 = out.length) : Pl.allK out = (out[q]'(by omega)).key := by
  unfold Pl.allK
  have e : out.getLast? = some (out[q]'(by omega)) := by
    rw [List.getLast?_eq_getElem?, show out.length - 1 = q by omega, List.getElem?_eq_getElem (by omega)]
  rw [e]
theorem fit_next {ps : List PairD} (hf : FitP ps) (k : List UInt8) : ((Pl.nextM ps k).getD Pl.zeroP).key.size ≤ maxLen := by
  cases e : Pl.nextM ps k with
  | none => decide
  | some q => exact hf q (nextM_mem e)
theorem allS_fit {ps out : List PairD} (hf : FitP ps) : (Pl.allS ps out).key.size ≤ maxLen := by
  by_cases h : out = []
  · subst h
    cases e : Pl.gotM ps ⟨#[]⟩ with
    | none => rw [allS_zero_none e]; exact fit_next hf _
    | some q => rw [allS_zero_some e]; exact Nat.zero_le _
  · rw [allS_cons h]; exact fit_next hf _
theorem allM_fit {ps : List PairD} (hf : FitP ps) : ∀ n, FitP (Pl.allM ps n)
  | 0 => fun p hp => by simp [Pl.allM] at hp
  | n + 1 => fun p hp => by
    rw [Pl.allM, List.mem_append, List.mem_singleton] at hp
    rcases hp with hp | rfl
    · exact allM_fit hf n p hp
    · exact allS_fit hf

theorem Ow.bare0 {B : Nat} {W0 W : World} {L : List (Nat × Obj)} {R : List RowT} (h : Ow B W0 W L R) : Ow B W0 W [] R :=
  ⟨⟨h.sx.below, h.sx.le, fun i g o q => by simp at q, fun i j p q _ r => by simp at r⟩, h.own, h.ne, fun i j k r p _ _ q => by simp at q⟩
set_option maxRecDepth 100000 in
set_option maxHeartbeats 4000000 in
theorem all06_any (A : Option Addr) (c : Nat) (ps : List PairD) (w : World) (h : Prs w A ps.length ps) (hf : FitP ps) (hl : ps.length ≤ 1000) :
    Calls Try.prog 100 #[.slice A ps.length c] w (PrsRet (Pl.allM ps ps.length) w) := by
  have HH := Lib.hid h
  have HFI := Lib.hid (fun n => allM_fit hf n)
  have HNx := Lib.hid (fun k hk W hW => next06_any A c ps k W hW (by omega) hf hk)
  have HGe := Lib.hid (fun k W hW => get06_any A c ps k W hW (by omega))
  have hO := (Ow.start (Sx.start0 w)).nil 48 2
  simp only [List.nil_append] at hO
  have HO := Lib.hid hO
  clear h hO hf
  go_enter Try.func100, Try.ntmps100
  go_wp2_with fail
  go_loopw [3, 4, 5, 6, 7, 8] (fun v _ _ _ _ _ wr => ∃ (n : Nat) (A1 : Option Addr) (c1 : Nat), v = .slice A1 n c1 ∧ Hid (n ≤ ps.length ∧
    Ow w.heap.size w wr [] [⟨48, 2, .slice A1 n c1, n, prRow (Pl.allM ps n)⟩])) (fun v _ _ _ _ _ _ => ps.length - lenOf v)
  case atStart => exact ⟨0, none, 0, rfl, Nat.zero_le _, HO.out⟩
  case round =>
    obtain ⟨n, A1, c1, rfl, H⟩ := hrel
    clear HO
    by_cases hlt : n < ps.length
    · have HO := Lib.hid H.out.2
      clear H
      rcases n with _ | n
      · have HNx2 := Lib.hid (HNx.out ⟨#[]⟩ (by decide))
        have HGe2 := Lib.hid (HGe.out ⟨#[]⟩)
        rw [show (⟨#[]⟩ : ByteArray).data.toList = [] from rfl] at HNx2
        have hgm : Pl.getM ps ⟨#[]⟩ = (match Pl.gotM ps ⟨#[]⟩ with | some p => (p.val, true) | none => (0, false)) := rfl
        rw [hgm] at HGe2
        clear hgm
        have HS := Lib.hid (show Pl.allM ps (0 + 1) = [Pl.allS ps []] from rfl)
        generalize (Pl.nextM ps []).isSome = bo at HNx2
        cases hg : Pl.gotM ps ⟨#[]⟩ with
        | none =>
          rw [allS_zero_none hg] at HS
          rw [hg] at HGe2
          clear hg
          generalize (Pl.nextM ps []).getD Pl.zeroP = p at HNx2 HS
          simp only [prCells] at HNx2 HGe2
          go_wp2_with fail
          refine (HNx2.out _ (HH.out.up HO.out.below)).mono ?_
          rintro e w2 ⟨rfl, hbn⟩
          have hOw := (HO.out.call hbn).alloc (.cells #[.string p.key, .int .u64 p.val] 48)
          simp only [List.nil_append] at hOw
          clear hbn HO
          go_upto_region 7 with fail
          generalize w2.alloc _ = w3 at hOw ⊢
          generalize w2.heap.size = g3 at hOw ⊢
          have HO := Lib.hid hOw
          clear hOw
          go_wp2_with fail
          refine (HGe2.out _ (HH.out.up HO.out.below)).mono ?_
          rintro e w4 ⟨rfl, hbn⟩
          replace HO := Lib.hid (HO.out.call hbn)
          clear hbn
          obtain ⟨A2, c2, W3, hrun, hc2, hO2⟩ := HO.out.pushP 52 (by kernel_rfl) 0 rfl p (by omega)
          simp only [List.set_cons_zero] at hO2
          obtain ⟨x0, x1, -, -⟩ := pr_facts (HO.out.sx.has 0 _ _ rfl).1
          have HN := Lib.hid hO2.bare0
          have Hrun := Lib.hid hrun
          simp only [prCells] at Hrun
          clear hrun hO2 HO
          go_wp2_with (at_builtin; refine wpList_append_run rfl (.tmp 41) (.tmp 43) 52 rfl rfl rfl Hrun.out ?_)
          go_roundw
          case rel => exact ⟨0 + 1, A2, c2, rfl, by omega, by rw [HS.out]; exact HN.out⟩
          case measure => simp [lenOf]; omega
        | some q =>
          rw [allS_zero_some hg] at HS
          rw [hg] at HGe2
          clear hg
          generalize (Pl.nextM ps []).getD Pl.zeroP = p at HNx2
          simp only [prCells] at HNx2 HGe2
          go_wp2_with fail
          refine (HNx2.out _ (HH.out.up HO.out.below)).mono ?_
          rintro e w2 ⟨rfl, hbn⟩
          have hOw := (HO.out.call hbn).alloc (.cells #[.string p.key, .int .u64 p.val] 48)
          simp only [List.nil_append] at hOw
          clear hbn HO
          go_upto_region 7 with fail
          generalize w2.alloc _ = w3 at hOw ⊢
          generalize w2.heap.size = g3 at hOw ⊢
          have HO := Lib.hid hOw
          clear hOw
          go_wp2_with fail
          refine (HGe2.out _ (HH.out.up HO.out.below)).mono ?_
          rintro e w4 ⟨rfl, hbn⟩
          replace HO := Lib.hid (HO.out.call hbn)
          clear hbn
          obtain ⟨x0, x1, f0, f1⟩ := pr_facts (HO.out.sx.has 0 _ _ rfl).1
          have hOw := (HO.out.setc 0 rfl 0 (.string ⟨#[]⟩)).setc 0 rfl 1 (.int .u64 q.val)
          simp only [List.set_cons_zero, List.set_cons_succ] at hOw
          clear HO
          go_upto_region 11 with fail
          clear x0 x1 f0 f1
          generalize World.setCell _ _ _ = w5 at hOw ⊢
          have HO := Lib.hid hOw
          clear hOw
          obtain ⟨A2, c2, W3, hrun, hc2, hO2⟩ := HO.out.pushP 52 (by kernel_rfl) 0 rfl ⟨⟨#[]⟩, q.val⟩ (by omega)
          simp only [List.set_cons_zero] at hO2
          obtain ⟨x0, x1, -, -⟩ := pr_facts (HO.out.sx.has 0 _ _ rfl).1
          have HN := Lib.hid hO2.bare0
          have Hrun := Lib.hid hrun
          simp only [prCells] at Hrun
          clear hrun hO2 HO
          go_wp2_with (at_builtin; refine wpList_append_run rfl (.tmp 41) (.tmp 43) 52 rfl rfl rfl Hrun.out ?_)
          go_roundw
          case rel => exact ⟨0 + 1, A2, c2, rfl, by omega, by rw [HS.out]; exact HN.out⟩
          case measure => simp [lenOf]; omega
      · have HAL := Lib.hid (Pl.allM_len ps (n + 1))
        have HP := Lib.hid (prs_of_own (HO.out.own 0 _ rfl) HAL.out)
        obtain ⟨b, off, _, hA, hbw, c0, c1'⟩ := HP.out.at_ (show n < n + 1 by omega)
        subst hA
        have HKL := Lib.hid (allK_last (out := Pl.allM ps (n + 1)) (q := n) HAL.out.symm)
        have HS := Lib.hid (show Pl.allM ps (n + 1 + 1) = Pl.allM ps (n + 1) ++ [Pl.allS ps (Pl.allM ps (n + 1))] from rfl)
        rw [allS_cons (fun e => by have := HAL.out; rw [e] at this; simp at this), HKL.out] at HS
        have HKF := Lib.hid (HFI.out (n + 1) _ (List.getElem_mem (by rw [HAL.out]; omega) : (Pl.allM ps (n + 1))[n]'(by rw [HAL.out]; omega) ∈ _))
        clear HKL HP hbw c1'
        generalize (Pl.allM ps (n + 1))[n]'(by rw [HAL.out]; omega) = lp at c0 HS HKF
        have HNx2 := Lib.hid (HNx.out lp.key HKF.out)
        generalize (Pl.nextM ps lp.key.data.toList).isSome = bo at HNx2
        generalize (Pl.nextM ps lp.key.data.toList).getD Pl.zeroP = p at HNx2 HS
        simp only [prCells] at HNx2
        have hi1 : wrap64 (((n + 1 : Nat) : Int) - 1) = (n : Int) := by unfold wrap64; omega
        go_wp2_with fail
        refine (HNx2.out _ (HH.out.up HO.out.below)).mono ?_
        rintro e w2 ⟨rfl, hbn⟩
        have hOw := (HO.out.call hbn).alloc (.cells #[.string p.key, .int .u64 p.val] 48)
        simp only [List.nil_append] at hOw
        clear hbn HO c0
        go_upto_region 7 with fail
        generalize w2.alloc _ = w3 at hOw ⊢
        generalize w2.heap.size = g3 at hOw ⊢
        have HO := Lib.hid hOw
        clear hOw
        obtain ⟨A2, c2, W3, hrun, hc2, hO2⟩ := HO.out.pushP 52 (by kernel_rfl) 0 rfl p (by omega)
        simp only [List.set_cons_zero] at hO2
        obtain ⟨x0, x1, -, -⟩ := pr_facts (HO.out.sx.has 0 _ _ rfl).1
        have HN := Lib.hid hO2.bare0
        have Hrun := Lib.hid hrun
        simp only [prCells] at Hrun
        clear hrun hO2 HO
        go_wp2_with (at_builtin; refine wpList_append_run rfl (.tmp 41) (.tmp 43) 52 rfl rfl rfl Hrun.out ?_)
        go_roundw
        case rel => exact ⟨n + 1 + 1, A2, c2, rfl, by omega, by rw [HS.out]; exact HN.out⟩
        case measure => simp [lenOf]; omega
    · obtain rfl : n = ps.length := by have := H.out.1; omega
      have HF := Lib.hid H.out.2
      have HAL := Lib.hid (Pl.allM_len ps ps.length)
      clear H
      go_wp2_with fail
      go_ret
      exact ⟨A1, c1, by rw [HAL.out]; rfl, by rw [HAL.out]; exact HF.out.own 0 _ rfl, HF.out.below⟩

theorem filter_take {l : List PairD} {f : PairD → Bool} {j : Nat} (hj : j < l.length) : (l.take (j + 1)).filter f = (l.take j).filter f ++ (if f l[j] = true then [l[j]] else []) := by
  rw [List.take_add_one, List.getElem?_eq_getElem hj, Option.toList, List.filter_append]
  congr 1
  cases h : f l[j] <;> simp [List.filter_cons, h]
theorem scanL_end {l : List PairD} {low high : List UInt8} {limit : Int} {j m : Nat} (hm : ((l.take j).filter (Pl.withinB low high)).length = m) (h0 : m = 0 ∨ (m : Int) ≤ limit) (he : l.length ≤ j ∨ limit ≤ (m : Int)) : Pl.scanL l low high limit = (l.take j).filter (Pl.withinB low high) := by
  unfold Pl.scanL
  rcases he with e | e
  · rw [List.take_of_length_le e] at hm ⊢
    rcases h0 with q | q
    · have hn : l.filter (Pl.withinB low high) = [] := List.eq_nil_of_length_eq_zero (by omega)
      rw [hn, List.take_nil]
    · rw [List.take_of_length_le (by omega)]
  · have e1 : l.filter (Pl.withinB low high) = (l.take j).filter (Pl.withinB low high) ++ (l.drop j).filter (Pl.withinB low high) := by rw [← List.filter_append, List.take_append_drop]
    rw [e1, List.take_append_of_le_length (by omega), List.take_of_length_le (by omega)]

set_option maxRecDepth 100000 in
set_option maxHeartbeats 4000000 in
theorem scan06_any (A : Option Addr) (c : Nat) (ps : List PairD) (low high : ByteArray) (limit : Int) (w : World) (h : Prs w A ps.length ps) (hf : FitP ps) (hl : ps.length ≤ 1000) (hlo : low.size ≤ maxLen) (hhi : high.size ≤ maxLen) :
    Calls Try.prog 45 #[.slice A ps.length c, .string low, .string high, .int .i64 limit] w (PrsRet (Pl.scanL (Pl.allM ps ps.length) low.data.toList high.data.toList limit) w) := by
  have HA := Lib.hid (all06_any A c ps w h hf hl)
  have HFI := Lib.hid (allM_fit hf ps.length)
  have HAL := Lib.hid (Pl.allM_len ps ps.length)
  generalize Pl.allM ps ps.length = l at HA HFI HAL ⊢
  have hll : l.length ≤ 1000 := by rw [HAL.out]; exact hl
  have hll2 : l.length ≤ 9223372036854775807 := by omega
  clear h hf hl HAL
  go_enter Try.func45, Try.ntmps45
  go_wp2_with fail
  refine HA.out.mono ?_
  rintro e wn ⟨Al, cl, rfl, hown, hb⟩
  have hO := ((Ow.start (Sx.start0 w)).row hb hown).nil 48 2
  simp only [List.nil_append, List.cons_append] at hO
  have HO := Lib.hid hO
  clear hO hown hb HA
  go_wp2_with fail
  go_loopw [9, 11] (fun v i wr => ∃ (j m : Nat) (A1 : Option Addr) (c1 : Nat), i = .int .i64 j ∧ v = .slice A1 m c1 ∧ Hid (j ≤ l.length ∧ ((l.take j).filter (Pl.withinB low.data.toList high.data.toList)).length = m ∧ (m ≤ j ∧ (m = 0 ∨ (m : Int) ≤ limit)) ∧
    Ow w.heap.size w wr [] [⟨48, 2, .slice Al l.length cl, l.length, prRow l⟩, ⟨48, 2, .slice A1 m c1, m, prRow ((l.take j).filter (Pl.withinB low.data.toList high.data.toList))⟩])) (fun _ i _ => l.length - (intOf i).toNat)
  case atStart => exact ⟨0, 0, none, 0, rfl, rfl, Nat.zero_le _, rfl, ⟨Nat.le_refl _, .inl rfl⟩, HO.out⟩
  case round =>
    obtain ⟨j, m, A1, c1, rfl, rfl, H⟩ := hrel
    clear HO
    have HO := Lib.hid H.out.2.2.2
    have HS := Lib.hid H.out.2.1
    have HM := Lib.hid (And.intro H.out.1 H.out.2.2.1)
    clear H
    have hmb : m ≤ 1000 := by have := HM.out; omega
    by_cases hlt : j < l.length
    · have hltb : decide ((j : Int) < (l.length : Int)) = true := decide_eq_true (by omega)
      by_cases hlm : (m : Int) < limit
      · have hlmb : decide ((m : Int) < limit) = true := decide_eq_true hlm
        have HLM := Lib.hid hlm
        clear hlm
        have HP : Prs wr Al l.length l := prs_of_own (HO.out.own 0 _ rfl) rfl
        obtain ⟨b, off, _, hA, hbw, c0, c1'⟩ := HP.at_ hlt
        subst hA
        have HB1 := Lib.hid (And.intro hbw c0)
        have HB2 := Lib.hid c1'
        have HFj := Lib.hid (HFI.out _ (List.getElem_mem hlt))
        have HT := Lib.hid (filter_take (f := Pl.withinB low.data.toList high.data.toList) hlt)
        clear HP hbw c0 c1'
        generalize l[j] = p at HB1 HB2 HFj HT
        have hw : Pl.withinB low.data.toList high.data.toList p = (!Pl.ls p.key.data.toList low.data.toList && !Pl.ls high.data.toList p.key.data.toList) := rfl
        have HL1 := Lib.hid (fun W => refless_any p.key low W HFj.out hlo)
        have HL2 := Lib.hid (fun W => refless_any high p.key W hhi HFj.out)
        generalize Pl.ls p.key.data.toList low.data.toList = r1 at hw HL1
        generalize Pl.ls high.data.toList p.key.data.toList = r2 at hw HL2
        have HTN := Lib.hid (fun (q : (!r1 && !r2) = false) => HT.out.trans (by rw [if_neg (by rw [hw, q]; exact Bool.false_ne_true), List.append_nil]))
        have HTY := Lib.hid (fun (q : (!r1 && !r2) = true) => HT.out.trans (by rw [if_pos (by rw [hw, q])]))
        clear hw HT
        have x0 := HB1.out.2
        go_wp2_with fail
        refine (HL1.out _).mono ?_
        rintro e w1 ⟨rfl, hcur⟩
        clear x0
        cases r1
        · have x0 := (hcur.cell (p := ⟨b, off + j * 2, none⟩) HB1.out.1).trans HB1.out.2
          go_wp2_with fail
          refine (HL2.out _).mono ?_
          rintro e w2 ⟨rfl, hcur2⟩
          clear x0
          replace hcur := below_of hcur hcur2
          clear hcur2
          cases r2
          · replace HO := Lib.hid (HO.out.call hcur)
            have x0 := (hcur.cell (p := ⟨b, off + j * 2, none⟩) HB1.out.1).trans HB1.out.2
            have x1 := (hcur.cell (p := ⟨b, off + j * 2 + 1, none⟩) HB1.out.1).trans HB2.out
            clear hcur HB1 HB2
            obtain ⟨A2, c2, W3, hrun, hc2, hO2⟩ := HO.out.pushP 52 (by kernel_rfl) 1 rfl p (by omega)
            simp only [List.set_cons_zero, List.set_cons_succ] at hO2
            have HN := Lib.hid hO2
            have Hrun := Lib.hid hrun
            simp only [prCells] at Hrun
            have HTE := Lib.hid (HTY.out (by rfl))
            clear hrun hO2 HO HTN HTY
            go_wp2_with (at_builtin; refine wpList_append_run rfl (.tmp 44) (.tmp 49) 52 rfl rfl rfl Hrun.out ?_)
            go_roundw
            case rel => exact ⟨j + 1, m + 1, A2, c2, by go_num, rfl, by omega, by rw [HTE.out, List.length_append, HS.out]; rfl, ⟨by have := HM.out; omega, .inr (by have := HLM.out; omega)⟩, by rw [HTE.out]; exact HN.out⟩
            case measure => simp [intOf]; omega
          · have HZ := Lib.hid (HO.out.call hcur)
            have HTE := Lib.hid (HTN.out (by rfl))
            clear HO hcur HTN HTY
            go_wp2_with fail
            go_roundw
            case rel => exact ⟨j + 1, m, A1, c1, by go_num, rfl, by omega, by rw [HTE.out]; exact HS.out, ⟨by have := HM.out; omega, HM.out.2.2⟩, by rw [HTE.out]; exact HZ.out⟩
            case measure => simp [intOf]; omega
        · have HZ := Lib.hid (HO.out.call hcur)
          have HTE := Lib.hid (HTN.out (by rfl))
          clear HO hcur HTN HTY
          go_wp2_with fail
          go_roundw
          case rel => exact ⟨j + 1, m, A1, c1, by go_num, rfl, by omega, by rw [HTE.out]; exact HS.out, ⟨by have := HM.out; omega, HM.out.2.2⟩, by rw [HTE.out]; exact HZ.out⟩
          case measure => simp [intOf]; omega
      · have hlmb : decide ((m : Int) < limit) = false := decide_eq_false hlm
        have HE := Lib.hid (scanL_end HS.out HM.out.2.2 (.inr (by omega)))
        clear hlm
        go_wp2_with fail
        go_ret
        rw [HE.out]
        exact ⟨A1, c1, by rw [HS.out]; rfl, by rw [HS.out]; exact HO.out.own 1 _ rfl, HO.out.below⟩
    · have hltb : decide ((j : Int) < (l.length : Int)) = false := decide_eq_false (by omega)
      have HE := Lib.hid (scanL_end HS.out HM.out.2.2 (.inl (by omega)))
      go_wp2_with fail
      go_ret
      rw [HE.out]
      exact ⟨A1, c1, by rw [HS.out]; rfl, by rw [HS.out]; exact HO.out.own 1 _ rfl, HO.out.below⟩

end Go.Proofs.Ytcoiadncennhpaa
