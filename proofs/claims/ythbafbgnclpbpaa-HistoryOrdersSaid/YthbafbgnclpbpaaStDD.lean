/- Contracts of the stable sort of ints: symMerge, a part of its cases. -/
import Derived.Test.YthbafbgnclpbpaaStC
namespace Go.Proofs.Ythbafbgnclpbpaa
open Go.RowKit

set_option maxRecDepth 100000 in
set_option maxHeartbeats 8000000 in
theorem symmerge3C_int (W0 : World) (g n cap N bp : Nat) (E : Nat → Int) (key : Nat → Int) (p : Nat → Nat) (a m b mid s0 r0 s : Nat) (w : World) (hc : CmpI W0 g N bp E key) (h : StR W0 w g 3 1 n cap (enI E) p) (ham : a < m) (hne : m ≠ a + 1) (hmb : m < b) (hne2 : b ≠ m + 1) (hb : b ≤ n) (hn : n ≤ 1000) (hN : ∀ k, k < n → p k < N) (h1 : Srt key p a m) (h2 : Srt key p m b) (hl : Lft p a m b) (hih : SymIH_int W0 g n cap N bp E key (b - a))
    (hmid : mid = (a + b) / 2) (hs0 : s0 = if mid < m then mid + m - b else a) (hr0 : r0 = if mid < m then mid else m) (hsa : s0 ≤ s) (hsb : s ≤ r0) (hlo : ∀ c, s0 ≤ c → c < s → ¬ lx key (p (mid + m - 1 - c)) (p c)) (hhi : ∀ c, s ≤ c → c < r0 → lx key (p (mid + m - 1 - c)) (p c)) (hrot : ¬ (s < m ∧ m < mid + m - s)) (hleft : a < s ∧ s < mid) :
    Calls Try.prog 113 #[.slice (some ⟨g, 0, none⟩) n cap, .int .i64 a, .int .i64 m, .int .i64 b, ordFn bp] w (SymTo_int W0 g n cap E key p a b) := by
  have HC := Lib.hid hc
  have HN := Lib.hid hN
  have HL := Lib.hid hl
  have HS0 := Lib.hid h
  have HIH := Lib.hid hih
  have HLO := Lib.hid hlo
  have HHI := Lib.hid hhi
  have HLEFT := Lib.hid hleft
  obtain ⟨d, hd⟩ : ∃ d : Nat, d = m - a := ⟨_, rfl⟩
  have hsub : (m : Int) - (a : Int) = (d : Int) := by omega
  have hd1 : ¬ (d : Int) = 1 := by omega
  have hd1b : ((d : Int) == 1) = false := by simpa using hd1
  obtain ⟨d2, hd2⟩ : ∃ d : Nat, d = b - m := ⟨_, rfl⟩
  have hsub2 : (b : Int) - (m : Int) = (d2 : Int) := by omega
  have hd21 : ¬ (d2 : Int) = 1 := by omega
  have hd21b : ((d2 : Int) == 1) = false := by simpa using hd21
  have hmw : ((a : Int) + (b : Int)) / 2 = (mid : Int) := by rw [half_int, hmid]
  obtain ⟨nn, hnn⟩ : ∃ x, x = mid + m := ⟨_, rfl⟩
  have hnw : (mid : Int) + (m : Int) = (nn : Int) := by omega
  have HRNG := Lib.hid (fun x => sea_rng (x := x) ham hmb hmid hs0 hr0)
  have h7 := sea_rng2 (x := s) ham hmb hmid hs0 hr0 hsa hsb
  have HHV := halves (s := s) ham hmb h1 h2 hl hmid hs0 hr0 hsa hsb hlo hhi
  have HNN := Lib.hid hnn
  have hnb : nn ≤ 2000 := by omega
  have hmidb : mid < b := by omega
  have HSW := Lib.hid (show mid < m → (nn : Int) - (b : Int) = (s0 : Int) ∧ mid = r0 from fun gq => by
    have e1 := hs0
    have e2 := hr0
    rw [if_pos gq] at e1 e2
    have := sea_rng2 (x := s0) ham hmb hmid hs0 hr0 (Nat.le_refl _) (by omega)
    omega)
  have HSV := Lib.hid (show ¬ mid < m → a = s0 ∧ m = r0 from fun gq => by
    have e1 := hs0
    have e2 := hr0
    rw [if_neg gq] at e1 e2
    omega)
  have hsb2 : r0 ≤ nn := by
    split at hr0 <;> omega
  obtain ⟨en, hen⟩ : ∃ x, x = mid + m - s := ⟨_, rfl⟩
  rw [← hen] at h7 HHV
  have hew : (nn : Int) - (s : Int) = (en : Int) := by omega
  have HEN := Lib.hid hen
  rw [← hen] at hrot
  have HROT := Lib.hid hrot
  have g1 := h7.1
  have g2 := h7.2.1
  have g3 := h7.2.2.1
  have g4 := h7.2.2.2.1
  have g5 := h7.2.2.2.2.1
  have g6 := h7.2.2.2.2.2.1
  obtain ⟨pp, hpp⟩ : ∃ x, nn = x + 1 := ⟨nn - 1, by omega⟩
  have hpw : (nn : Int) - 1 = (pp : Int) := by omega
  have HPP := Lib.hid hpp
  have HPA0 := (rot_perm p g2 g4).mono g1 g5
  obtain ⟨q, hq⟩ : ∃ q, q = rotF p s m en := ⟨_, rfl⟩
  rw [← hq] at HHV HPA0
  have HH := Lib.hid HHV
  have HPA := Lib.hid HPA0
  have HQN := Lib.hid (permOn_lt HPA0 hb hN)
  have HH2 := Lib.hid (show Srt key q mid en ∧ Srt key q en b ∧ Lft q mid en b ∧ (¬ (mid < en ∧ en < b) → Srt key q mid b) from ⟨hen ▸ HHV.r1, hen ▸ HHV.r2, hen ▸ HHV.rf, fun hnq => HHV.right (hen ▸ hnq)⟩)
  have HQE := Lib.hid hq
  clear hc hN h1 h2 hl h hd hd2 hne hne2 hih hlo hhi hrot hleft hmid hnn hs0 hr0 hen h7 HHV HPA0 hpp hq
  go_enter Try.func113, Try.ntmps113
  go_upto_if 140 with fail
  go_cut [20, 21] (fun vs vr wx => vs = .int .i64 s0 ∧ vr = .int .i64 r0 ∧ Hid (StR W0 wx g 3 1 n cap (enI E) p))
  case first =>
    by_cases hgt : mid < m
    · have hsw := (HSW.out hgt).1
      have HRW := Lib.hid (HSW.out hgt).2
      go_wp2_with fail
      go_meet
      exact ⟨rfl, by rw [HRW.out], HS0.out⟩
    · have HRW := Lib.hid (HSV.out hgt)
      go_wp2_with fail
      go_meet
      exact ⟨by rw [HRW.out.1], by rw [HRW.out.2], HS0.out⟩
  case rest =>
    obtain ⟨rfl, rfl, HS1b⟩ := hcut
    clear HS0 HSW HSV
    go_wp2_with fail
    go_loopw [20, 21] (fun vi vj wr => ∃ i j : Nat, vi = .int .i64 i ∧ vj = .int .i64 j ∧ Hid (s0 ≤ i ∧ i ≤ s ∧ s ≤ j ∧ j ≤ r0) ∧ Hid (StR W0 wr g 3 1 n cap (enI E) p)) (fun vi vj _ => (intOf vj).toNat - (intOf vi).toNat)
    case atStart => exact ⟨s0, r0, rfl, rfl, ⟨Nat.le_refl _, hsa, hsb, Nat.le_refl _⟩, HS1b.out⟩
    case round =>
      obtain ⟨i, j, rfl, rfl, HJ, HS⟩ := hrel
      clear HS1b
      generalize wr = W at HS ⊢
      have hj1 := HJ.out.1
      have hj2 := HJ.out.2.1
      have hj3 := HJ.out.2.2.1
      have hj4 := HJ.out.2.2.2
      by_cases hlt : i < j
      · obtain ⟨x, hx⟩ : ∃ x, x = (i + j) / 2 := ⟨_, rfl⟩
        have hx1 := (half_in hlt hx).1
        have hx2 := (half_in hlt hx).2
        have hxw : ((i : Int) + (j : Int)) / 2 = (x : Int) := by rw [half_int, hx]
        clear hx
        have hr := HRNG.out x (by omega) (by omega)
        obtain ⟨y, hy⟩ : ∃ y, y = mid + m - 1 - x := ⟨_, rfl⟩
        rw [← hy] at hr
        have hyw : (pp : Int) - (x : Int) = (y : Int) := by
          have := HPP.out
          have := HNN.out
          omega
        have hyw2 : IntKind.i64.wrap (y : Int) = (y : Int) := by rw [IntKind.wrap_i64]; omega
        have hi1 : x < n := by omega
        have hi2 : y < n := by omega
        have HY := Lib.hid hy
        have hra := hr.1
        have hrm := hr.2.1
        have hry := hr.2.2.1
        have hryb := hr.2.2.2.1
        clear hy hr
        have HCc := Lib.hid (fun W hW => HC.out (p y) (p x) W (HL.out x y hra hrm hry hryb) (HN.out y hi2) hW)
        go_upto_region 35 with fail
        refine wp_region_held_drew (S := fun w' => Below W.heap.size W w') (by kernel_rfl) (Below.drew (Below.refl _ _)) (fun hcur => ?_)
        replace hcur : Below W.heap.size W W.drew := hcur
        refine wpAnyH_take (i := 0) (v := ?_) rfl (by decide +kernel) (by decide +kernel) (by decide +kernel) (fun _ _ _ h => h) (Or.inl ⟨by rfl, ?hy⟩) hcur ?_
        case hy =>
          intro w1 hSw
          go_simp
          (try with_reducible rfl)
        (try simp only [Act.put, List.getElem_toArray, List.getElem_cons_zero, List.getElem_cons_succ, List.setIfInBounds_toArray, List.set_cons_zero, List.set_cons_succ])
        refine wpAnyH_take (i := 1) (v := ?_) rfl (by decide +kernel) (by decide +kernel) (by decide +kernel) (fun _ _ _ h => h) (Or.inl ⟨by rfl, ?hy⟩) hcur ?_
        case hy =>
          intro w1 hSw
          go_simp
          (try with_reducible rfl)
        (try simp only [Act.put, List.getElem_toArray, List.getElem_cons_zero, List.getElem_cons_succ, List.setIfInBounds_toArray, List.set_cons_zero, List.set_cons_succ])
        refine wpAnyH_take (i := 2) (v := ?_) rfl (by decide +kernel) (by decide +kernel) (by decide +kernel) (fun _ _ _ h => h) (Or.inl ⟨by rfl, ?hy⟩) hcur ?_
        case hy =>
          intro w1 hSw
          go_simp
          (try with_reducible rfl)
        (try simp only [Act.put, List.getElem_toArray, List.getElem_cons_zero, List.getElem_cons_succ, List.setIfInBounds_toArray, List.set_cons_zero, List.set_cons_succ])
        refine wpAnyH_take (i := 3) (v := ?_) rfl (by decide +kernel) (by decide +kernel) (by decide +kernel) (fun _ _ _ h => h) (Or.inl ⟨by rfl, ?hy⟩) hcur ?_
        case hy =>
          intro w1 hSw
          go_simp
          (try with_reducible rfl)
        (try simp only [Act.put, List.getElem_toArray, List.getElem_cons_zero, List.getElem_cons_succ, List.setIfInBounds_toArray, List.set_cons_zero, List.set_cons_succ])
        refine wpAnyH_take (i := 4) (v := ?_) rfl (by decide +kernel) (by decide +kernel) (by decide +kernel) (fun _ _ _ h => h) (Or.inl ⟨by rfl, ?hy⟩) hcur ?_
        case hy =>
          intro w1 hSw
          go_simp
          (try with_reducible rfl)
        (try simp only [Act.put, List.getElem_toArray, List.getElem_cons_zero, List.getElem_cons_succ, List.setIfInBounds_toArray, List.set_cons_zero, List.set_cons_succ])
        refine wpAnyH_take (i := 5) (v := ?_) rfl (by decide +kernel) (by decide +kernel) (by decide +kernel) (fun _ _ _ h => h) (Or.inl ⟨by rfl, ?hy⟩) hcur ?_
        case hy =>
          intro w1 hSw
          go_simp
          (try with_reducible rfl)
        (try simp only [Act.put, List.getElem_toArray, List.getElem_cons_zero, List.getElem_cons_succ, List.setIfInBounds_toArray, List.set_cons_zero, List.set_cons_succ])
        refine wpAnyH_take (i := 6) (v := elI E (p y)) rfl (by decide +kernel) (by decide +kernel) (by decide +kernel) (fun _ _ _ h => h) (Or.inl ⟨by rfl, ?hy⟩) hcur ?_
        case hy =>
          intro w1 hSw
          replace hSw : Below W.heap.size W w1 := hSw
          exact exec_loadI (HS.out.up hSw) hi2 rfl rfl rfl (by omega)
        (try simp only [Act.put, List.getElem_toArray, List.getElem_cons_zero, List.getElem_cons_succ, List.setIfInBounds_toArray, List.set_cons_zero, List.set_cons_succ])
        refine wpAnyH_take (i := 7) (v := ?_) rfl (by decide +kernel) (by decide +kernel) (by decide +kernel) (fun _ _ _ h => h) (Or.inl ⟨by rfl, ?hy⟩) hcur ?_
        case hy =>
          intro w1 hSw
          go_simp
          (try with_reducible rfl)
        (try simp only [Act.put, List.getElem_toArray, List.getElem_cons_zero, List.getElem_cons_succ, List.setIfInBounds_toArray, List.set_cons_zero, List.set_cons_succ])
        refine wpAnyH_take (i := 8) (v := ?_) rfl (by decide +kernel) (by decide +kernel) (by decide +kernel) (fun _ _ _ h => h) (Or.inl ⟨by rfl, ?hy⟩) hcur ?_
        case hy =>
          intro w1 hSw
          go_simp
          (try with_reducible rfl)
        (try simp only [Act.put, List.getElem_toArray, List.getElem_cons_zero, List.getElem_cons_succ, List.setIfInBounds_toArray, List.set_cons_zero, List.set_cons_succ])
        refine wpAnyH_take (i := 9) (v := ?_) rfl (by decide +kernel) (by decide +kernel) (by decide +kernel) (fun _ _ _ h => h) (Or.inl ⟨by rfl, ?hy⟩) hcur ?_
        case hy =>
          intro w1 hSw
          go_simp
          (try with_reducible rfl)
        (try simp only [Act.put, List.getElem_toArray, List.getElem_cons_zero, List.getElem_cons_succ, List.setIfInBounds_toArray, List.set_cons_zero, List.set_cons_succ])
        refine wpAnyH_take (i := 10) (v := elI E (p x)) rfl (by decide +kernel) (by decide +kernel) (by decide +kernel) (fun _ _ _ h => h) (Or.inl ⟨by rfl, ?hy⟩) hcur ?_
        case hy =>
          intro w1 hSw
          replace hSw : Below W.heap.size W w1 := hSw
          exact exec_loadI (HS.out.up hSw) hi1 rfl rfl rfl (by omega)
        (try simp only [Act.put, List.getElem_toArray, List.getElem_cons_zero, List.getElem_cons_succ, List.setIfInBounds_toArray, List.set_cons_zero, List.set_cons_succ])
        refine wpAnyH_ready (rs := [11]) (by decide +kernel) (by simp) ?_
        refine AllReadyH.cons rfl (fun K hK => ?_) AllReadyH.nil
        go_simp
        refine (HCc.out _ (HS.out.up hcur).off).mono ?_
        rintro e wn ⟨v, rfl, hv, hbn⟩
        have HV := Lib.hid hv
        go_wp2_with fail
        refine hK.out _ _ (below_of hcur hbn) (fun _ => ?_)
        clear hK K hv
        replace hcur := below_of hcur hbn
        clear hbn
        (try simp only [Act.put, List.getElem_toArray, List.getElem_cons_zero, List.getElem_cons_succ, List.setIfInBounds_toArray, List.set_cons_zero, List.set_cons_succ])
        by_cases hv0 : v < 0
        · have hvb : decide (v < 0) = true := decide_eq_true hv0
          refine wpAnyH_take (i := 12) (v := ?_) rfl (by decide +kernel) (by decide +kernel) (by decide +kernel) (fun _ _ _ h => h) (Or.inl ⟨by rfl, ?hy⟩) hcur ?_
          case hy =>
            intro w1 hSw
            go_simp
            (try with_reducible rfl)
          (try simp only [Act.put, List.getElem_toArray, List.getElem_cons_zero, List.getElem_cons_succ, List.setIfInBounds_toArray, List.set_cons_zero, List.set_cons_succ])
          refine wpAnyH_take (i := 13) (v := ?_) rfl (by decide +kernel) (by decide +kernel) (by decide +kernel) (fun _ _ _ h => h) (Or.inl ⟨by rfl, ?hy⟩) hcur ?_
          case hy =>
            intro w1 hSw
            go_simp
            (try with_reducible rfl)
          (try simp only [Act.put, List.getElem_toArray, List.getElem_cons_zero, List.getElem_cons_succ, List.setIfInBounds_toArray, List.set_cons_zero, List.set_cons_succ])
          refine wpAnyH_done (by decide +kernel) ?_ _
          have HV0 := Lib.hid (show s ≤ x by
            have h5 := HV.out.1 hv0
            rw [HY.out] at h5
            exact Nat.le_of_not_lt fun hc => HLO.out x (by omega) hc h5)
          replace HS := Lib.hid (HS.out.up hcur)
          clear HV hv0 hvb hcur
          go_wp2_with fail
          go_roundw
          case rel => exact ⟨i, x, rfl, rfl, ⟨hj1, hj2, HV0.out, by omega⟩, HS.out⟩
          case measure => simp [intOf]; omega
        · have hvb : decide (v < 0) = false := decide_eq_false hv0
          refine wpAnyH_take (i := 12) (v := ?_) rfl (by decide +kernel) (by decide +kernel) (by decide +kernel) (fun _ _ _ h => h) (Or.inl ⟨by rfl, ?hy⟩) hcur ?_
          case hy =>
            intro w1 hSw
            go_simp
            (try with_reducible rfl)
          (try simp only [Act.put, List.getElem_toArray, List.getElem_cons_zero, List.getElem_cons_succ, List.setIfInBounds_toArray, List.set_cons_zero, List.set_cons_succ])
          refine wpAnyH_take (i := 13) (v := ?_) rfl (by decide +kernel) (by decide +kernel) (by decide +kernel) (fun _ _ _ h => h) (Or.inl ⟨by rfl, ?hy⟩) hcur ?_
          case hy =>
            intro w1 hSw
            go_simp
            (try with_reducible rfl)
          (try simp only [Act.put, List.getElem_toArray, List.getElem_cons_zero, List.getElem_cons_succ, List.setIfInBounds_toArray, List.set_cons_zero, List.set_cons_succ])
          refine wpAnyH_done (by decide +kernel) ?_ _
          have HV0 := Lib.hid (show x + 1 ≤ s by
            refine Nat.lt_of_not_le fun hc => hv0 (HV.out.2 ?_)
            have h5 := HHI.out x hc (by omega)
            rw [← HY.out] at h5
            exact h5)
          replace HS := Lib.hid (HS.out.up hcur)
          clear HV hv0 hvb hcur
          go_wp2_with fail
          go_roundw
          case rel => exact ⟨x + 1, j, by go_num, rfl, ⟨by omega, HV0.out, hj3, hj4⟩, HS.out⟩
          case measure => simp [intOf]; omega
      · obtain rfl : i = s := by omega
        obtain rfl : i = j := by omega
        clear HLO HHI HRNG HC HL HN HNN HPP
        replace HS := Lib.hid (HS.out.to (show p = q by
          rw [HQE.out]
          by_cases c1 : i < m
          · obtain rfl : en = m := by have := HROT.out; omega
            exact (rot_nil2 p i en).symm
          · obtain rfl : i = m := by omega
            exact (rot_nil p i en g4).symm))
        go_upto_region 39 with fail
        go_cut [185] (fun vb wx => vb = .bool false ∧ Hid (StR W0 wx g 3 1 n cap (enI E) q))
        case first =>
          by_cases c1 : i < m
          · have c2 : ¬ m < en := fun k => HROT.out ⟨c1, k⟩
            go_wp2_with fail
            go_meet
            exact ⟨rfl, HS.out⟩
          · go_wp2_with fail
            go_meet
            exact ⟨rfl, HS.out⟩
        case rest =>
          obtain ⟨rfl, HSn⟩ := hcut
          clear HS
          have HS := HSn
          clear HSn
          have c1 := HLEFT.out.1
          have c2 := HLEFT.out.2
          go_wp2_with fail
          refine (HIH.out q a i mid _ (by omega) HS.out c1 c2 (by omega) HQN.out HH.out.l1 HH.out.l2 HH.out.lf).mono ?_
          rintro e w2 ⟨rfl, q2, h2, h3, h4⟩
          replace HS := Lib.hid h2
          have HP2 := Lib.hid (And.intro h3 h4)
          clear h2 h3 h4 c1 c2
          have HH3 := Lib.hid (And.intro (srt_off HH2.out.1 HP2.out.1 (Nat.le_refl _)) (And.intro (srt_off HH2.out.2.1 HP2.out.1 (show mid ≤ en by have := HEN.out; omega)) (And.intro (lft_off HH2.out.2.2.1 HP2.out.1 (Nat.le_refl _) (show mid ≤ en by have := HEN.out; omega)) (fun hnq => srt_off (HH2.out.2.2.2 hnq) HP2.out.1 (Nat.le_refl _)))))
          have HQ2 := Lib.hid (permOn_lt HP2.out.1 (by omega) HQN.out)
          have HFIN := Lib.hid (fun (r : Nat → Nat) (h5 : PermOn mid b q2 r) (h6 : Srt key r mid b) => And.intro (HPA.out.trans ((HP2.out.1.mono (Nat.le_refl _) (by omega)).trans (h5.mono (by omega) (Nat.le_refl _)))) (srt_join HH.out.x HP2.out.1 HP2.out.2 h5 h6))
          clear HH HH2 HP2 HPA HQN HROT HLEFT HQE
          by_cases c1 : mid < en
          · by_cases c2 : en < b
            · go_wp2_with fail
              refine (HIH.out q2 mid en b _ (by omega) HS.out c1 c2 (by omega) HQ2.out HH3.out.1 HH3.out.2.1 HH3.out.2.2.1).mono ?_
              rintro e w3 ⟨rfl, q3, h2, h3, h4⟩
              have HN2 := Lib.hid (And.intro h2 (HFIN.out q3 h3 h4))
              clear h2 h3 h4
              go_wp2_with fail
              go_end0
              exact ⟨rfl, q3, HN2.out⟩
            · have HX := Lib.hid (And.intro HS.out (HFIN.out q2 (PermOn.refl _ _ _) (HH3.out.2.2.2 (fun hx => c2 hx.2))))
              go_wp2_with fail
              go_end0
              exact ⟨rfl, q2, HX.out⟩
          · have HX := Lib.hid (And.intro HS.out (HFIN.out q2 (PermOn.refl _ _ _) (HH3.out.2.2.2 (fun hx => c1 hx.1))))
            go_wp2_with fail
            go_end0
            exact ⟨rfl, q2, HX.out⟩

end Go.Proofs.Ythbafbgnclpbpaa

namespace Go.Proofs.Ythbafbgnclpbpaa
open Go.RowKit

set_option maxRecDepth 100000 in
set_option maxHeartbeats 8000000 in
theorem symmerge3D_int (W0 : World) (g n cap N bp : Nat) (E : Nat → Int) (key : Nat → Int) (p : Nat → Nat) (a m b mid s0 r0 s : Nat) (w : World) (hc : CmpI W0 g N bp E key) (h : StR W0 w g 3 1 n cap (enI E) p) (ham : a < m) (hne : m ≠ a + 1) (hmb : m < b) (hne2 : b ≠ m + 1) (hb : b ≤ n) (hn : n ≤ 1000) (hN : ∀ k, k < n → p k < N) (h1 : Srt key p a m) (h2 : Srt key p m b) (hl : Lft p a m b) (hih : SymIH_int W0 g n cap N bp E key (b - a))
    (hmid : mid = (a + b) / 2) (hs0 : s0 = if mid < m then mid + m - b else a) (hr0 : r0 = if mid < m then mid else m) (hsa : s0 ≤ s) (hsb : s ≤ r0) (hlo : ∀ c, s0 ≤ c → c < s → ¬ lx key (p (mid + m - 1 - c)) (p c)) (hhi : ∀ c, s ≤ c → c < r0 → lx key (p (mid + m - 1 - c)) (p c)) (hrot : ¬ (s < m ∧ m < mid + m - s)) (hleft : ¬ (a < s ∧ s < mid)) :
    Calls Try.prog 113 #[.slice (some ⟨g, 0, none⟩) n cap, .int .i64 a, .int .i64 m, .int .i64 b, ordFn bp] w (SymTo_int W0 g n cap E key p a b) := by
  have HC := Lib.hid hc
  have HN := Lib.hid hN
  have HL := Lib.hid hl
  have HS0 := Lib.hid h
  have HIH := Lib.hid hih
  have HLO := Lib.hid hlo
  have HHI := Lib.hid hhi
  have HLEFT := Lib.hid hleft
  obtain ⟨d, hd⟩ : ∃ d : Nat, d = m - a := ⟨_, rfl⟩
  have hsub : (m : Int) - (a : Int) = (d : Int) := by omega
  have hd1 : ¬ (d : Int) = 1 := by omega
  have hd1b : ((d : Int) == 1) = false := by simpa using hd1
  obtain ⟨d2, hd2⟩ : ∃ d : Nat, d = b - m := ⟨_, rfl⟩
  have hsub2 : (b : Int) - (m : Int) = (d2 : Int) := by omega
  have hd21 : ¬ (d2 : Int) = 1 := by omega
  have hd21b : ((d2 : Int) == 1) = false := by simpa using hd21
  have hmw : ((a : Int) + (b : Int)) / 2 = (mid : Int) := by rw [half_int, hmid]
  obtain ⟨nn, hnn⟩ : ∃ x, x = mid + m := ⟨_, rfl⟩
  have hnw : (mid : Int) + (m : Int) = (nn : Int) := by omega
  have HRNG := Lib.hid (fun x => sea_rng (x := x) ham hmb hmid hs0 hr0)
  have h7 := sea_rng2 (x := s) ham hmb hmid hs0 hr0 hsa hsb
  have HHV := halves (s := s) ham hmb h1 h2 hl hmid hs0 hr0 hsa hsb hlo hhi
  have HNN := Lib.hid hnn
  have hnb : nn ≤ 2000 := by omega
  have hmidb : mid < b := by omega
  have HSW := Lib.hid (show mid < m → (nn : Int) - (b : Int) = (s0 : Int) ∧ mid = r0 from fun gq => by
    have e1 := hs0
    have e2 := hr0
    rw [if_pos gq] at e1 e2
    have := sea_rng2 (x := s0) ham hmb hmid hs0 hr0 (Nat.le_refl _) (by omega)
    omega)
  have HSV := Lib.hid (show ¬ mid < m → a = s0 ∧ m = r0 from fun gq => by
    have e1 := hs0
    have e2 := hr0
    rw [if_neg gq] at e1 e2
    omega)
  have hsb2 : r0 ≤ nn := by
    split at hr0 <;> omega
  obtain ⟨en, hen⟩ : ∃ x, x = mid + m - s := ⟨_, rfl⟩
  rw [← hen] at h7 HHV
  have hew : (nn : Int) - (s : Int) = (en : Int) := by omega
  have HEN := Lib.hid hen
  rw [← hen] at hrot
  have HROT := Lib.hid hrot
  have g1 := h7.1
  have g2 := h7.2.1
  have g3 := h7.2.2.1
  have g4 := h7.2.2.2.1
  have g5 := h7.2.2.2.2.1
  have g6 := h7.2.2.2.2.2.1
  obtain ⟨pp, hpp⟩ : ∃ x, nn = x + 1 := ⟨nn - 1, by omega⟩
  have hpw : (nn : Int) - 1 = (pp : Int) := by omega
  have HPP := Lib.hid hpp
  have HPA0 := (rot_perm p g2 g4).mono g1 g5
  obtain ⟨q, hq⟩ : ∃ q, q = rotF p s m en := ⟨_, rfl⟩
  rw [← hq] at HHV HPA0
  have HH := Lib.hid HHV
  have HPA := Lib.hid HPA0
  have HQN := Lib.hid (permOn_lt HPA0 hb hN)
  have HH2 := Lib.hid (show Srt key q mid en ∧ Srt key q en b ∧ Lft q mid en b ∧ (¬ (mid < en ∧ en < b) → Srt key q mid b) from ⟨hen ▸ HHV.r1, hen ▸ HHV.r2, hen ▸ HHV.rf, fun hnq => HHV.right (hen ▸ hnq)⟩)
  have HQE := Lib.hid hq
  clear hc hN h1 h2 hl h hd hd2 hne hne2 hih hlo hhi hrot hleft hmid hnn hs0 hr0 hen h7 HHV HPA0 hpp hq
  go_enter Try.func113, Try.ntmps113
  go_upto_if 140 with fail
  go_cut [20, 21] (fun vs vr wx => vs = .int .i64 s0 ∧ vr = .int .i64 r0 ∧ Hid (StR W0 wx g 3 1 n cap (enI E) p))
  case first =>
    by_cases hgt : mid < m
    · have hsw := (HSW.out hgt).1
      have HRW := Lib.hid (HSW.out hgt).2
      go_wp2_with fail
      go_meet
      exact ⟨rfl, by rw [HRW.out], HS0.out⟩
    · have HRW := Lib.hid (HSV.out hgt)
      go_wp2_with fail
      go_meet
      exact ⟨by rw [HRW.out.1], by rw [HRW.out.2], HS0.out⟩
  case rest =>
    obtain ⟨rfl, rfl, HS1b⟩ := hcut
    clear HS0 HSW HSV
    go_wp2_with fail
    go_loopw [20, 21] (fun vi vj wr => ∃ i j : Nat, vi = .int .i64 i ∧ vj = .int .i64 j ∧ Hid (s0 ≤ i ∧ i ≤ s ∧ s ≤ j ∧ j ≤ r0) ∧ Hid (StR W0 wr g 3 1 n cap (enI E) p)) (fun vi vj _ => (intOf vj).toNat - (intOf vi).toNat)
    case atStart => exact ⟨s0, r0, rfl, rfl, ⟨Nat.le_refl _, hsa, hsb, Nat.le_refl _⟩, HS1b.out⟩
    case round =>
      obtain ⟨i, j, rfl, rfl, HJ, HS⟩ := hrel
      clear HS1b
      generalize wr = W at HS ⊢
      have hj1 := HJ.out.1
      have hj2 := HJ.out.2.1
      have hj3 := HJ.out.2.2.1
      have hj4 := HJ.out.2.2.2
      by_cases hlt : i < j
      · obtain ⟨x, hx⟩ : ∃ x, x = (i + j) / 2 := ⟨_, rfl⟩
        have hx1 := (half_in hlt hx).1
        have hx2 := (half_in hlt hx).2
        have hxw : ((i : Int) + (j : Int)) / 2 = (x : Int) := by rw [half_int, hx]
        clear hx
        have hr := HRNG.out x (by omega) (by omega)
        obtain ⟨y, hy⟩ : ∃ y, y = mid + m - 1 - x := ⟨_, rfl⟩
        rw [← hy] at hr
        have hyw : (pp : Int) - (x : Int) = (y : Int) := by
          have := HPP.out
          have := HNN.out
          omega
        have hyw2 : IntKind.i64.wrap (y : Int) = (y : Int) := by rw [IntKind.wrap_i64]; omega
        have hi1 : x < n := by omega
        have hi2 : y < n := by omega
        have HY := Lib.hid hy
        have hra := hr.1
        have hrm := hr.2.1
        have hry := hr.2.2.1
        have hryb := hr.2.2.2.1
        clear hy hr
        have HCc := Lib.hid (fun W hW => HC.out (p y) (p x) W (HL.out x y hra hrm hry hryb) (HN.out y hi2) hW)
        go_upto_region 35 with fail
        refine wp_region_held_drew (S := fun w' => Below W.heap.size W w') (by kernel_rfl) (Below.drew (Below.refl _ _)) (fun hcur => ?_)
        replace hcur : Below W.heap.size W W.drew := hcur
        refine wpAnyH_take (i := 0) (v := ?_) rfl (by decide +kernel) (by decide +kernel) (by decide +kernel) (fun _ _ _ h => h) (Or.inl ⟨by rfl, ?hy⟩) hcur ?_
        case hy =>
          intro w1 hSw
          go_simp
          (try with_reducible rfl)
        (try simp only [Act.put, List.getElem_toArray, List.getElem_cons_zero, List.getElem_cons_succ, List.setIfInBounds_toArray, List.set_cons_zero, List.set_cons_succ])
        refine wpAnyH_take (i := 1) (v := ?_) rfl (by decide +kernel) (by decide +kernel) (by decide +kernel) (fun _ _ _ h => h) (Or.inl ⟨by rfl, ?hy⟩) hcur ?_
        case hy =>
          intro w1 hSw
          go_simp
          (try with_reducible rfl)
        (try simp only [Act.put, List.getElem_toArray, List.getElem_cons_zero, List.getElem_cons_succ, List.setIfInBounds_toArray, List.set_cons_zero, List.set_cons_succ])
        refine wpAnyH_take (i := 2) (v := ?_) rfl (by decide +kernel) (by decide +kernel) (by decide +kernel) (fun _ _ _ h => h) (Or.inl ⟨by rfl, ?hy⟩) hcur ?_
        case hy =>
          intro w1 hSw
          go_simp
          (try with_reducible rfl)
        (try simp only [Act.put, List.getElem_toArray, List.getElem_cons_zero, List.getElem_cons_succ, List.setIfInBounds_toArray, List.set_cons_zero, List.set_cons_succ])
        refine wpAnyH_take (i := 3) (v := ?_) rfl (by decide +kernel) (by decide +kernel) (by decide +kernel) (fun _ _ _ h => h) (Or.inl ⟨by rfl, ?hy⟩) hcur ?_
        case hy =>
          intro w1 hSw
          go_simp
          (try with_reducible rfl)
        (try simp only [Act.put, List.getElem_toArray, List.getElem_cons_zero, List.getElem_cons_succ, List.setIfInBounds_toArray, List.set_cons_zero, List.set_cons_succ])
        refine wpAnyH_take (i := 4) (v := ?_) rfl (by decide +kernel) (by decide +kernel) (by decide +kernel) (fun _ _ _ h => h) (Or.inl ⟨by rfl, ?hy⟩) hcur ?_
        case hy =>
          intro w1 hSw
          go_simp
          (try with_reducible rfl)
        (try simp only [Act.put, List.getElem_toArray, List.getElem_cons_zero, List.getElem_cons_succ, List.setIfInBounds_toArray, List.set_cons_zero, List.set_cons_succ])
        refine wpAnyH_take (i := 5) (v := ?_) rfl (by decide +kernel) (by decide +kernel) (by decide +kernel) (fun _ _ _ h => h) (Or.inl ⟨by rfl, ?hy⟩) hcur ?_
        case hy =>
          intro w1 hSw
          go_simp
          (try with_reducible rfl)
        (try simp only [Act.put, List.getElem_toArray, List.getElem_cons_zero, List.getElem_cons_succ, List.setIfInBounds_toArray, List.set_cons_zero, List.set_cons_succ])
        refine wpAnyH_take (i := 6) (v := elI E (p y)) rfl (by decide +kernel) (by decide +kernel) (by decide +kernel) (fun _ _ _ h => h) (Or.inl ⟨by rfl, ?hy⟩) hcur ?_
        case hy =>
          intro w1 hSw
          replace hSw : Below W.heap.size W w1 := hSw
          exact exec_loadI (HS.out.up hSw) hi2 rfl rfl rfl (by omega)
        (try simp only [Act.put, List.getElem_toArray, List.getElem_cons_zero, List.getElem_cons_succ, List.setIfInBounds_toArray, List.set_cons_zero, List.set_cons_succ])
        refine wpAnyH_take (i := 7) (v := ?_) rfl (by decide +kernel) (by decide +kernel) (by decide +kernel) (fun _ _ _ h => h) (Or.inl ⟨by rfl, ?hy⟩) hcur ?_
        case hy =>
          intro w1 hSw
          go_simp
          (try with_reducible rfl)
        (try simp only [Act.put, List.getElem_toArray, List.getElem_cons_zero, List.getElem_cons_succ, List.setIfInBounds_toArray, List.set_cons_zero, List.set_cons_succ])
        refine wpAnyH_take (i := 8) (v := ?_) rfl (by decide +kernel) (by decide +kernel) (by decide +kernel) (fun _ _ _ h => h) (Or.inl ⟨by rfl, ?hy⟩) hcur ?_
        case hy =>
          intro w1 hSw
          go_simp
          (try with_reducible rfl)
        (try simp only [Act.put, List.getElem_toArray, List.getElem_cons_zero, List.getElem_cons_succ, List.setIfInBounds_toArray, List.set_cons_zero, List.set_cons_succ])
        refine wpAnyH_take (i := 9) (v := ?_) rfl (by decide +kernel) (by decide +kernel) (by decide +kernel) (fun _ _ _ h => h) (Or.inl ⟨by rfl, ?hy⟩) hcur ?_
        case hy =>
          intro w1 hSw
          go_simp
          (try with_reducible rfl)
        (try simp only [Act.put, List.getElem_toArray, List.getElem_cons_zero, List.getElem_cons_succ, List.setIfInBounds_toArray, List.set_cons_zero, List.set_cons_succ])
        refine wpAnyH_take (i := 10) (v := elI E (p x)) rfl (by decide +kernel) (by decide +kernel) (by decide +kernel) (fun _ _ _ h => h) (Or.inl ⟨by rfl, ?hy⟩) hcur ?_
        case hy =>
          intro w1 hSw
          replace hSw : Below W.heap.size W w1 := hSw
          exact exec_loadI (HS.out.up hSw) hi1 rfl rfl rfl (by omega)
        (try simp only [Act.put, List.getElem_toArray, List.getElem_cons_zero, List.getElem_cons_succ, List.setIfInBounds_toArray, List.set_cons_zero, List.set_cons_succ])
        refine wpAnyH_ready (rs := [11]) (by decide +kernel) (by simp) ?_
        refine AllReadyH.cons rfl (fun K hK => ?_) AllReadyH.nil
        go_simp
        refine (HCc.out _ (HS.out.up hcur).off).mono ?_
        rintro e wn ⟨v, rfl, hv, hbn⟩
        have HV := Lib.hid hv
        go_wp2_with fail
        refine hK.out _ _ (below_of hcur hbn) (fun _ => ?_)
        clear hK K hv
        replace hcur := below_of hcur hbn
        clear hbn
        (try simp only [Act.put, List.getElem_toArray, List.getElem_cons_zero, List.getElem_cons_succ, List.setIfInBounds_toArray, List.set_cons_zero, List.set_cons_succ])
        by_cases hv0 : v < 0
        · have hvb : decide (v < 0) = true := decide_eq_true hv0
          refine wpAnyH_take (i := 12) (v := ?_) rfl (by decide +kernel) (by decide +kernel) (by decide +kernel) (fun _ _ _ h => h) (Or.inl ⟨by rfl, ?hy⟩) hcur ?_
          case hy =>
            intro w1 hSw
            go_simp
            (try with_reducible rfl)
          (try simp only [Act.put, List.getElem_toArray, List.getElem_cons_zero, List.getElem_cons_succ, List.setIfInBounds_toArray, List.set_cons_zero, List.set_cons_succ])
          refine wpAnyH_take (i := 13) (v := ?_) rfl (by decide +kernel) (by decide +kernel) (by decide +kernel) (fun _ _ _ h => h) (Or.inl ⟨by rfl, ?hy⟩) hcur ?_
          case hy =>
            intro w1 hSw
            go_simp
            (try with_reducible rfl)
          (try simp only [Act.put, List.getElem_toArray, List.getElem_cons_zero, List.getElem_cons_succ, List.setIfInBounds_toArray, List.set_cons_zero, List.set_cons_succ])
          refine wpAnyH_done (by decide +kernel) ?_ _
          have HV0 := Lib.hid (show s ≤ x by
            have h5 := HV.out.1 hv0
            rw [HY.out] at h5
            exact Nat.le_of_not_lt fun hc => HLO.out x (by omega) hc h5)
          replace HS := Lib.hid (HS.out.up hcur)
          clear HV hv0 hvb hcur
          go_wp2_with fail
          go_roundw
          case rel => exact ⟨i, x, rfl, rfl, ⟨hj1, hj2, HV0.out, by omega⟩, HS.out⟩
          case measure => simp [intOf]; omega
        · have hvb : decide (v < 0) = false := decide_eq_false hv0
          refine wpAnyH_take (i := 12) (v := ?_) rfl (by decide +kernel) (by decide +kernel) (by decide +kernel) (fun _ _ _ h => h) (Or.inl ⟨by rfl, ?hy⟩) hcur ?_
          case hy =>
            intro w1 hSw
            go_simp
            (try with_reducible rfl)
          (try simp only [Act.put, List.getElem_toArray, List.getElem_cons_zero, List.getElem_cons_succ, List.setIfInBounds_toArray, List.set_cons_zero, List.set_cons_succ])
          refine wpAnyH_take (i := 13) (v := ?_) rfl (by decide +kernel) (by decide +kernel) (by decide +kernel) (fun _ _ _ h => h) (Or.inl ⟨by rfl, ?hy⟩) hcur ?_
          case hy =>
            intro w1 hSw
            go_simp
            (try with_reducible rfl)
          (try simp only [Act.put, List.getElem_toArray, List.getElem_cons_zero, List.getElem_cons_succ, List.setIfInBounds_toArray, List.set_cons_zero, List.set_cons_succ])
          refine wpAnyH_done (by decide +kernel) ?_ _
          have HV0 := Lib.hid (show x + 1 ≤ s by
            refine Nat.lt_of_not_le fun hc => hv0 (HV.out.2 ?_)
            have h5 := HHI.out x hc (by omega)
            rw [← HY.out] at h5
            exact h5)
          replace HS := Lib.hid (HS.out.up hcur)
          clear HV hv0 hvb hcur
          go_wp2_with fail
          go_roundw
          case rel => exact ⟨x + 1, j, by go_num, rfl, ⟨by omega, HV0.out, hj3, hj4⟩, HS.out⟩
          case measure => simp [intOf]; omega
      · obtain rfl : i = s := by omega
        obtain rfl : i = j := by omega
        clear HLO HHI HRNG HC HL HN HNN HPP
        replace HS := Lib.hid (HS.out.to (show p = q by
          rw [HQE.out]
          by_cases c1 : i < m
          · obtain rfl : en = m := by have := HROT.out; omega
            exact (rot_nil2 p i en).symm
          · obtain rfl : i = m := by omega
            exact (rot_nil p i en g4).symm))
        go_upto_region 39 with fail
        go_cut [185] (fun vb wx => vb = .bool false ∧ Hid (StR W0 wx g 3 1 n cap (enI E) q))
        case first =>
          by_cases c1 : i < m
          · have c2 : ¬ m < en := fun k => HROT.out ⟨c1, k⟩
            go_wp2_with fail
            go_meet
            exact ⟨rfl, HS.out⟩
          · go_wp2_with fail
            go_meet
            exact ⟨rfl, HS.out⟩
        case rest =>
          obtain ⟨rfl, HSn⟩ := hcut
          clear HS
          have HS := HSn
          clear HSn
          go_upto_region 41 with fail
          go_cut [199] (fun vb wx => vb = .bool false ∧ Hid (StR W0 wx g 3 1 n cap (enI E) q))
          case first =>
            by_cases c1 : a < i
            · have c2 : ¬ i < mid := fun k => HLEFT.out ⟨c1, k⟩
              go_wp2_with fail
              go_meet
              exact ⟨rfl, HS.out⟩
            · go_wp2_with fail
              go_meet
              exact ⟨rfl, HS.out⟩
          case rest =>
            obtain ⟨rfl, HSn⟩ := hcut
            clear HS
            have HS := HSn
            have HP2 := Lib.hid (And.intro (PermOn.refl a mid q) (HH.out.left HLEFT.out))
            obtain ⟨q2, hq2⟩ : ∃ x, x = q := ⟨_, rfl⟩
            replace HS := Lib.hid (HS.out.to hq2.symm)
            rw [show PermOn a mid q q ∧ Srt key q a mid ↔ PermOn a mid q q2 ∧ Srt key q2 a mid by rw [hq2]] at HP2
            clear hq2 HSn
            have HH3 := Lib.hid (And.intro (srt_off HH2.out.1 HP2.out.1 (Nat.le_refl _)) (And.intro (srt_off HH2.out.2.1 HP2.out.1 (show mid ≤ en by have := HEN.out; omega)) (And.intro (lft_off HH2.out.2.2.1 HP2.out.1 (Nat.le_refl _) (show mid ≤ en by have := HEN.out; omega)) (fun hnq => srt_off (HH2.out.2.2.2 hnq) HP2.out.1 (Nat.le_refl _)))))
            have HQ2 := Lib.hid (permOn_lt HP2.out.1 (by omega) HQN.out)
            have HFIN := Lib.hid (fun (r : Nat → Nat) (h5 : PermOn mid b q2 r) (h6 : Srt key r mid b) => And.intro (HPA.out.trans ((HP2.out.1.mono (Nat.le_refl _) (by omega)).trans (h5.mono (by omega) (Nat.le_refl _)))) (srt_join HH.out.x HP2.out.1 HP2.out.2 h5 h6))
            clear HH HH2 HP2 HPA HQN HROT HLEFT HQE
            by_cases c1 : mid < en
            · by_cases c2 : en < b
              · go_wp2_with fail
                refine (HIH.out q2 mid en b _ (by omega) HS.out c1 c2 (by omega) HQ2.out HH3.out.1 HH3.out.2.1 HH3.out.2.2.1).mono ?_
                rintro e w3 ⟨rfl, q3, h2, h3, h4⟩
                have HN2 := Lib.hid (And.intro h2 (HFIN.out q3 h3 h4))
                clear h2 h3 h4
                go_wp2_with fail
                go_end0
                exact ⟨rfl, q3, HN2.out⟩
              · have HX := Lib.hid (And.intro HS.out (HFIN.out q2 (PermOn.refl _ _ _) (HH3.out.2.2.2 (fun hx => c2 hx.2))))
                go_wp2_with fail
                go_end0
                exact ⟨rfl, q2, HX.out⟩
            · have HX := Lib.hid (And.intro HS.out (HFIN.out q2 (PermOn.refl _ _ _) (HH3.out.2.2.2 (fun hx => c1 hx.1))))
              go_wp2_with fail
              go_end0
              exact ⟨rfl, q2, HX.out⟩

end Go.Proofs.Ythbafbgnclpbpaa
