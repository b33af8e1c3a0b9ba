/- Contracts of the stable sort of events: symMerge. -/
import Derived.Test.YthbafbgnclpbpaaStEa
import Derived.Test.YthbafbgnclpbpaaStPlA
namespace Go.Proofs.Ythbafbgnclpbpaa
open Go.RowKit

/-- What a merge hands back. -/
def SymTo_ev (W0 : World) (g n cap : Nat) (E : Nat → EvD) (key : Nat → Int) (p : Nat → Nat) (a b : Nat) (e : Ending) (w' : World) : Prop :=
  e = .returned (.tuple #[]) ∧ ∃ p', StR W0 w' g 93 12 n cap (enE E) p' ∧ PermOn a b p p' ∧ Srt key p' a b

set_option maxRecDepth 100000 in
set_option maxHeartbeats 4000000 in
theorem symmerge1_ev (W0 : World) (g n cap N bp : Nat) (E : Nat → EvD) (key : Nat → Int) (p : Nat → Nat) (a m b : Nat) (w : World) (hc : CmpE W0 g N bp E key) (h : StR W0 w g 93 12 n cap (enE E) p) (ham : m = a + 1) (hmb : m < b) (hb : b ≤ n) (hn : n ≤ 1000) (hN : ∀ k, k < n → p k < N) (h2 : Srt key p m b) (hl : Lft p a m b) :
    Calls Try.prog 115 #[.slice (some ⟨g, 0, none⟩) n cap, .int .i64 a, .int .i64 m, .int .i64 b, evFn bp] w (SymTo_ev W0 g n cap E key p a b) := by
  have HC := Lib.hid hc
  have HN := Lib.hid hN
  have H2 := Lib.hid h2
  have HL := Lib.hid hl
  have HS0 := Lib.hid h
  have hsub : (m : Int) - (a : Int) = 1 := by omega
  have HAM := Lib.hid ham
  clear hc hN h2 hl h
  have ham' : a < m := by omega
  clear ham
  go_enter Try.func115, Try.ntmps115
  go_wp2_with fail
  go_loopw [10, 11] (fun vi vj wr => ∃ i j : Nat, vi = .int .i64 i ∧ vj = .int .i64 j ∧ Hid (m ≤ i ∧ i ≤ j ∧ j ≤ b) ∧ Hid (∀ k, a < k → k < i → lx key (p k) (p a)) ∧ Hid (j < b → ¬ lx key (p j) (p a)) ∧ Hid (StR W0 wr g 93 12 n cap (enE E) p)) (fun vi vj _ => (intOf vj).toNat - (intOf vi).toNat)
  case atStart => exact ⟨m, b, rfl, rfl, ⟨Nat.le_refl _, by omega, Nat.le_refl _⟩, (fun k q1 q2 => by have := HAM.out; omega), (fun q => absurd q (Nat.lt_irrefl _)), HS0.out⟩
  case round =>
    obtain ⟨i, j, rfl, rfl, HJ, HLO, HHI, HS⟩ := hrel
    clear HS0
    generalize wr = W at HS ⊢
    have hj1 := HJ.out.1
    have hj2 := HJ.out.2.1
    have hj3 := HJ.out.2.2
    by_cases hlt : i < j
    · obtain ⟨x, hx⟩ : ∃ x, x = (i + j) / 2 := ⟨_, rfl⟩
      have hx1 := (half_in hlt hx).1
      have hx2 := (half_in hlt hx).2
      have hxw : ((i : Int) + (j : Int)) / 2 = (x : Int) := by rw [half_int, hx]
      have hi1 : x < n := by omega
      have hi2 : a < n := by omega
      clear hx
      have HCc := Lib.hid (fun W hW => HC.out (p x) (p a) W (HL.out a x (Nat.le_refl _) ham' (by omega) (by omega)) (HN.out x hi1) hW)
      go_upto_region 5 with fail
      refine wp_region_held_drew (S := fun w' => Below W.heap.size W w') (by kernel_rfl) (Below.drew (Below.refl _ _)) (fun hcur => ?_)
      replace hcur : Below W.heap.size W W.drew := hcur
      refine wpAnyH_take (i := 0) (v := ?_) rfl (by decide +kernel) (by decide +kernel) (by decide +kernel) (fun _ _ _ h => h) (Or.inl ⟨by rfl, ?hy⟩) hcur ?_
      case hy =>
        intro w1 hSw
        go_simp
        (try with_reducible rfl)
      (try simp only [Act.put, List.getElem_toArray, List.getElem_cons_zero, List.getElem_cons_succ, List.setIfInBounds_toArray, List.set_cons_zero, List.set_cons_succ])
      refine wpAnyH_take (i := 1) (v := ?_) rfl (by decide +kernel) (by decide +kernel) (by decide +kernel) (fun _ _ _ h => h) (Or.inl ⟨by rfl, ?hy⟩) hcur ?_
      case hy =>
        intro w1 hSw
        go_simp
        (try with_reducible rfl)
      (try simp only [Act.put, List.getElem_toArray, List.getElem_cons_zero, List.getElem_cons_succ, List.setIfInBounds_toArray, List.set_cons_zero, List.set_cons_succ])
      refine wpAnyH_take (i := 2) (v := ?_) rfl (by decide +kernel) (by decide +kernel) (by decide +kernel) (fun _ _ _ h => h) (Or.inl ⟨by rfl, ?hy⟩) hcur ?_
      case hy =>
        intro w1 hSw
        go_simp
        (try with_reducible rfl)
      (try simp only [Act.put, List.getElem_toArray, List.getElem_cons_zero, List.getElem_cons_succ, List.setIfInBounds_toArray, List.set_cons_zero, List.set_cons_succ])
      refine wpAnyH_take (i := 3) (v := ?_) rfl (by decide +kernel) (by decide +kernel) (by decide +kernel) (fun _ _ _ h => h) (Or.inl ⟨by rfl, ?hy⟩) hcur ?_
      case hy =>
        intro w1 hSw
        go_simp
        (try with_reducible rfl)
      (try simp only [Act.put, List.getElem_toArray, List.getElem_cons_zero, List.getElem_cons_succ, List.setIfInBounds_toArray, List.set_cons_zero, List.set_cons_succ])
      refine wpAnyH_take (i := 4) (v := elE E (p x)) rfl (by decide +kernel) (by decide +kernel) (by decide +kernel) (fun _ _ _ h => h) (Or.inl ⟨by rfl, ?hy⟩) hcur ?_
      case hy =>
        intro w1 hSw
        replace hSw : Below W.heap.size W w1 := hSw
        exact exec_loadE (HS.out.up hSw) hi1 rfl rfl rfl (by omega)
      (try simp only [Act.put, List.getElem_toArray, List.getElem_cons_zero, List.getElem_cons_succ, List.setIfInBounds_toArray, List.set_cons_zero, List.set_cons_succ])
      refine wpAnyH_take (i := 5) (v := ?_) rfl (by decide +kernel) (by decide +kernel) (by decide +kernel) (fun _ _ _ h => h) (Or.inl ⟨by rfl, ?hy⟩) hcur ?_
      case hy =>
        intro w1 hSw
        go_simp
        (try with_reducible rfl)
      (try simp only [Act.put, List.getElem_toArray, List.getElem_cons_zero, List.getElem_cons_succ, List.setIfInBounds_toArray, List.set_cons_zero, List.set_cons_succ])
      refine wpAnyH_take (i := 6) (v := ?_) rfl (by decide +kernel) (by decide +kernel) (by decide +kernel) (fun _ _ _ h => h) (Or.inl ⟨by rfl, ?hy⟩) hcur ?_
      case hy =>
        intro w1 hSw
        go_simp
        (try with_reducible rfl)
      (try simp only [Act.put, List.getElem_toArray, List.getElem_cons_zero, List.getElem_cons_succ, List.setIfInBounds_toArray, List.set_cons_zero, List.set_cons_succ])
      refine wpAnyH_take (i := 7) (v := ?_) rfl (by decide +kernel) (by decide +kernel) (by decide +kernel) (fun _ _ _ h => h) (Or.inl ⟨by rfl, ?hy⟩) hcur ?_
      case hy =>
        intro w1 hSw
        go_simp
        (try with_reducible rfl)
      (try simp only [Act.put, List.getElem_toArray, List.getElem_cons_zero, List.getElem_cons_succ, List.setIfInBounds_toArray, List.set_cons_zero, List.set_cons_succ])
      refine wpAnyH_take (i := 8) (v := elE E (p a)) rfl (by decide +kernel) (by decide +kernel) (by decide +kernel) (fun _ _ _ h => h) (Or.inl ⟨by rfl, ?hy⟩) hcur ?_
      case hy =>
        intro w1 hSw
        replace hSw : Below W.heap.size W w1 := hSw
        exact exec_loadE (HS.out.up hSw) hi2 rfl rfl rfl (by omega)
      (try simp only [Act.put, List.getElem_toArray, List.getElem_cons_zero, List.getElem_cons_succ, List.setIfInBounds_toArray, List.set_cons_zero, List.set_cons_succ])
      refine wpAnyH_ready (rs := [9]) (by decide +kernel) (by simp) ?_
      refine AllReadyH.cons rfl (fun K hK => ?_) AllReadyH.nil
      go_simp
      refine (HCc.out _ (HS.out.up hcur).off).mono ?_
      rintro e wn ⟨v, rfl, hv, hbn⟩
      have HV := Lib.hid hv
      go_wp2_with fail
      refine hK.out _ _ (below_of hcur hbn) (fun _ => ?_)
      clear hK K hv
      replace hcur := below_of hcur hbn
      clear hbn
      (try simp only [Act.put, List.getElem_toArray, List.getElem_cons_zero, List.getElem_cons_succ, List.setIfInBounds_toArray, List.set_cons_zero, List.set_cons_succ])
      by_cases hv0 : v < 0
      · have hvb : decide (v < 0) = true := decide_eq_true hv0
        refine wpAnyH_take (i := 10) (v := ?_) rfl (by decide +kernel) (by decide +kernel) (by decide +kernel) (fun _ _ _ h => h) (Or.inl ⟨by rfl, ?hy⟩) hcur ?_
        case hy =>
          intro w1 hSw
          go_simp
          (try with_reducible rfl)
        (try simp only [Act.put, List.getElem_toArray, List.getElem_cons_zero, List.getElem_cons_succ, List.setIfInBounds_toArray, List.set_cons_zero, List.set_cons_succ])
        refine wpAnyH_done (by decide +kernel) ?_ _
        have HV0 := Lib.hid (HV.out.1 hv0)
        replace HS := Lib.hid (HS.out.up hcur)
        clear HV hv0 hvb hcur
        go_wp2_with fail
        go_roundw
        case rel => exact ⟨x + 1, j, by go_num, rfl, ⟨by omega, by omega, hj3⟩, (fun k q1 q2 => by
          by_cases e : k = x
          · rw [e]; exact HV0.out
          · exact lx_trans (H2.out k x (by have := HAM.out; omega) (by omega) (by omega)) HV0.out), HHI.out, HS.out⟩
        case measure => simp [intOf]; omega
      · have hvb : decide (v < 0) = false := decide_eq_false hv0
        refine wpAnyH_take (i := 10) (v := ?_) rfl (by decide +kernel) (by decide +kernel) (by decide +kernel) (fun _ _ _ h => h) (Or.inl ⟨by rfl, ?hy⟩) hcur ?_
        case hy =>
          intro w1 hSw
          go_simp
          (try with_reducible rfl)
        (try simp only [Act.put, List.getElem_toArray, List.getElem_cons_zero, List.getElem_cons_succ, List.setIfInBounds_toArray, List.set_cons_zero, List.set_cons_succ])
        refine wpAnyH_done (by decide +kernel) ?_ _
        have HV0 := Lib.hid (fun q => hv0 (HV.out.2 q))
        replace HS := Lib.hid (HS.out.up hcur)
        clear HV hv0 hvb hcur
        go_wp2_with fail
        go_roundw
        case rel => exact ⟨i, x, rfl, rfl, ⟨hj1, hx1, by omega⟩, HLO.out, (fun _ => HV0.out), HS.out⟩
        case measure => simp [intOf]; omega
    · obtain rfl : i = j := by omega
      have HRES := Lib.hid (show Srt key (rotF p a (a + 1) i) a b ∧ PermOn a b p (rotF p a (a + 1) i) from ⟨one_srt (by rw [← HAM.out]; exact H2.out) (fun k q1 q2 => HL.out a k (Nat.le_refl _) ham' (by have := HAM.out; omega) q2) (by omega) hj3 HLO.out HHI.out, (rot_perm p (by omega) (by omega)).mono (Nat.le_refl _) hj3⟩)
      have HT0 := Lib.hid (HS.out.to (rot_nil2 p a (a + 1)).symm)
      clear HS HLO HHI
      go_wp2_with fail
      go_loopw [13] (fun vk wr => ∃ k : Nat, vk = .int .i64 k ∧ Hid (a ≤ k ∧ k + 1 ≤ i) ∧ Hid (StR W0 wr g 93 12 n cap (enE E) (rotF p a (a + 1) (k + 1)))) (fun vk _ => i - (intOf vk).toNat)
      case atStart => exact ⟨a, rfl, ⟨Nat.le_refl _, by omega⟩, HT0.out⟩
      case round =>
        obtain ⟨k, rfl, HK, HS⟩ := hrel
        clear HT0
        have hk1 := HK.out.1
        have hk2 := HK.out.2
        by_cases hlt2 : k + 1 < i
        · obtain ⟨y, hy⟩ : ∃ y, y = k + 1 := ⟨_, rfl⟩
          have hwy : IntKind.i64.wrap ((k : Int) + 1) = (y : Int) := by rw [IntKind.wrap_i64]; omega
          have hi1 : k < n := by omega
          have hi2 : y < n := by omega
          have HR := Lib.hid (show swp (rotF p a (a + 1) (k + 1)) k y = rotF p a (a + 1) (k + 2) by rw [hy]; exact rot_up p a k hk1)
          clear hy
          go_upto_region 11 with fail
          apply cut_after (R := fun W2 => StR W0 W2 g 93 12 n cap (enE E) (swp (rotF p a (a + 1) (k + 1)) k y))
          case main =>
            intro HG
            refine wp_region_held_drew (S := fun _ => True) (by kernel_rfl) trivial (fun hcur => ?_)
            refine wpAnyH_take (i := 0) (v := ?_) rfl (by decide +kernel) (by decide +kernel) (by decide +kernel) (fun _ _ _ h => h) (Or.inl ⟨by rfl, ?hy⟩) hcur ?_
            case hy =>
              intro w1 hSw
              go_simp
              (try with_reducible rfl)
            (try simp only [Act.put, List.getElem_toArray, List.getElem_cons_zero, List.getElem_cons_succ, List.setIfInBounds_toArray, List.set_cons_zero, List.set_cons_succ])
            refine wpAnyH_take (i := 1) (v := ?_) rfl (by decide +kernel) (by decide +kernel) (by decide +kernel) (fun _ _ _ h => h) (Or.inl ⟨by rfl, ?hy⟩) hcur ?_
            case hy =>
              intro w1 hSw
              go_simp
              (try with_reducible rfl)
            (try simp only [Act.put, List.getElem_toArray, List.getElem_cons_zero, List.getElem_cons_succ, List.setIfInBounds_toArray, List.set_cons_zero, List.set_cons_succ])
            refine wpAnyH_take (i := 2) (v := ?_) rfl (by decide +kernel) (by decide +kernel) (by decide +kernel) (fun _ _ _ h => h) (Or.inl ⟨by rfl, ?hy⟩) hcur ?_
            case hy =>
              intro w1 hSw
              go_simp
              (try with_reducible rfl)
            (try simp only [Act.put, List.getElem_toArray, List.getElem_cons_zero, List.getElem_cons_succ, List.setIfInBounds_toArray, List.set_cons_zero, List.set_cons_succ])
            refine wpAnyH_take (i := 3) (v := ?_) rfl (by decide +kernel) (by decide +kernel) (by decide +kernel) (fun _ _ _ h => h) (Or.inl ⟨by rfl, ?hy⟩) hcur ?_
            case hy =>
              intro w1 hSw
              go_simp
              (try with_reducible rfl)
            (try simp only [Act.put, List.getElem_toArray, List.getElem_cons_zero, List.getElem_cons_succ, List.setIfInBounds_toArray, List.set_cons_zero, List.set_cons_succ])
            refine wpAnyH_take (i := 4) (v := ?_) rfl (by decide +kernel) (by decide +kernel) (by decide +kernel) (fun _ _ _ h => h) (Or.inl ⟨by rfl, ?hy⟩) hcur ?_
            case hy =>
              intro w1 hSw
              go_simp
              (try with_reducible rfl)
            (try simp only [Act.put, List.getElem_toArray, List.getElem_cons_zero, List.getElem_cons_succ, List.setIfInBounds_toArray, List.set_cons_zero, List.set_cons_succ])
            refine wpAnyH_take (i := 5) (v := ?_) rfl (by decide +kernel) (by decide +kernel) (by decide +kernel) (fun _ _ _ h => h) (Or.inl ⟨by rfl, ?hy⟩) hcur ?_
            case hy =>
              intro w1 hSw
              go_simp
              (try with_reducible rfl)
            (try simp only [Act.put, List.getElem_toArray, List.getElem_cons_zero, List.getElem_cons_succ, List.setIfInBounds_toArray, List.set_cons_zero, List.set_cons_succ])
            refine wpAnyH_take (i := 6) (v := ?_) rfl (by decide +kernel) (by decide +kernel) (by decide +kernel) (fun _ _ _ h => h) (Or.inl ⟨by rfl, ?hy⟩) hcur ?_
            case hy =>
              intro w1 hSw
              go_simp
              (try with_reducible rfl)
            (try simp only [Act.put, List.getElem_toArray, List.getElem_cons_zero, List.getElem_cons_succ, List.setIfInBounds_toArray, List.set_cons_zero, List.set_cons_succ])
            refine wpAnyH_take (i := 7) (v := ?_) rfl (by decide +kernel) (by decide +kernel) (by decide +kernel) (fun _ _ _ h => h) (Or.inl ⟨by rfl, ?hy⟩) hcur ?_
            case hy =>
              intro w1 hSw
              go_simp
              (try with_reducible rfl)
            (try simp only [Act.put, List.getElem_toArray, List.getElem_cons_zero, List.getElem_cons_succ, List.setIfInBounds_toArray, List.set_cons_zero, List.set_cons_succ])
            refine wpAnyH_take (i := 8) (v := ?_) rfl (by decide +kernel) (by decide +kernel) (by decide +kernel) (fun _ _ _ h => h) (Or.inl ⟨by rfl, ?hy⟩) hcur ?_
            case hy =>
              intro w1 hSw
              go_simp
              (try with_reducible rfl)
            (try simp only [Act.put, List.getElem_toArray, List.getElem_cons_zero, List.getElem_cons_succ, List.setIfInBounds_toArray, List.set_cons_zero, List.set_cons_succ])
            refine wpAnyH_take (i := 10) (v := ?_) rfl (by decide +kernel) (by decide +kernel) (by decide +kernel) (fun _ _ _ h => h) (Or.inl ⟨by rfl, ?hy⟩) hcur ?_
            case hy =>
              intro w1 hSw
              go_simp
              (try with_reducible rfl)
            (try simp only [Act.put, List.getElem_toArray, List.getElem_cons_zero, List.getElem_cons_succ, List.setIfInBounds_toArray, List.set_cons_zero, List.set_cons_succ])
            refine wpAnyH_take (i := 11) (v := ?_) rfl (by decide +kernel) (by decide +kernel) (by decide +kernel) (fun _ _ _ h => h) (Or.inl ⟨by rfl, ?hy⟩) hcur ?_
            case hy =>
              intro w1 hSw
              go_simp
              (try with_reducible rfl)
            (try simp only [Act.put, List.getElem_toArray, List.getElem_cons_zero, List.getElem_cons_succ, List.setIfInBounds_toArray, List.set_cons_zero, List.set_cons_succ])
            refine wpAnyH_take (i := 12) (v := ?_) rfl (by decide +kernel) (by decide +kernel) (by decide +kernel) (fun _ _ _ h => h) (Or.inl ⟨by rfl, ?hy⟩) hcur ?_
            case hy =>
              intro w1 hSw
              go_simp
              (try with_reducible rfl)
            (try simp only [Act.put, List.getElem_toArray, List.getElem_cons_zero, List.getElem_cons_succ, List.setIfInBounds_toArray, List.set_cons_zero, List.set_cons_succ])
            refine wpAnyH_ready (rs := [9, 13]) (by decide +kernel) (by simp) ?_
            refine AllReadyH.cons rfl (fun K hK => ?_) (AllReadyH.cons rfl (fun K hK => ?_) AllReadyH.nil)
            · rw [if_pos (by rfl)]
              refine oper_value (exec_loadE HS.out.drew hi2 rfl rfl rfl (by omega)) ?_
              refine hK.out _ _ trivial (fun _ => ?_)
              clear hK K
              (try simp only [Act.put, List.getElem_toArray, List.getElem_cons_zero, List.getElem_cons_succ, List.setIfInBounds_toArray, List.set_cons_zero, List.set_cons_succ])
              refine wpAnyH_ready (rs := [13]) (by decide +kernel) (by simp) ?_
              refine AllReadyH.cons rfl (fun K hK => ?_) AllReadyH.nil
              rw [if_pos (by rfl)]
              refine oper_value (exec_loadE HS.out.drew hi1 rfl rfl rfl (by omega)) ?_
              refine hK.out _ _ trivial (fun _ => ?_)
              clear hK K
              (try simp only [Act.put, List.getElem_toArray, List.getElem_cons_zero, List.getElem_cons_succ, List.setIfInBounds_toArray, List.set_cons_zero, List.set_cons_succ])
              refine wpAnyH_take (i := 14) (v := ?_) rfl (by decide +kernel) (by decide +kernel) (by decide +kernel) (fun _ _ _ h => h) (Or.inl ⟨by rfl, ?hy⟩) hcur ?_
              case hy =>
                intro w1 hSw
                go_simp
                (try with_reducible rfl)
              (try simp only [Act.put, List.getElem_toArray, List.getElem_cons_zero, List.getElem_cons_succ, List.setIfInBounds_toArray, List.set_cons_zero, List.set_cons_succ])
              have HT := Lib.hid (HS.out.drew.put (enE_len E) hi1 (rotF p a (a + 1) (k + 1) y))
              refine wpAnyH_ready (rs := [15]) (by decide +kernel) (by simp) ?_
              refine AllReadyH.cons rfl (fun K hK => ?_) AllReadyH.nil
              rw [if_pos (by rfl)]
              refine oper_skip (exec_storeE HS.out.drew hi1 rfl rfl rfl (by omega)) ?_
              refine hK.out _ _ trivial (fun _ => ?_)
              clear hK K
              (try simp only [Act.put, List.getElem_toArray, List.getElem_cons_zero, List.getElem_cons_succ, List.setIfInBounds_toArray, List.set_cons_zero, List.set_cons_succ])
              generalize setL _ _ _ _ = W1 at HT ⊢
              refine wpAnyH_take (i := 16) (v := ?_) rfl (by decide +kernel) (by decide +kernel) (by decide +kernel) (fun _ _ _ h => h) (Or.inl ⟨by rfl, ?hy⟩) hcur ?_
              case hy =>
                intro w1 hSw
                go_simp
                (try with_reducible rfl)
              (try simp only [Act.put, List.getElem_toArray, List.getElem_cons_zero, List.getElem_cons_succ, List.setIfInBounds_toArray, List.set_cons_zero, List.set_cons_succ])
              have HT2 := Lib.hid ((HT.out.put (enE_len E) hi2 (rotF p a (a + 1) (k + 1) k)).to (upd_swp _ _ _))
              refine wpAnyH_ready (rs := [17]) (by decide +kernel) (by simp) ?_
              refine AllReadyH.cons rfl (fun K hK => ?_) AllReadyH.nil
              rw [if_pos (by rfl)]
              refine oper_skip (exec_storeE HT.out hi2 rfl rfl rfl (by omega)) ?_
              refine hK.out _ _ trivial (fun _ => ?_)
              clear hK K
              (try simp only [Act.put, List.getElem_toArray, List.getElem_cons_zero, List.getElem_cons_succ, List.setIfInBounds_toArray, List.set_cons_zero, List.set_cons_succ])
              generalize setL _ _ _ _ = W2 at HT2 ⊢
              refine wpAnyH_done (by decide +kernel) ?_ _
              exact HG _ HT2.out
            · rw [if_pos (by rfl)]
              refine oper_value (exec_loadE HS.out.drew hi1 rfl rfl rfl (by omega)) ?_
              refine hK.out _ _ trivial (fun _ => ?_)
              clear hK K
              (try simp only [Act.put, List.getElem_toArray, List.getElem_cons_zero, List.getElem_cons_succ, List.setIfInBounds_toArray, List.set_cons_zero, List.set_cons_succ])
              refine wpAnyH_ready (rs := [9]) (by decide +kernel) (by simp) ?_
              refine AllReadyH.cons rfl (fun K hK => ?_) AllReadyH.nil
              rw [if_pos (by rfl)]
              refine oper_value (exec_loadE HS.out.drew hi2 rfl rfl rfl (by omega)) ?_
              refine hK.out _ _ trivial (fun _ => ?_)
              clear hK K
              (try simp only [Act.put, List.getElem_toArray, List.getElem_cons_zero, List.getElem_cons_succ, List.setIfInBounds_toArray, List.set_cons_zero, List.set_cons_succ])
              refine wpAnyH_take (i := 14) (v := ?_) rfl (by decide +kernel) (by decide +kernel) (by decide +kernel) (fun _ _ _ h => h) (Or.inl ⟨by rfl, ?hy⟩) hcur ?_
              case hy =>
                intro w1 hSw
                go_simp
                (try with_reducible rfl)
              (try simp only [Act.put, List.getElem_toArray, List.getElem_cons_zero, List.getElem_cons_succ, List.setIfInBounds_toArray, List.set_cons_zero, List.set_cons_succ])
              have HT := Lib.hid (HS.out.drew.put (enE_len E) hi1 (rotF p a (a + 1) (k + 1) y))
              refine wpAnyH_ready (rs := [15]) (by decide +kernel) (by simp) ?_
              refine AllReadyH.cons rfl (fun K hK => ?_) AllReadyH.nil
              rw [if_pos (by rfl)]
              refine oper_skip (exec_storeE HS.out.drew hi1 rfl rfl rfl (by omega)) ?_
              refine hK.out _ _ trivial (fun _ => ?_)
              clear hK K
              (try simp only [Act.put, List.getElem_toArray, List.getElem_cons_zero, List.getElem_cons_succ, List.setIfInBounds_toArray, List.set_cons_zero, List.set_cons_succ])
              generalize setL _ _ _ _ = W1 at HT ⊢
              refine wpAnyH_take (i := 16) (v := ?_) rfl (by decide +kernel) (by decide +kernel) (by decide +kernel) (fun _ _ _ h => h) (Or.inl ⟨by rfl, ?hy⟩) hcur ?_
              case hy =>
                intro w1 hSw
                go_simp
                (try with_reducible rfl)
              (try simp only [Act.put, List.getElem_toArray, List.getElem_cons_zero, List.getElem_cons_succ, List.setIfInBounds_toArray, List.set_cons_zero, List.set_cons_succ])
              have HT2 := Lib.hid ((HT.out.put (enE_len E) hi2 (rotF p a (a + 1) (k + 1) k)).to (upd_swp _ _ _))
              refine wpAnyH_ready (rs := [17]) (by decide +kernel) (by simp) ?_
              refine AllReadyH.cons rfl (fun K hK => ?_) AllReadyH.nil
              rw [if_pos (by rfl)]
              refine oper_skip (exec_storeE HT.out hi2 rfl rfl rfl (by omega)) ?_
              refine hK.out _ _ trivial (fun _ => ?_)
              clear hK K
              (try simp only [Act.put, List.getElem_toArray, List.getElem_cons_zero, List.getElem_cons_succ, List.setIfInBounds_toArray, List.set_cons_zero, List.set_cons_succ])
              generalize setL _ _ _ _ = W2 at HT2 ⊢
              refine wpAnyH_done (by decide +kernel) ?_ _
              exact HG _ HT2.out
          case tail =>
            intro w9 h9
            have HNX := Lib.hid (h9.to HR.out)
            clear h9 hwy
            go_wp2_with fail
            go_roundw
            case rel => exact ⟨k + 1, by go_num, ⟨by omega, by omega⟩, HNX.out⟩
            case measure => simp [intOf]; omega
        · obtain rfl : i = k + 1 := by omega
          have hki : ¬ ((k : Int) + 1 - 1 > (k : Int)) := by omega
          go_wp2_with fail
          go_end0
          exact ⟨rfl, _, HS.out, HRES.out.2, HRES.out.1⟩

set_option maxRecDepth 100000 in
set_option maxHeartbeats 4000000 in
theorem symmerge2_ev (W0 : World) (g n cap N bp : Nat) (E : Nat → EvD) (key : Nat → Int) (p : Nat → Nat) (a m b : Nat) (w : World) (hc : CmpE W0 g N bp E key) (h : StR W0 w g 93 12 n cap (enE E) p) (ham : a < m) (hne : m ≠ a + 1) (hmb : b = m + 1) (hb : b ≤ n) (hn : n ≤ 1000) (hN : ∀ k, k < n → p k < N) (h1 : Srt key p a m) (hl : Lft p a m b) :
    Calls Try.prog 115 #[.slice (some ⟨g, 0, none⟩) n cap, .int .i64 a, .int .i64 m, .int .i64 b, evFn bp] w (SymTo_ev W0 g n cap E key p a b) := by
  have HC := Lib.hid hc
  have HN := Lib.hid hN
  have H1 := Lib.hid h1
  have HL := Lib.hid hl
  have HS0 := Lib.hid h
  obtain ⟨d, hd⟩ : ∃ d : Nat, d = m - a := ⟨_, rfl⟩
  have hsub : (m : Int) - (a : Int) = (d : Int) := by omega
  have hd1 : ¬ (d : Int) = 1 := by omega
  have hd1b : ((d : Int) == 1) = false := by simpa using hd1
  have hsub2 : (b : Int) - (m : Int) = 1 := by omega
  have HBM := Lib.hid hmb
  have hmb' : m < b := by omega
  clear hc hN h1 hl h hd hmb hne
  go_enter Try.func115, Try.ntmps115
  go_wp2_with fail
  go_loopw [14, 15] (fun vi vj wr => ∃ i j : Nat, vi = .int .i64 i ∧ vj = .int .i64 j ∧ Hid (a ≤ i ∧ i ≤ j ∧ j ≤ m) ∧ Hid (a < i → ¬ lx key (p m) (p (i - 1))) ∧ Hid (j < m → lx key (p m) (p j)) ∧ Hid (StR W0 wr g 93 12 n cap (enE E) p)) (fun vi vj _ => (intOf vj).toNat - (intOf vi).toNat)
  case atStart => exact ⟨a, m, rfl, rfl, ⟨Nat.le_refl _, by omega, Nat.le_refl _⟩, (fun q => absurd q (Nat.lt_irrefl _)), (fun q => absurd q (Nat.lt_irrefl _)), HS0.out⟩
  case round =>
    obtain ⟨i, j, rfl, rfl, HJ, HLO, HHI, HS⟩ := hrel
    clear HS0
    generalize wr = W at HS ⊢
    have hj1 := HJ.out.1
    have hj2 := HJ.out.2.1
    have hj3 := HJ.out.2.2
    by_cases hlt : i < j
    · obtain ⟨x, hx⟩ : ∃ x, x = (i + j) / 2 := ⟨_, rfl⟩
      have hx1 := (half_in hlt hx).1
      have hx2 := (half_in hlt hx).2
      have hxw : ((i : Int) + (j : Int)) / 2 = (x : Int) := by rw [half_int, hx]
      have hi1 : x < n := by omega
      have hi2 : m < n := by omega
      clear hx
      have HCc := Lib.hid (fun W hW => HC.out (p m) (p x) W (HL.out x m (by omega) (by omega) (Nat.le_refl _) hmb') (HN.out m hi2) hW)
      go_upto_region 17 with fail
      refine wp_region_held_drew (S := fun w' => Below W.heap.size W w') (by kernel_rfl) (Below.drew (Below.refl _ _)) (fun hcur => ?_)
      replace hcur : Below W.heap.size W W.drew := hcur
      refine wpAnyH_take (i := 0) (v := ?_) rfl (by decide +kernel) (by decide +kernel) (by decide +kernel) (fun _ _ _ h => h) (Or.inl ⟨by rfl, ?hy⟩) hcur ?_
      case hy =>
        intro w1 hSw
        go_simp
        (try with_reducible rfl)
      (try simp only [Act.put, List.getElem_toArray, List.getElem_cons_zero, List.getElem_cons_succ, List.setIfInBounds_toArray, List.set_cons_zero, List.set_cons_succ])
      refine wpAnyH_take (i := 1) (v := ?_) rfl (by decide +kernel) (by decide +kernel) (by decide +kernel) (fun _ _ _ h => h) (Or.inl ⟨by rfl, ?hy⟩) hcur ?_
      case hy =>
        intro w1 hSw
        go_simp
        (try with_reducible rfl)
      (try simp only [Act.put, List.getElem_toArray, List.getElem_cons_zero, List.getElem_cons_succ, List.setIfInBounds_toArray, List.set_cons_zero, List.set_cons_succ])
      refine wpAnyH_take (i := 2) (v := ?_) rfl (by decide +kernel) (by decide +kernel) (by decide +kernel) (fun _ _ _ h => h) (Or.inl ⟨by rfl, ?hy⟩) hcur ?_
      case hy =>
        intro w1 hSw
        go_simp
        (try with_reducible rfl)
      (try simp only [Act.put, List.getElem_toArray, List.getElem_cons_zero, List.getElem_cons_succ, List.setIfInBounds_toArray, List.set_cons_zero, List.set_cons_succ])
      refine wpAnyH_take (i := 3) (v := ?_) rfl (by decide +kernel) (by decide +kernel) (by decide +kernel) (fun _ _ _ h => h) (Or.inl ⟨by rfl, ?hy⟩) hcur ?_
      case hy =>
        intro w1 hSw
        go_simp
        (try with_reducible rfl)
      (try simp only [Act.put, List.getElem_toArray, List.getElem_cons_zero, List.getElem_cons_succ, List.setIfInBounds_toArray, List.set_cons_zero, List.set_cons_succ])
      refine wpAnyH_take (i := 4) (v := elE E (p m)) rfl (by decide +kernel) (by decide +kernel) (by decide +kernel) (fun _ _ _ h => h) (Or.inl ⟨by rfl, ?hy⟩) hcur ?_
      case hy =>
        intro w1 hSw
        replace hSw : Below W.heap.size W w1 := hSw
        exact exec_loadE (HS.out.up hSw) hi2 rfl rfl rfl (by omega)
      (try simp only [Act.put, List.getElem_toArray, List.getElem_cons_zero, List.getElem_cons_succ, List.setIfInBounds_toArray, List.set_cons_zero, List.set_cons_succ])
      refine wpAnyH_take (i := 5) (v := ?_) rfl (by decide +kernel) (by decide +kernel) (by decide +kernel) (fun _ _ _ h => h) (Or.inl ⟨by rfl, ?hy⟩) hcur ?_
      case hy =>
        intro w1 hSw
        go_simp
        (try with_reducible rfl)
      (try simp only [Act.put, List.getElem_toArray, List.getElem_cons_zero, List.getElem_cons_succ, List.setIfInBounds_toArray, List.set_cons_zero, List.set_cons_succ])
      refine wpAnyH_take (i := 6) (v := ?_) rfl (by decide +kernel) (by decide +kernel) (by decide +kernel) (fun _ _ _ h => h) (Or.inl ⟨by rfl, ?hy⟩) hcur ?_
      case hy =>
        intro w1 hSw
        go_simp
        (try with_reducible rfl)
      (try simp only [Act.put, List.getElem_toArray, List.getElem_cons_zero, List.getElem_cons_succ, List.setIfInBounds_toArray, List.set_cons_zero, List.set_cons_succ])
      refine wpAnyH_take (i := 7) (v := ?_) rfl (by decide +kernel) (by decide +kernel) (by decide +kernel) (fun _ _ _ h => h) (Or.inl ⟨by rfl, ?hy⟩) hcur ?_
      case hy =>
        intro w1 hSw
        go_simp
        (try with_reducible rfl)
      (try simp only [Act.put, List.getElem_toArray, List.getElem_cons_zero, List.getElem_cons_succ, List.setIfInBounds_toArray, List.set_cons_zero, List.set_cons_succ])
      refine wpAnyH_take (i := 8) (v := elE E (p x)) rfl (by decide +kernel) (by decide +kernel) (by decide +kernel) (fun _ _ _ h => h) (Or.inl ⟨by rfl, ?hy⟩) hcur ?_
      case hy =>
        intro w1 hSw
        replace hSw : Below W.heap.size W w1 := hSw
        exact exec_loadE (HS.out.up hSw) hi1 rfl rfl rfl (by omega)
      (try simp only [Act.put, List.getElem_toArray, List.getElem_cons_zero, List.getElem_cons_succ, List.setIfInBounds_toArray, List.set_cons_zero, List.set_cons_succ])
      refine wpAnyH_ready (rs := [9]) (by decide +kernel) (by simp) ?_
      refine AllReadyH.cons rfl (fun K hK => ?_) AllReadyH.nil
      go_simp
      refine (HCc.out _ (HS.out.up hcur).off).mono ?_
      rintro e wn ⟨v, rfl, hv, hbn⟩
      have HV := Lib.hid hv
      go_wp2_with fail
      refine hK.out _ _ (below_of hcur hbn) (fun _ => ?_)
      clear hK K hv
      replace hcur := below_of hcur hbn
      clear hbn
      (try simp only [Act.put, List.getElem_toArray, List.getElem_cons_zero, List.getElem_cons_succ, List.setIfInBounds_toArray, List.set_cons_zero, List.set_cons_succ])
      by_cases hv0 : v < 0
      · have hvb : decide (v < 0) = true := decide_eq_true hv0
        refine wpAnyH_take (i := 10) (v := ?_) rfl (by decide +kernel) (by decide +kernel) (by decide +kernel) (fun _ _ _ h => h) (Or.inl ⟨by rfl, ?hy⟩) hcur ?_
        case hy =>
          intro w1 hSw
          go_simp
          (try with_reducible rfl)
        (try simp only [Act.put, List.getElem_toArray, List.getElem_cons_zero, List.getElem_cons_succ, List.setIfInBounds_toArray, List.set_cons_zero, List.set_cons_succ])
        refine wpAnyH_take (i := 11) (v := ?_) rfl (by decide +kernel) (by decide +kernel) (by decide +kernel) (fun _ _ _ h => h) (Or.inl ⟨by rfl, ?hy⟩) hcur ?_
        case hy =>
          intro w1 hSw
          go_simp
          (try with_reducible rfl)
        (try simp only [Act.put, List.getElem_toArray, List.getElem_cons_zero, List.getElem_cons_succ, List.setIfInBounds_toArray, List.set_cons_zero, List.set_cons_succ])
        refine wpAnyH_done (by decide +kernel) ?_ _
        have HV0 := Lib.hid (HV.out.1 hv0)
        replace HS := Lib.hid (HS.out.up hcur)
        clear HV hv0 hvb hcur
        go_wp2_with fail
        go_roundw
        case rel => exact ⟨i, x, rfl, rfl, ⟨hj1, hx1, by omega⟩, HLO.out, (fun _ => HV0.out), HS.out⟩
        case measure => simp [intOf]; omega
      · have hvb : decide (v < 0) = false := decide_eq_false hv0
        refine wpAnyH_take (i := 10) (v := ?_) rfl (by decide +kernel) (by decide +kernel) (by decide +kernel) (fun _ _ _ h => h) (Or.inl ⟨by rfl, ?hy⟩) hcur ?_
        case hy =>
          intro w1 hSw
          go_simp
          (try with_reducible rfl)
        (try simp only [Act.put, List.getElem_toArray, List.getElem_cons_zero, List.getElem_cons_succ, List.setIfInBounds_toArray, List.set_cons_zero, List.set_cons_succ])
        refine wpAnyH_take (i := 11) (v := ?_) rfl (by decide +kernel) (by decide +kernel) (by decide +kernel) (fun _ _ _ h => h) (Or.inl ⟨by rfl, ?hy⟩) hcur ?_
        case hy =>
          intro w1 hSw
          go_simp
          (try with_reducible rfl)
        (try simp only [Act.put, List.getElem_toArray, List.getElem_cons_zero, List.getElem_cons_succ, List.setIfInBounds_toArray, List.set_cons_zero, List.set_cons_succ])
        refine wpAnyH_done (by decide +kernel) ?_ _
        have HV0 := Lib.hid (fun q => hv0 (HV.out.2 q))
        replace HS := Lib.hid (HS.out.up hcur)
        clear HV hv0 hvb hcur
        go_wp2_with fail
        go_roundw
        case rel => exact ⟨x + 1, j, by go_num, rfl, ⟨by omega, by omega, hj3⟩, (fun _ => HV0.out), HHI.out, HS.out⟩
        case measure => simp [intOf]; omega
    · obtain rfl : i = j := by omega
      have HRES := Lib.hid (show Srt key (rotF p i m (m + 1)) a (m + 1) ∧ PermOn a (m + 1) p (rotF p i m (m + 1)) from ⟨two_srt H1.out (fun k q1 q2 => HL.out k m q1 q2 (Nat.le_refl _) hmb') hj1 hj3 HLO.out HHI.out, (rot_perm p hj3 (by omega)).mono hj1 (Nat.le_refl _)⟩)
      have HT0 := Lib.hid (HS.out.to (rot_nil p m (m + 1) (by omega)).symm)
      clear HS HLO HHI
      go_wp2_with fail
      go_loopw [17] (fun vk wr => ∃ k : Nat, vk = .int .i64 k ∧ Hid (i ≤ k ∧ k ≤ m) ∧ Hid (StR W0 wr g 93 12 n cap (enE E) (rotF p k m (m + 1)))) (fun vk _ => (intOf vk).toNat)
      case atStart => exact ⟨m, rfl, ⟨hj3, Nat.le_refl _⟩, HT0.out⟩
      case round =>
        obtain ⟨k, rfl, HK, HS⟩ := hrel
        clear HT0
        have hk1 := HK.out.1
        have hk2 := HK.out.2
        by_cases hlt2 : i < k
        · obtain ⟨y, hy⟩ : ∃ y, k = y + 1 := ⟨k - 1, by omega⟩
          have hsy : (k : Int) - 1 = (y : Int) := by omega
          have hwy : IntKind.i64.wrap (y : Int) = (y : Int) := by rw [IntKind.wrap_i64]; omega
          have hi1 : k < n := by omega
          have hi2 : y < n := by omega
          have HYK := Lib.hid hy
          have HR := Lib.hid (show swp (rotF p k m (m + 1)) k y = rotF p y m (m + 1) by rw [hy]; exact rot_down p y m (by omega))
          clear hy
          go_upto_region 23 with fail
          apply cut_after (R := fun W2 => StR W0 W2 g 93 12 n cap (enE E) (swp (rotF p k m (m + 1)) k y))
          case main =>
            intro HG
            refine wp_region_held_drew (S := fun _ => True) (by kernel_rfl) trivial (fun hcur => ?_)
            refine wpAnyH_take (i := 0) (v := ?_) rfl (by decide +kernel) (by decide +kernel) (by decide +kernel) (fun _ _ _ h => h) (Or.inl ⟨by rfl, ?hy⟩) hcur ?_
            case hy =>
              intro w1 hSw
              go_simp
              (try with_reducible rfl)
            (try simp only [Act.put, List.getElem_toArray, List.getElem_cons_zero, List.getElem_cons_succ, List.setIfInBounds_toArray, List.set_cons_zero, List.set_cons_succ])
            refine wpAnyH_take (i := 1) (v := ?_) rfl (by decide +kernel) (by decide +kernel) (by decide +kernel) (fun _ _ _ h => h) (Or.inl ⟨by rfl, ?hy⟩) hcur ?_
            case hy =>
              intro w1 hSw
              go_simp
              (try with_reducible rfl)
            (try simp only [Act.put, List.getElem_toArray, List.getElem_cons_zero, List.getElem_cons_succ, List.setIfInBounds_toArray, List.set_cons_zero, List.set_cons_succ])
            refine wpAnyH_take (i := 2) (v := ?_) rfl (by decide +kernel) (by decide +kernel) (by decide +kernel) (fun _ _ _ h => h) (Or.inl ⟨by rfl, ?hy⟩) hcur ?_
            case hy =>
              intro w1 hSw
              go_simp
              (try with_reducible rfl)
            (try simp only [Act.put, List.getElem_toArray, List.getElem_cons_zero, List.getElem_cons_succ, List.setIfInBounds_toArray, List.set_cons_zero, List.set_cons_succ])
            refine wpAnyH_take (i := 3) (v := ?_) rfl (by decide +kernel) (by decide +kernel) (by decide +kernel) (fun _ _ _ h => h) (Or.inl ⟨by rfl, ?hy⟩) hcur ?_
            case hy =>
              intro w1 hSw
              go_simp
              (try with_reducible rfl)
            (try simp only [Act.put, List.getElem_toArray, List.getElem_cons_zero, List.getElem_cons_succ, List.setIfInBounds_toArray, List.set_cons_zero, List.set_cons_succ])
            refine wpAnyH_take (i := 4) (v := ?_) rfl (by decide +kernel) (by decide +kernel) (by decide +kernel) (fun _ _ _ h => h) (Or.inl ⟨by rfl, ?hy⟩) hcur ?_
            case hy =>
              intro w1 hSw
              go_simp
              (try with_reducible rfl)
            (try simp only [Act.put, List.getElem_toArray, List.getElem_cons_zero, List.getElem_cons_succ, List.setIfInBounds_toArray, List.set_cons_zero, List.set_cons_succ])
            refine wpAnyH_take (i := 5) (v := ?_) rfl (by decide +kernel) (by decide +kernel) (by decide +kernel) (fun _ _ _ h => h) (Or.inl ⟨by rfl, ?hy⟩) hcur ?_
            case hy =>
              intro w1 hSw
              go_simp
              (try with_reducible rfl)
            (try simp only [Act.put, List.getElem_toArray, List.getElem_cons_zero, List.getElem_cons_succ, List.setIfInBounds_toArray, List.set_cons_zero, List.set_cons_succ])
            refine wpAnyH_take (i := 6) (v := ?_) rfl (by decide +kernel) (by decide +kernel) (by decide +kernel) (fun _ _ _ h => h) (Or.inl ⟨by rfl, ?hy⟩) hcur ?_
            case hy =>
              intro w1 hSw
              go_simp
              (try with_reducible rfl)
            (try simp only [Act.put, List.getElem_toArray, List.getElem_cons_zero, List.getElem_cons_succ, List.setIfInBounds_toArray, List.set_cons_zero, List.set_cons_succ])
            refine wpAnyH_take (i := 7) (v := ?_) rfl (by decide +kernel) (by decide +kernel) (by decide +kernel) (fun _ _ _ h => h) (Or.inl ⟨by rfl, ?hy⟩) hcur ?_
            case hy =>
              intro w1 hSw
              go_simp
              (try with_reducible rfl)
            (try simp only [Act.put, List.getElem_toArray, List.getElem_cons_zero, List.getElem_cons_succ, List.setIfInBounds_toArray, List.set_cons_zero, List.set_cons_succ])
            refine wpAnyH_take (i := 8) (v := ?_) rfl (by decide +kernel) (by decide +kernel) (by decide +kernel) (fun _ _ _ h => h) (Or.inl ⟨by rfl, ?hy⟩) hcur ?_
            case hy =>
              intro w1 hSw
              go_simp
              (try with_reducible rfl)
            (try simp only [Act.put, List.getElem_toArray, List.getElem_cons_zero, List.getElem_cons_succ, List.setIfInBounds_toArray, List.set_cons_zero, List.set_cons_succ])
            refine wpAnyH_take (i := 10) (v := ?_) rfl (by decide +kernel) (by decide +kernel) (by decide +kernel) (fun _ _ _ h => h) (Or.inl ⟨by rfl, ?hy⟩) hcur ?_
            case hy =>
              intro w1 hSw
              go_simp
              (try with_reducible rfl)
            (try simp only [Act.put, List.getElem_toArray, List.getElem_cons_zero, List.getElem_cons_succ, List.setIfInBounds_toArray, List.set_cons_zero, List.set_cons_succ])
            refine wpAnyH_take (i := 11) (v := ?_) rfl (by decide +kernel) (by decide +kernel) (by decide +kernel) (fun _ _ _ h => h) (Or.inl ⟨by rfl, ?hy⟩) hcur ?_
            case hy =>
              intro w1 hSw
              go_simp
              (try with_reducible rfl)
            (try simp only [Act.put, List.getElem_toArray, List.getElem_cons_zero, List.getElem_cons_succ, List.setIfInBounds_toArray, List.set_cons_zero, List.set_cons_succ])
            refine wpAnyH_take (i := 12) (v := ?_) rfl (by decide +kernel) (by decide +kernel) (by decide +kernel) (fun _ _ _ h => h) (Or.inl ⟨by rfl, ?hy⟩) hcur ?_
            case hy =>
              intro w1 hSw
              go_simp
              (try with_reducible rfl)
            (try simp only [Act.put, List.getElem_toArray, List.getElem_cons_zero, List.getElem_cons_succ, List.setIfInBounds_toArray, List.set_cons_zero, List.set_cons_succ])
            refine wpAnyH_ready (rs := [9, 13]) (by decide +kernel) (by simp) ?_
            refine AllReadyH.cons rfl (fun K hK => ?_) (AllReadyH.cons rfl (fun K hK => ?_) AllReadyH.nil)
            · rw [if_pos (by rfl)]
              refine oper_value (exec_loadE HS.out.drew hi2 rfl rfl rfl (by omega)) ?_
              refine hK.out _ _ trivial (fun _ => ?_)
              clear hK K
              (try simp only [Act.put, List.getElem_toArray, List.getElem_cons_zero, List.getElem_cons_succ, List.setIfInBounds_toArray, List.set_cons_zero, List.set_cons_succ])
              refine wpAnyH_ready (rs := [13]) (by decide +kernel) (by simp) ?_
              refine AllReadyH.cons rfl (fun K hK => ?_) AllReadyH.nil
              rw [if_pos (by rfl)]
              refine oper_value (exec_loadE HS.out.drew hi1 rfl rfl rfl (by omega)) ?_
              refine hK.out _ _ trivial (fun _ => ?_)
              clear hK K
              (try simp only [Act.put, List.getElem_toArray, List.getElem_cons_zero, List.getElem_cons_succ, List.setIfInBounds_toArray, List.set_cons_zero, List.set_cons_succ])
              refine wpAnyH_take (i := 14) (v := ?_) rfl (by decide +kernel) (by decide +kernel) (by decide +kernel) (fun _ _ _ h => h) (Or.inl ⟨by rfl, ?hy⟩) hcur ?_
              case hy =>
                intro w1 hSw
                go_simp
                (try with_reducible rfl)
              (try simp only [Act.put, List.getElem_toArray, List.getElem_cons_zero, List.getElem_cons_succ, List.setIfInBounds_toArray, List.set_cons_zero, List.set_cons_succ])
              have HT := Lib.hid (HS.out.drew.put (enE_len E) hi1 (rotF p k m (m + 1) y))
              refine wpAnyH_ready (rs := [15]) (by decide +kernel) (by simp) ?_
              refine AllReadyH.cons rfl (fun K hK => ?_) AllReadyH.nil
              rw [if_pos (by rfl)]
              refine oper_skip (exec_storeE HS.out.drew hi1 rfl rfl rfl (by omega)) ?_
              refine hK.out _ _ trivial (fun _ => ?_)
              clear hK K
              (try simp only [Act.put, List.getElem_toArray, List.getElem_cons_zero, List.getElem_cons_succ, List.setIfInBounds_toArray, List.set_cons_zero, List.set_cons_succ])
              generalize setL _ _ _ _ = W1 at HT ⊢
              refine wpAnyH_take (i := 16) (v := ?_) rfl (by decide +kernel) (by decide +kernel) (by decide +kernel) (fun _ _ _ h => h) (Or.inl ⟨by rfl, ?hy⟩) hcur ?_
              case hy =>
                intro w1 hSw
                go_simp
                (try with_reducible rfl)
              (try simp only [Act.put, List.getElem_toArray, List.getElem_cons_zero, List.getElem_cons_succ, List.setIfInBounds_toArray, List.set_cons_zero, List.set_cons_succ])
              have HT2 := Lib.hid ((HT.out.put (enE_len E) hi2 (rotF p k m (m + 1) k)).to (upd_swp _ _ _))
              refine wpAnyH_ready (rs := [17]) (by decide +kernel) (by simp) ?_
              refine AllReadyH.cons rfl (fun K hK => ?_) AllReadyH.nil
              rw [if_pos (by rfl)]
              refine oper_skip (exec_storeE HT.out hi2 rfl rfl rfl (by omega)) ?_
              refine hK.out _ _ trivial (fun _ => ?_)
              clear hK K
              (try simp only [Act.put, List.getElem_toArray, List.getElem_cons_zero, List.getElem_cons_succ, List.setIfInBounds_toArray, List.set_cons_zero, List.set_cons_succ])
              generalize setL _ _ _ _ = W2 at HT2 ⊢
              refine wpAnyH_done (by decide +kernel) ?_ _
              exact HG _ HT2.out
            · rw [if_pos (by rfl)]
              refine oper_value (exec_loadE HS.out.drew hi1 rfl rfl rfl (by omega)) ?_
              refine hK.out _ _ trivial (fun _ => ?_)
              clear hK K
              (try simp only [Act.put, List.getElem_toArray, List.getElem_cons_zero, List.getElem_cons_succ, List.setIfInBounds_toArray, List.set_cons_zero, List.set_cons_succ])
              refine wpAnyH_ready (rs := [9]) (by decide +kernel) (by simp) ?_
              refine AllReadyH.cons rfl (fun K hK => ?_) AllReadyH.nil
              rw [if_pos (by rfl)]
              refine oper_value (exec_loadE HS.out.drew hi2 rfl rfl rfl (by omega)) ?_
              refine hK.out _ _ trivial (fun _ => ?_)
              clear hK K
              (try simp only [Act.put, List.getElem_toArray, List.getElem_cons_zero, List.getElem_cons_succ, List.setIfInBounds_toArray, List.set_cons_zero, List.set_cons_succ])
              refine wpAnyH_take (i := 14) (v := ?_) rfl (by decide +kernel) (by decide +kernel) (by decide +kernel) (fun _ _ _ h => h) (Or.inl ⟨by rfl, ?hy⟩) hcur ?_
              case hy =>
                intro w1 hSw
                go_simp
                (try with_reducible rfl)
              (try simp only [Act.put, List.getElem_toArray, List.getElem_cons_zero, List.getElem_cons_succ, List.setIfInBounds_toArray, List.set_cons_zero, List.set_cons_succ])
              have HT := Lib.hid (HS.out.drew.put (enE_len E) hi1 (rotF p k m (m + 1) y))
              refine wpAnyH_ready (rs := [15]) (by decide +kernel) (by simp) ?_
              refine AllReadyH.cons rfl (fun K hK => ?_) AllReadyH.nil
              rw [if_pos (by rfl)]
              refine oper_skip (exec_storeE HS.out.drew hi1 rfl rfl rfl (by omega)) ?_
              refine hK.out _ _ trivial (fun _ => ?_)
              clear hK K
              (try simp only [Act.put, List.getElem_toArray, List.getElem_cons_zero, List.getElem_cons_succ, List.setIfInBounds_toArray, List.set_cons_zero, List.set_cons_succ])
              generalize setL _ _ _ _ = W1 at HT ⊢
              refine wpAnyH_take (i := 16) (v := ?_) rfl (by decide +kernel) (by decide +kernel) (by decide +kernel) (fun _ _ _ h => h) (Or.inl ⟨by rfl, ?hy⟩) hcur ?_
              case hy =>
                intro w1 hSw
                go_simp
                (try with_reducible rfl)
              (try simp only [Act.put, List.getElem_toArray, List.getElem_cons_zero, List.getElem_cons_succ, List.setIfInBounds_toArray, List.set_cons_zero, List.set_cons_succ])
              have HT2 := Lib.hid ((HT.out.put (enE_len E) hi2 (rotF p k m (m + 1) k)).to (upd_swp _ _ _))
              refine wpAnyH_ready (rs := [17]) (by decide +kernel) (by simp) ?_
              refine AllReadyH.cons rfl (fun K hK => ?_) AllReadyH.nil
              rw [if_pos (by rfl)]
              refine oper_skip (exec_storeE HT.out hi2 rfl rfl rfl (by omega)) ?_
              refine hK.out _ _ trivial (fun _ => ?_)
              clear hK K
              (try simp only [Act.put, List.getElem_toArray, List.getElem_cons_zero, List.getElem_cons_succ, List.setIfInBounds_toArray, List.set_cons_zero, List.set_cons_succ])
              generalize setL _ _ _ _ = W2 at HT2 ⊢
              refine wpAnyH_done (by decide +kernel) ?_ _
              exact HG _ HT2.out
          case tail =>
            intro w9 h9
            have HNX := Lib.hid (h9.to HR.out)
            clear h9 hwy
            go_wp2_with fail
            go_roundw
            case rel => exact ⟨y, by go_num, ⟨by have := HYK.out; omega, by have := HYK.out; omega⟩, HNX.out⟩
            case measure => simp [intOf]; have := HYK.out; omega
        · obtain rfl : i = k := by omega
          go_wp2_with fail
          go_end0
          exact ⟨rfl, _, HS.out, by rw [HBM.out]; exact HRES.out.2, by rw [HBM.out]; exact HRES.out.1⟩

end Go.Proofs.Ythbafbgnclpbpaa

namespace Go.Proofs.Ythbafbgnclpbpaa
open Go.RowKit

/-- A merge of rows of less places is at hand. -/
def SymIH_ev (W0 : World) (g n cap N bp : Nat) (E : Nat → EvD) (key : Nat → Int) (L : Nat) : Prop :=
  ∀ (q : Nat → Nat) (a m b : Nat) (w : World), b - a < L → StR W0 w g 93 12 n cap (enE E) q → a < m → m < b → b ≤ n → (∀ k, k < n → q k < N) → Srt key q a m → Srt key q m b → Lft q a m b →
    Calls Try.prog 115 #[.slice (some ⟨g, 0, none⟩) n cap, .int .i64 a, .int .i64 m, .int .i64 b, evFn bp] w (SymTo_ev W0 g n cap E key q a b)

end Go.Proofs.Ythbafbgnclpbpaa
