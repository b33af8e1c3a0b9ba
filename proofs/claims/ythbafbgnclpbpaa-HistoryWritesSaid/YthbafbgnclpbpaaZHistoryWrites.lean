/- The law HistoryWrites: the walk. -/
import Derived.Test.YthbafbgnclpbpaaHWrA
import Derived.Test.YthbafbgnclpbpaaZHWr3
import Derived.Test.YthbafbgnclpbpaaHWrC
import Derived.Test.YthbafbgnclpbpaaOpA
namespace Go.Proofs.Ythbafbgnclpbpaa
open Go.RowKit

theorem l39_all {xs : List CallD} (h : light39 xs = true) : (∀ x ∈ xs, lightC x = true) ∧ xs.length ≤ 40 := by
  unfold light39 at h
  rw [Bool.and_eq_true, decide_eq_true_iff, List.all_eq_true] at h
  exact h
theorem histBytes_len {xs : List CallD} (h : ∀ x ∈ xs, lightC x = true) (hl : xs.length ≤ 40) : (histBytes xs).length ≤ 600000 := by
  have h1 := callsBytes_len xs h
  have h2 := dig_len xs.length
  unfold histBytes
  rw [List.length_append]
  omega
/-- A call, plain, as the law makes it. -/
def plainK (x : CallD) : CallD := plainC x x.pa x.pc
theorem plainK_take {xs : List CallD} {j : Nat} (h : j < xs.length) : (xs.take (j + 1)).map plainK = (xs.take j).map plainK ++ [plainK xs[j]] := by
  rw [List.take_succ_eq_append_getElem h, List.map_append]
  rfl

set_option maxHeartbeats 1000000 in
theorem hw_dark (A : Option Addr) (c : Nat) (xs : List CallD) (w : World) (h : Cls w A xs.length xs) (hx : ∀ x ∈ xs, CallOk x) (hl : xs.length ≤ 9223372036854775807) (hli : light39 xs = false) :
    Calls Try.prog 13 #[.slice A xs.length c] w (Ret (.bool true) w) := by
  have hL := light39_any A c xs w h hx hl
  rw [hli] at hL
  have HLi := Lib.hid hL
  clear hL h hx hli
  go_enter Try.func13, Try.ntmps13
  go_wp2_with fail
  refine (HLi.out).mono ?_
  rintro e wn ⟨rfl, hbn⟩
  go_wp2_with fail
  refine (lives39_any _).mono ?_
  rintro e wn2 ⟨rfl, hbn2⟩
  go_wp2_with fail
  go_ret
  exact ⟨rfl, below_of hbn hbn2⟩

set_option maxRecDepth 100000 in
set_option maxHeartbeats 16000000 in
theorem hw_big (A : Option Addr) (c : Nat) (xs : List CallD) (w : World) (h : Cls w A xs.length xs) (hx : ∀ x ∈ xs, CallOk x) (hl : xs.length ≤ 9223372036854775807) (hli : light39 xs = true) (hsm : ¬ ∀ x ∈ xs, Small x) :
    Calls Try.prog 13 #[.slice A xs.length c] w (Ret (.bool true) w) := by
  have hL := light39_any A c xs w h hx hl
  rw [hli] at hL
  have HLi := Lib.hid hL
  have HH := Lib.hid h
  have HSm := Lib.hid hsm
  clear hL h hx hli hsm
  go_enter Try.func13, Try.ntmps13
  go_wp2_with fail
  refine (HLi.out).mono ?_
  rintro e w1 ⟨rfl, hb1⟩
  have HB := Lib.hid hb1
  clear hb1 HLi
  go_wp2_with fail
  go_loopw [4, 17] (fun _ i wr => ∃ j : Nat, i = .int .i64 j ∧ Hid (j ≤ xs.length ∧ Below w.heap.size w wr ∧ ∀ k (hk : k < xs.length), k < j → Small xs[k])) (fun _ i _ => xs.length - (intOf i).toNat)
  case atStart => exact ⟨0, rfl, Nat.zero_le _, HB.out, fun k _ hk => absurd hk (Nat.not_lt_zero k)⟩
  case round =>
    obtain ⟨j, rfl, H⟩ := hrel
    clear HB
    by_cases hlt : j < xs.length
    · obtain ⟨b, off, hjl, hA, hbw, -, -⟩ := HH.out.at_ hlt
      subst hA
      have HBL := Lib.hid hbw
      have HCJ := Lib.hid (HH.out.get hlt).2.2
      clear hbw
      have HO := Lib.hid H.out.2.1
      have HST := Lib.hid (fun (q : Small xs[j]) => (fun k hk hkj => by
        by_cases e : k < j
        · exact H.out.2.2 k hk e
        · obtain rfl : k = j := by omega
          exact q : ∀ k (hk : k < xs.length), k < j + 1 → Small xs[k]))
      clear H
      generalize xs[j] = x at HCJ HST
      obtain ⟨d0, d1, d2, d3, d4, d5, d6, d7, d8, d9, d10, d11, d12, d13, d14⟩ := CallAt.moved HCJ.out HO.out HBL.out
      have hn := CallAt.new wr x 71
      have hB := below_of HO.out (below_alloc wr (.cells (callCells x) 71))
      simp only [callCells] at hn hB
      go_upto_region 6 with fail
      clear d0 d1 d2 d3 d4 d5 d6 d7 d8 d9 d10 d11 d12 d13 d14
      generalize wr.alloc _ = W2 at hn hB ⊢
      generalize wr.heap.size = g at hn ⊢
      have HB2 := Lib.hid hB
      clear hB HO
      obtain ⟨x0, x1, x2, x3, x4, x5, x6, x7, x8, x9, x10, x11, x12, x13, x14⟩ := hn
      simp only [Nat.zero_add] at x0 x1 x2 x3 x4 x5 x6 x7 x8 x9 x10 x11 x12 x13 x14
      by_cases h1 : 1099511627776 < x.since
      · have h1b : decide (1099511627776 < x.since) = true := decide_eq_true h1
        go_wp2_with fail
        refine (lives39_any _).mono ?_
        rintro e wn ⟨rfl, hb⟩
        go_wp2_with fail
        go_ret
        exact ⟨rfl, below_of HB2.out hb⟩
      · have h1b : decide (1099511627776 < x.since) = false := decide_eq_false h1
        by_cases h2 : 1099511627775 < x.done
        · have h2b : decide (1099511627775 < x.done) = true := decide_eq_true h2
          go_wp2_with fail
          refine (lives39_any _).mono ?_
          rintro e wn ⟨rfl, hb⟩
          go_wp2_with fail
          go_ret
          exact ⟨rfl, below_of HB2.out hb⟩
        · have h2b : decide (1099511627775 < x.done) = false := decide_eq_false h2
          by_cases h3 : 1099511627775 < x.upto
          · have h3b : decide (1099511627775 < x.upto) = true := decide_eq_true h3
            go_wp2_with fail
            refine (lives39_any _).mono ?_
            rintro e wn ⟨rfl, hb⟩
            go_wp2_with fail
            go_ret
            exact ⟨rfl, below_of HB2.out hb⟩
          · have h3b : decide (1099511627775 < x.upto) = false := decide_eq_false h3
            by_cases h4 : 1099511627776 < x.steps
            · have h4b : decide (1099511627776 < x.steps) = true := decide_eq_true h4
              go_wp2_with fail
              refine (lives39_any _).mono ?_
              rintro e wn ⟨rfl, hb⟩
              go_wp2_with fail
              go_ret
              exact ⟨rfl, below_of HB2.out hb⟩
            · clear h1b h2b h3b
              have h1b : decide (1099511627776 < x.since) = false := decide_eq_false h1
              have h2b : decide (1099511627775 < x.done) = false := decide_eq_false h2
              have h3b : decide (1099511627775 < x.upto) = false := decide_eq_false h3
              have h4b : decide (1099511627776 < x.steps) = false := decide_eq_false h4
              go_wp2_with fail
              go_roundw
              case rel => exact ⟨j + 1, by go_num, by omega, HB2.out, HST.out ⟨by omega, by omega, by omega, by omega⟩⟩
              case measure => simp [intOf]; omega
    · exfalso
      obtain rfl : j = xs.length := by have := H.out.1; omega
      exact HSm.out (fun x hx => by
        obtain ⟨i, hi, rfl⟩ := List.mem_iff_getElem.1 hx
        exact H.out.2.2 i hi hi)

set_option maxRecDepth 100000 in
set_option maxHeartbeats 16000000 in
theorem hw_no (A : Option Addr) (c : Nat) (xs : List CallD) (w : World) (h : Cls w A xs.length xs) (hx : ∀ x ∈ xs, CallOk x) (hl : xs.length ≤ 9223372036854775807) (hli : light39 xs = true) (hsm : ∀ x ∈ xs, Small x) (hm : mayC xs = false) :
    Calls Try.prog 13 #[.slice A xs.length c] w (Ret (.bool true) w) := by
  have hL := light39_any A c xs w h hx hl
  rw [hli] at hL
  have HLi := Lib.hid hL
  have HH := Lib.hid h
  have HSm := Lib.hid hsm
  have hl40 := (l39_all hli).2
  have hM := fun W hW => refmay_any A c xs W hW hx (by omega)
  rw [hm] at hM
  have HMy := Lib.hid hM
  have h1 := fun W hW => cwrite_no A c xs W hW hx hl40 hm
  have h2 := fun W hW => refwrite_no A c xs W hW hx hl40 hm
  obtain ⟨D, hD⟩ : ∃ D, D = ([] : List Nat) := ⟨_, rfl⟩
  rw [← hD] at h1 h2
  have HWn := Lib.hid h1
  have HWr := Lib.hid h2
  have HD := Lib.hid hD
  clear hD hL h hx hli hsm hM h1 h2
  go_enter Try.func13, Try.ntmps13
  go_wp2_with fail
  refine (HLi.out).mono ?_
  rintro e w1 ⟨rfl, hb1⟩
  have HB := Lib.hid hb1
  clear hb1 HLi
  go_wp2_with fail
  go_loopw [4, 17] (fun _ i wr => ∃ j : Nat, i = .int .i64 j ∧ Hid (j ≤ xs.length ∧ Below w.heap.size w wr ∧ ∀ k (hk : k < xs.length), k < j → Small xs[k])) (fun _ i _ => xs.length - (intOf i).toNat)
  case atStart => exact ⟨0, rfl, Nat.zero_le _, HB.out, fun k _ hk => absurd hk (Nat.not_lt_zero k)⟩
  case round =>
    obtain ⟨j, rfl, H⟩ := hrel
    clear HB
    by_cases hlt : j < xs.length
    · obtain ⟨b, off, hjl, hA, hbw, -, -⟩ := HH.out.at_ hlt
      subst hA
      have HBL := Lib.hid hbw
      have HCJ := Lib.hid (HH.out.get hlt).2.2
      clear hbw
      have HO := Lib.hid H.out.2.1
      have hs := HSm.out _ (List.getElem_mem hlt)
      have HST := Lib.hid (fun (q : Small xs[j]) => (fun k hk hkj => by
        by_cases e : k < j
        · exact H.out.2.2 k hk e
        · obtain rfl : k = j := by omega
          exact q : ∀ k (hk : k < xs.length), k < j + 1 → Small xs[k]))
      clear H
      generalize xs[j] = x at HCJ HST hs
      have h1 : ¬ 1099511627776 < x.since := by have := hs.since; omega
      have h2 : ¬ 1099511627775 < x.done := by have := hs.done; omega
      have h3 : ¬ 1099511627775 < x.upto := by have := hs.upto; omega
      have h4 : ¬ 1099511627776 < x.steps := by have := hs.steps; omega
      clear hs
      obtain ⟨d0, d1, d2, d3, d4, d5, d6, d7, d8, d9, d10, d11, d12, d13, d14⟩ := CallAt.moved HCJ.out HO.out HBL.out
      have hn := CallAt.new wr x 71
      have hB := below_of HO.out (below_alloc wr (.cells (callCells x) 71))
      simp only [callCells] at hn hB
      go_upto_region 6 with fail
      clear d0 d1 d2 d3 d4 d5 d6 d7 d8 d9 d10 d11 d12 d13 d14
      generalize wr.alloc _ = W2 at hn hB ⊢
      generalize wr.heap.size = g at hn ⊢
      have HB2 := Lib.hid hB
      clear hB HO
      obtain ⟨x0, x1, x2, x3, x4, x5, x6, x7, x8, x9, x10, x11, x12, x13, x14⟩ := hn
      simp only [Nat.zero_add] at x0 x1 x2 x3 x4 x5 x6 x7 x8 x9 x10 x11 x12 x13 x14
      have h1b : decide (1099511627776 < x.since) = false := decide_eq_false h1
      have h2b : decide (1099511627775 < x.done) = false := decide_eq_false h2
      have h3b : decide (1099511627775 < x.upto) = false := decide_eq_false h3
      have h4b : decide (1099511627776 < x.steps) = false := decide_eq_false h4
      go_wp2_with fail
      go_roundw
      case rel => exact ⟨j + 1, by go_num, by omega, HB2.out, HST.out ⟨by omega, by omega, by omega, by omega⟩⟩
      case measure => simp [intOf]; omega
    · obtain rfl : j = xs.length := by have := H.out.1; omega
      have HB := Lib.hid H.out.2.1
      clear H hlt
      go_wp2_with fail
      refine (HWn.out _ (HH.out.up HB.out)).mono ?_
      rintro e W ⟨A5, c5, rfl, ho5, hb5⟩
      have HR5 := Lib.hid (Rd.of_own ho5)
      have HC5 := Lib.hid (owns_cap ho5)
      replace HB := Lib.hid (below_of HB.out hb5)
      clear ho5 hb5 HWn
      go_upto_region 10 with fail
      go_cut [48] (fun s48 wx => s48 = .bool false ∧ Hid (Below W.heap.size W wx))
      case first =>
        refine wp_region_held_drew (S := fun w' => Below W.heap.size W w') (by kernel_rfl) (Below.drew (Below.refl _ _)) (fun hcur => ?_)
        replace hcur : Below W.heap.size W W.drew := hcur
        have hc5 := conv_any (c := c5) (HR5.out.up hcur)
        refine wpAnyH_take (i := 0) (v := ?_) rfl (by decide +kernel) (by decide +kernel) (by decide +kernel) (fun _ _ _ h => h) (Or.inl ⟨by rfl, ?hy⟩) hcur ?_
        case hy =>
          intro w1 hSw
          replace hSw : Below W.heap.size W w1 := hSw
          go_simp
          (try with_reducible rfl)
        (try simp only [Act.put, List.getElem_toArray, List.getElem_cons_zero, List.setIfInBounds_toArray, List.set_cons_zero, List.set_cons_succ])
        refine wpAnyH_take (i := 2) (v := ?_) rfl (by decide +kernel) (by decide +kernel) (by decide +kernel) (fun _ _ _ h => h) (Or.inl ⟨by rfl, ?hy⟩) hcur ?_
        case hy =>
          intro w1 hSw
          replace hSw : Below W.heap.size W w1 := hSw
          go_simp
          (try with_reducible rfl)
        (try simp only [Act.put, List.getElem_toArray, List.getElem_cons_zero, List.getElem_cons_succ, List.setIfInBounds_toArray, List.set_cons_zero, List.set_cons_succ])
        refine wpAnyH_ready (rs := [1, 3]) (by decide +kernel) (by simp) ?_
        refine AllReadyH.cons rfl (fun K hK => ?_) (AllReadyH.cons rfl (fun K hK => ?_) AllReadyH.nil)
        · go_simp
          refine hK.out _ _ hcur (fun _ => ?_)
          clear hK K
          (try simp only [Act.put, List.getElem_toArray, List.getElem_cons_zero, List.getElem_cons_succ, List.setIfInBounds_toArray, List.set_cons_zero, List.set_cons_succ])
          refine wpAnyH_ready (rs := [3]) (by decide +kernel) (by simp) ?_
          refine AllReadyH.cons rfl (fun K hK => ?_) AllReadyH.nil
          go_simp
          refine (HWr.out _ (HH.out.up (below_of HB.out hcur))).mono ?_
          rintro e W9 ⟨A6, c6, rfl, ho6, hb6⟩
          have hc6 := made_conv ho6
          have hc7 := conv_any (c := c5) (HR5.out.up (below_of hcur hb6))
          go_wp2_with fail
          refine hK.out _ _ (below_of hcur hb6) (fun _ => ?_)
          clear hK K
          replace hcur := below_of hcur hb6
          (try simp only [Act.put, List.getElem_toArray, List.getElem_cons_zero, List.getElem_cons_succ, List.setIfInBounds_toArray, List.set_cons_zero, List.set_cons_succ])
          refine wpAnyH_ready (rs := [4]) (by decide +kernel) (by simp) ?_
          refine AllReadyH.cons rfl (fun K hK => ?_) AllReadyH.nil
          go_simp
          refine hK.out _ _ hcur (fun _ => ?_)
          clear hK K
          (try simp only [Act.put, List.getElem_toArray, List.getElem_cons_zero, List.getElem_cons_succ, List.setIfInBounds_toArray, List.set_cons_zero, List.set_cons_succ])
          refine wpAnyH_take (i := 5) (v := .bool false) rfl (by decide +kernel) (by decide +kernel) (by decide +kernel) (fun _ _ _ h => h) (Or.inl ⟨by rfl, ?hy⟩) hcur ?_
          case hy =>
            intro w1 hSw
            replace hSw : Below W.heap.size W w1 := hSw
            go_simp
            all_goals simp
          (try simp only [Act.put, List.getElem_toArray, List.getElem_cons_zero, List.getElem_cons_succ, List.setIfInBounds_toArray, List.set_cons_zero, List.set_cons_succ])
          refine wpAnyH_done (by decide +kernel) ?_ _
          go_wp2_with fail
          go_meet
          exact ⟨rfl, hcur⟩
        · go_simp
          refine (HWr.out _ (HH.out.up (below_of HB.out hcur))).mono ?_
          rintro e W9 ⟨A6, c6, rfl, ho6, hb6⟩
          have hc6 := made_conv ho6
          have hc7 := conv_any (c := c5) (HR5.out.up (below_of hcur hb6))
          go_wp2_with fail
          refine hK.out _ _ (below_of hcur hb6) (fun _ => ?_)
          clear hK K
          replace hcur := below_of hcur hb6
          (try simp only [Act.put, List.getElem_toArray, List.getElem_cons_zero, List.getElem_cons_succ, List.setIfInBounds_toArray, List.set_cons_zero, List.set_cons_succ])
          refine wpAnyH_ready (rs := [1, 4]) (by decide +kernel) (by simp) ?_
          refine AllReadyH.cons rfl (fun K hK => ?_) (AllReadyH.cons rfl (fun K hK => ?_) AllReadyH.nil)
          · go_simp
            refine hK.out _ _ hcur (fun _ => ?_)
            clear hK K
            (try simp only [Act.put, List.getElem_toArray, List.getElem_cons_zero, List.getElem_cons_succ, List.setIfInBounds_toArray, List.set_cons_zero, List.set_cons_succ])
            refine wpAnyH_ready (rs := [4]) (by decide +kernel) (by simp) ?_
            refine AllReadyH.cons rfl (fun K hK => ?_) AllReadyH.nil
            go_simp
            refine hK.out _ _ hcur (fun _ => ?_)
            clear hK K
            (try simp only [Act.put, List.getElem_toArray, List.getElem_cons_zero, List.getElem_cons_succ, List.setIfInBounds_toArray, List.set_cons_zero, List.set_cons_succ])
            refine wpAnyH_take (i := 5) (v := .bool false) rfl (by decide +kernel) (by decide +kernel) (by decide +kernel) (fun _ _ _ h => h) (Or.inl ⟨by rfl, ?hy⟩) hcur ?_
            case hy =>
              intro w1 hSw
              replace hSw : Below W.heap.size W w1 := hSw
              go_simp
              all_goals simp
            (try simp only [Act.put, List.getElem_toArray, List.getElem_cons_zero, List.getElem_cons_succ, List.setIfInBounds_toArray, List.set_cons_zero, List.set_cons_succ])
            refine wpAnyH_done (by decide +kernel) ?_ _
            go_wp2_with fail
            go_meet
            exact ⟨rfl, hcur⟩
          · go_simp
            refine hK.out _ _ hcur (fun _ => ?_)
            clear hK K
            (try simp only [Act.put, List.getElem_toArray, List.getElem_cons_zero, List.getElem_cons_succ, List.setIfInBounds_toArray, List.set_cons_zero, List.set_cons_succ])
            refine wpAnyH_ready (rs := [1]) (by decide +kernel) (by simp) ?_
            refine AllReadyH.cons rfl (fun K hK => ?_) AllReadyH.nil
            go_simp
            refine hK.out _ _ hcur (fun _ => ?_)
            clear hK K
            (try simp only [Act.put, List.getElem_toArray, List.getElem_cons_zero, List.getElem_cons_succ, List.setIfInBounds_toArray, List.set_cons_zero, List.set_cons_succ])
            refine wpAnyH_take (i := 5) (v := .bool false) rfl (by decide +kernel) (by decide +kernel) (by decide +kernel) (fun _ _ _ h => h) (Or.inl ⟨by rfl, ?hy⟩) hcur ?_
            case hy =>
              intro w1 hSw
              replace hSw : Below W.heap.size W w1 := hSw
              go_simp
              all_goals simp
            (try simp only [Act.put, List.getElem_toArray, List.getElem_cons_zero, List.getElem_cons_succ, List.setIfInBounds_toArray, List.set_cons_zero, List.set_cons_succ])
            refine wpAnyH_done (by decide +kernel) ?_ _
            go_wp2_with fail
            go_meet
            exact ⟨rfl, hcur⟩
      case rest =>
        clear HWr
        obtain ⟨rfl, HX⟩ := hcut
        go_wp2_with fail
        refine (HMy.out _ (HH.out.up (below_of HB.out HX.out))).mono ?_
        rintro e w8 ⟨rfl, hb8⟩
        have HB8 := Lib.hid (below_of (below_of HB.out HX.out) hb8)
        replace HR5 := Lib.hid (HR5.out.up (below_of HX.out hb8))
        clear hb8 HX HB HMy
        obtain rfl := HD.out
        simp only [List.length_nil] at *
        go_wp2_with fail
        refine (lives39_any _).mono ?_
        rintro e w9 ⟨rfl, hb9⟩
        go_wp2_with fail
        go_ret
        exact ⟨rfl, below_of HB8.out hb9⟩

set_option maxRecDepth 100000 in
set_option maxHeartbeats 16000000 in
theorem hw_yes (A : Option Addr) (c : Nat) (xs : List CallD) (w : World) (h : Cls w A xs.length xs) (hx : ∀ x ∈ xs, CallOk x) (hl : xs.length ≤ 9223372036854775807) (hli : light39 xs = true) (hsm : ∀ x ∈ xs, Small x) (hmy : mayC xs = true) :
    Calls Try.prog 13 #[.slice A xs.length c] w (Ret (.bool true) w) := by
  have hL := light39_any A c xs w h hx hl
  rw [hli] at hL
  have HLi := Lib.hid hL
  have HH := Lib.hid h
  have HSm := Lib.hid hsm
  have HXO := Lib.hid hx
  have hl40 := (l39_all hli).2
  have HBn := Lib.hid (histBytes_len (l39_all hli).1 hl40)
  have hM := fun W hW => refmay_any A c xs W hW hx (by omega)
  rw [hmy] at hM
  have HMy := Lib.hid hM
  have h1 := fun W hW => cwrite_yes A c xs W hW hx (l39_all hli).1 hsm hl40 hmy
  have h2 := fun W hW => refwrite_yes A c xs W hW hx (l39_all hli).1 hsm hl40 hmy
  obtain ⟨D, hD⟩ : ∃ D, D = histBytes xs := ⟨_, rfl⟩
  rw [← hD] at h1 h2
  have HWn := Lib.hid h1
  have HWr := Lib.hid h2
  have HD := Lib.hid hD
  clear hD hL h hx hli hsm hM h1 h2
  go_enter Try.func13, Try.ntmps13
  go_wp2_with fail
  refine (HLi.out).mono ?_
  rintro e w1 ⟨rfl, hb1⟩
  have HB := Lib.hid hb1
  clear hb1 HLi
  go_wp2_with fail
  go_loopw [4, 17] (fun _ i wr => ∃ j : Nat, i = .int .i64 j ∧ Hid (j ≤ xs.length ∧ Below w.heap.size w wr ∧ ∀ k (hk : k < xs.length), k < j → Small xs[k])) (fun _ i _ => xs.length - (intOf i).toNat)
  case atStart => exact ⟨0, rfl, Nat.zero_le _, HB.out, fun k _ hk => absurd hk (Nat.not_lt_zero k)⟩
  case round =>
    obtain ⟨j, rfl, H⟩ := hrel
    clear HB
    by_cases hlt : j < xs.length
    · obtain ⟨b, off, hjl, hA, hbw, -, -⟩ := HH.out.at_ hlt
      subst hA
      have HBL := Lib.hid hbw
      have HCJ := Lib.hid (HH.out.get hlt).2.2
      clear hbw
      have HO := Lib.hid H.out.2.1
      have hs := HSm.out _ (List.getElem_mem hlt)
      have HST := Lib.hid (fun (q : Small xs[j]) => (fun k hk hkj => by
        by_cases e : k < j
        · exact H.out.2.2 k hk e
        · obtain rfl : k = j := by omega
          exact q : ∀ k (hk : k < xs.length), k < j + 1 → Small xs[k]))
      clear H
      generalize xs[j] = x at HCJ HST hs
      have h1 : ¬ 1099511627776 < x.since := by have := hs.since; omega
      have h2 : ¬ 1099511627775 < x.done := by have := hs.done; omega
      have h3 : ¬ 1099511627775 < x.upto := by have := hs.upto; omega
      have h4 : ¬ 1099511627776 < x.steps := by have := hs.steps; omega
      clear hs
      obtain ⟨d0, d1, d2, d3, d4, d5, d6, d7, d8, d9, d10, d11, d12, d13, d14⟩ := CallAt.moved HCJ.out HO.out HBL.out
      have hn := CallAt.new wr x 71
      have hB := below_of HO.out (below_alloc wr (.cells (callCells x) 71))
      simp only [callCells] at hn hB
      go_upto_region 6 with fail
      clear d0 d1 d2 d3 d4 d5 d6 d7 d8 d9 d10 d11 d12 d13 d14
      generalize wr.alloc _ = W2 at hn hB ⊢
      generalize wr.heap.size = g at hn ⊢
      have HB2 := Lib.hid hB
      clear hB HO
      obtain ⟨x0, x1, x2, x3, x4, x5, x6, x7, x8, x9, x10, x11, x12, x13, x14⟩ := hn
      simp only [Nat.zero_add] at x0 x1 x2 x3 x4 x5 x6 x7 x8 x9 x10 x11 x12 x13 x14
      have h1b : decide (1099511627776 < x.since) = false := decide_eq_false h1
      have h2b : decide (1099511627775 < x.done) = false := decide_eq_false h2
      have h3b : decide (1099511627775 < x.upto) = false := decide_eq_false h3
      have h4b : decide (1099511627776 < x.steps) = false := decide_eq_false h4
      go_wp2_with fail
      go_roundw
      case rel => exact ⟨j + 1, by go_num, by omega, HB2.out, HST.out ⟨by omega, by omega, by omega, by omega⟩⟩
      case measure => simp [intOf]; omega
    · obtain rfl : j = xs.length := by have := H.out.1; omega
      have HB := Lib.hid H.out.2.1
      clear H hlt
      go_wp2_with fail
      refine (HWn.out _ (HH.out.up HB.out)).mono ?_
      rintro e W ⟨A5, c5, rfl, ho5, hb5⟩
      have HR5 := Lib.hid (Rd.of_own ho5)
      have HC5 := Lib.hid (owns_cap ho5)
      replace HB := Lib.hid (below_of HB.out hb5)
      clear ho5 hb5 HWn
      go_upto_region 10 with fail
      go_cut [48] (fun s48 wx => s48 = .bool false ∧ Hid (Below W.heap.size W wx))
      case first =>
        refine wp_region_held_drew (S := fun w' => Below W.heap.size W w') (by kernel_rfl) (Below.drew (Below.refl _ _)) (fun hcur => ?_)
        replace hcur : Below W.heap.size W W.drew := hcur
        have hc5 := conv_any (c := c5) (HR5.out.up hcur)
        refine wpAnyH_take (i := 0) (v := ?_) rfl (by decide +kernel) (by decide +kernel) (by decide +kernel) (fun _ _ _ h => h) (Or.inl ⟨by rfl, ?hy⟩) hcur ?_
        case hy =>
          intro w1 hSw
          replace hSw : Below W.heap.size W w1 := hSw
          go_simp
          (try with_reducible rfl)
        (try simp only [Act.put, List.getElem_toArray, List.getElem_cons_zero, List.setIfInBounds_toArray, List.set_cons_zero, List.set_cons_succ])
        refine wpAnyH_take (i := 2) (v := ?_) rfl (by decide +kernel) (by decide +kernel) (by decide +kernel) (fun _ _ _ h => h) (Or.inl ⟨by rfl, ?hy⟩) hcur ?_
        case hy =>
          intro w1 hSw
          replace hSw : Below W.heap.size W w1 := hSw
          go_simp
          (try with_reducible rfl)
        (try simp only [Act.put, List.getElem_toArray, List.getElem_cons_zero, List.getElem_cons_succ, List.setIfInBounds_toArray, List.set_cons_zero, List.set_cons_succ])
        refine wpAnyH_ready (rs := [1, 3]) (by decide +kernel) (by simp) ?_
        refine AllReadyH.cons rfl (fun K hK => ?_) (AllReadyH.cons rfl (fun K hK => ?_) AllReadyH.nil)
        · go_simp
          refine hK.out _ _ hcur (fun _ => ?_)
          clear hK K
          (try simp only [Act.put, List.getElem_toArray, List.getElem_cons_zero, List.getElem_cons_succ, List.setIfInBounds_toArray, List.set_cons_zero, List.set_cons_succ])
          refine wpAnyH_ready (rs := [3]) (by decide +kernel) (by simp) ?_
          refine AllReadyH.cons rfl (fun K hK => ?_) AllReadyH.nil
          go_simp
          refine (HWr.out _ (HH.out.up (below_of HB.out hcur))).mono ?_
          rintro e W9 ⟨A6, c6, rfl, ho6, hb6⟩
          have hc6 := made_conv ho6
          have hc7 := conv_any (c := c5) (HR5.out.up (below_of hcur hb6))
          go_wp2_with fail
          refine hK.out _ _ (below_of hcur hb6) (fun _ => ?_)
          clear hK K
          replace hcur := below_of hcur hb6
          (try simp only [Act.put, List.getElem_toArray, List.getElem_cons_zero, List.getElem_cons_succ, List.setIfInBounds_toArray, List.set_cons_zero, List.set_cons_succ])
          refine wpAnyH_ready (rs := [4]) (by decide +kernel) (by simp) ?_
          refine AllReadyH.cons rfl (fun K hK => ?_) AllReadyH.nil
          go_simp
          refine hK.out _ _ hcur (fun _ => ?_)
          clear hK K
          (try simp only [Act.put, List.getElem_toArray, List.getElem_cons_zero, List.getElem_cons_succ, List.setIfInBounds_toArray, List.set_cons_zero, List.set_cons_succ])
          refine wpAnyH_take (i := 5) (v := .bool false) rfl (by decide +kernel) (by decide +kernel) (by decide +kernel) (fun _ _ _ h => h) (Or.inl ⟨by rfl, ?hy⟩) hcur ?_
          case hy =>
            intro w1 hSw
            replace hSw : Below W.heap.size W w1 := hSw
            go_simp
            all_goals simp
          (try simp only [Act.put, List.getElem_toArray, List.getElem_cons_zero, List.getElem_cons_succ, List.setIfInBounds_toArray, List.set_cons_zero, List.set_cons_succ])
          refine wpAnyH_done (by decide +kernel) ?_ _
          go_wp2_with fail
          go_meet
          exact ⟨rfl, hcur⟩
        · go_simp
          refine (HWr.out _ (HH.out.up (below_of HB.out hcur))).mono ?_
          rintro e W9 ⟨A6, c6, rfl, ho6, hb6⟩
          have hc6 := made_conv ho6
          have hc7 := conv_any (c := c5) (HR5.out.up (below_of hcur hb6))
          go_wp2_with fail
          refine hK.out _ _ (below_of hcur hb6) (fun _ => ?_)
          clear hK K
          replace hcur := below_of hcur hb6
          (try simp only [Act.put, List.getElem_toArray, List.getElem_cons_zero, List.getElem_cons_succ, List.setIfInBounds_toArray, List.set_cons_zero, List.set_cons_succ])
          refine wpAnyH_ready (rs := [1, 4]) (by decide +kernel) (by simp) ?_
          refine AllReadyH.cons rfl (fun K hK => ?_) (AllReadyH.cons rfl (fun K hK => ?_) AllReadyH.nil)
          · go_simp
            refine hK.out _ _ hcur (fun _ => ?_)
            clear hK K
            (try simp only [Act.put, List.getElem_toArray, List.getElem_cons_zero, List.getElem_cons_succ, List.setIfInBounds_toArray, List.set_cons_zero, List.set_cons_succ])
            refine wpAnyH_ready (rs := [4]) (by decide +kernel) (by simp) ?_
            refine AllReadyH.cons rfl (fun K hK => ?_) AllReadyH.nil
            go_simp
            refine hK.out _ _ hcur (fun _ => ?_)
            clear hK K
            (try simp only [Act.put, List.getElem_toArray, List.getElem_cons_zero, List.getElem_cons_succ, List.setIfInBounds_toArray, List.set_cons_zero, List.set_cons_succ])
            refine wpAnyH_take (i := 5) (v := .bool false) rfl (by decide +kernel) (by decide +kernel) (by decide +kernel) (fun _ _ _ h => h) (Or.inl ⟨by rfl, ?hy⟩) hcur ?_
            case hy =>
              intro w1 hSw
              replace hSw : Below W.heap.size W w1 := hSw
              go_simp
              all_goals simp
            (try simp only [Act.put, List.getElem_toArray, List.getElem_cons_zero, List.getElem_cons_succ, List.setIfInBounds_toArray, List.set_cons_zero, List.set_cons_succ])
            refine wpAnyH_done (by decide +kernel) ?_ _
            go_wp2_with fail
            go_meet
            exact ⟨rfl, hcur⟩
          · go_simp
            refine hK.out _ _ hcur (fun _ => ?_)
            clear hK K
            (try simp only [Act.put, List.getElem_toArray, List.getElem_cons_zero, List.getElem_cons_succ, List.setIfInBounds_toArray, List.set_cons_zero, List.set_cons_succ])
            refine wpAnyH_ready (rs := [1]) (by decide +kernel) (by simp) ?_
            refine AllReadyH.cons rfl (fun K hK => ?_) AllReadyH.nil
            go_simp
            refine hK.out _ _ hcur (fun _ => ?_)
            clear hK K
            (try simp only [Act.put, List.getElem_toArray, List.getElem_cons_zero, List.getElem_cons_succ, List.setIfInBounds_toArray, List.set_cons_zero, List.set_cons_succ])
            refine wpAnyH_take (i := 5) (v := .bool false) rfl (by decide +kernel) (by decide +kernel) (by decide +kernel) (fun _ _ _ h => h) (Or.inl ⟨by rfl, ?hy⟩) hcur ?_
            case hy =>
              intro w1 hSw
              replace hSw : Below W.heap.size W w1 := hSw
              go_simp
              all_goals simp
            (try simp only [Act.put, List.getElem_toArray, List.getElem_cons_zero, List.getElem_cons_succ, List.setIfInBounds_toArray, List.set_cons_zero, List.set_cons_succ])
            refine wpAnyH_done (by decide +kernel) ?_ _
            go_wp2_with fail
            go_meet
            exact ⟨rfl, hcur⟩
      case rest =>
        clear HWr
        obtain ⟨rfl, HX⟩ := hcut
        go_wp2_with fail
        refine (HMy.out _ (HH.out.up (below_of HB.out HX.out))).mono ?_
        rintro e w8 ⟨rfl, hb8⟩
        have HB8 := Lib.hid (below_of (below_of HB.out HX.out) hb8)
        replace HR5 := Lib.hid (HR5.out.up (below_of HX.out hb8))
        clear hb8 HX HB HMy
        obtain rfl := HD.out
        go_wp2_with fail
        refine (hread_any A5 c5 xs _ HR5.out HC5.out HXO.out HSm.out hmy hl40 (by have := HBn.out; omega)).mono ?_
        rintro e W7 ⟨A7, c7, ys, rfl, hyl, hpl, hcl, hb7⟩
        have HB7 := Lib.hid (below_of HB8.out hb7)
        have HH7 := Lib.hid (HH.out.up HB7.out)
        have HY := Lib.hid (And.intro hyl (And.intro hpl hcl))
        clear hyl hpl hcl hb7 HB8 HR5 HC5 HH
        have hO := (Ow.start (Sx.start0 W7)).nil 71 15
        simp only [List.nil_append] at hO
        have HO0 := Lib.hid hO
        clear hO
        go_wp2_with fail
        go_loopw [8, 10, 65] (fun v _ i wr => ∃ (j : Nat) (A1 : Option Addr) (c1 : Nat), i = .int .i64 j ∧ v = .slice A1 j c1 ∧ Hid (j ≤ xs.length) ∧ Hid (Ow W7.heap.size W7 wr [] [⟨71, 15, .slice A1 j c1, j, clRow ((xs.take j).map plainK)⟩])) (fun _ _ i _ => xs.length - (intOf i).toNat)
        case atStart => exact ⟨0, none, 0, rfl, rfl, Nat.zero_le _, HO0.out⟩
        case round =>
          obtain ⟨j, A1, c1, rfl, rfl, HJ, HO⟩ := hrel
          clear HO0
          by_cases hlt : j < xs.length
          · obtain ⟨b, off, hjl, hA, hbw, -, -⟩ := HH7.out.at_ hlt
            subst hA
            have HBL := Lib.hid hbw
            have HCJ := Lib.hid (HH7.out.get hlt).2.2
            have HT := Lib.hid (plainK_take hlt)
            have hok := (HXO.out _ (List.getElem_mem hlt)).op
            clear hbw
            generalize xs[j] = x at HCJ HT hok
            obtain ⟨d0, d1, d2, d3, d4, d5, d6, d7, d8, d9, d10, d11, d12, d13, d14⟩ := CallAt.moved HCJ.out HO.out.below HBL.out
            have hO := HO.out.alloc (.cells (callCells x) 71)
            simp only [callCells, List.nil_append] at hO
            go_upto_region 19 with fail
            clear d0 d1 d2 d3 d4 d5 d6 d7 d8 d9 d10 d11 d12 d13 d14
            generalize wr.alloc _ = W2 at hO ⊢
            generalize wr.heap.size = g at hO ⊢
            replace HO := Lib.hid hO
            clear hO
            have HSo := Lib.hid (fun W => refsound16_any x.op W hok)
            have HPl := Lib.hid (fun W => refplain_any x.op W)
            simp only [opCells] at HSo HPl
            clear hok
            obtain ⟨x0, x1, x2, x3, x4, x5, x6, x7, x8, x9, x10, x11, x12, x13, x14⟩ := call15 (HO.out.sx.has 0 _ _ rfl).1
            go_wp2_with fail
            refine (HSo.out _).mono ?_
            rintro e W3 ⟨rfl, hb3⟩
            clear x0 x1 x2 x3 x4 x5 x6 x7 x8 x9 x10 x11 x12 x13 x14
            replace HO := Lib.hid (HO.out.call hb3)
            clear hb3
            cases hob : opB x.op
            · have HOP := Lib.hid hob
              clear hob HPl HSo
              obtain ⟨x0, x1, x2, x3, x4, x5, x6, x7, x8, x9, x10, x11, x12, x13, x14⟩ := call15 (HO.out.sx.has 0 _ _ rfl).1
              have hN := (HO.out.sx.has 0 _ _ rfl).1
              have f1 := heap_frozen hN 1
              have f2 := heap_frozen hN 2
              have f3 := heap_frozen hN 3
              have f4 := heap_frozen hN 4
              have f5 := heap_frozen hN 5
              clear hN
              have hO := ((((HO.out.setc 0 rfl 1 (.int .i64 0)).setc 0 rfl 2 (.string ⟨#[]⟩)).setc 0 rfl 3 (.string ⟨#[]⟩)).setc 0 rfl 4 (.int .u64 0)).setc 0 rfl 5 (.int .i64 0)
              simp only [List.set_cons_zero, List.set_cons_succ] at hO
              go_upto_region 22 with fail
              clear x0 x1 x2 x3 x4 x5 x6 x7 x8 x9 x10 x11 x12 x13 x14
              clear f1 f2 f3 f4 f5
              generalize World.setCell _ _ _ = W4 at hO ⊢
              replace HO := Lib.hid hO
              clear hO
              obtain ⟨x0, x1, x2, x3, x4, x5, x6, x7, x8, x9, x10, x11, x12, x13, x14⟩ := call15 (HO.out.sx.has 0 _ _ rfl).1
              obtain ⟨A2, c2, W5, hrun, -, hO5⟩ := HO.out.pushC 0 rfl (plainK x) (by omega)
              simp only [List.set_cons_zero] at hO5
              replace hO5 := hO5.bare
              rw [← HT.out] at hO5
              rw [show plainK x = ⟨x.thread, ⟨0, ⟨#[]⟩, ⟨#[]⟩, 0, 0⟩, x.since, x.done, x.upto, x.steps, x.short, x.ans, x.pa, x.pc⟩ from by unfold plainK plainC; rw [if_neg (by rw [HOP.out]; exact Bool.false_ne_true)]; rfl] at hrun
              simp only [callCells] at hrun
              have Hrun := Lib.hid hrun
              have HO5 := Lib.hid hO5
              clear hrun hO5 HO HT HOP
              go_wp2_with (at_builtin; refine wpList_append_run rfl (.tmp 78) (.tmp 80) 67 rfl rfl rfl Hrun.out ?_)
              go_roundw
              case rel => exact ⟨j + 1, A2, c2, by go_num, rfl, hlt, HO5.out⟩
              case measure => simp [intOf]; omega
            · have HOP := Lib.hid hob
              clear hob HSo
              obtain ⟨x0, x1, x2, x3, x4, x5, x6, x7, x8, x9, x10, x11, x12, x13, x14⟩ := call15 (HO.out.sx.has 0 _ _ rfl).1
              go_wp2_with fail
              refine (HPl.out _).mono ?_
              rintro e W6 ⟨rfl, hb6⟩
              clear x0 x1 x2 x3 x4 x5 x6 x7 x8 x9 x10 x11 x12 x13 x14
              replace HO := Lib.hid (HO.out.call hb6)
              clear hb6
              obtain ⟨x0, x1, x2, x3, x4, x5, x6, x7, x8, x9, x10, x11, x12, x13, x14⟩ := call15 (HO.out.sx.has 0 _ _ rfl).1
              have hN := (HO.out.sx.has 0 _ _ rfl).1
              have f1 := heap_frozen hN 1
              have f2 := heap_frozen hN 2
              have f3 := heap_frozen hN 3
              have f4 := heap_frozen hN 4
              have f5 := heap_frozen hN 5
              clear hN
              have hO := ((((HO.out.setc 0 rfl 1 (.int .i64 (plainO x.op).kind)).setc 0 rfl 2 (.string (plainO x.op).key)).setc 0 rfl 3 (.string (plainO x.op).upto)).setc 0 rfl 4 (.int .u64 ((plainO x.op).val : Int))).setc 0 rfl 5 (.int .i64 (plainO x.op).limit)
              simp only [List.set_cons_zero, List.set_cons_succ] at hO
              go_upto_region 22 with fail
              clear x0 x1 x2 x3 x4 x5 x6 x7 x8 x9 x10 x11 x12 x13 x14
              clear f1 f2 f3 f4 f5
              generalize World.setCell _ _ _ = W4 at hO ⊢
              replace HO := Lib.hid hO
              clear hO
              obtain ⟨x0, x1, x2, x3, x4, x5, x6, x7, x8, x9, x10, x11, x12, x13, x14⟩ := call15 (HO.out.sx.has 0 _ _ rfl).1
              obtain ⟨A2, c2, W5, hrun, -, hO5⟩ := HO.out.pushC 0 rfl (plainK x) (by omega)
              simp only [List.set_cons_zero] at hO5
              replace hO5 := hO5.bare
              rw [← HT.out] at hO5
              rw [show plainK x = ⟨x.thread, plainO x.op, x.since, x.done, x.upto, x.steps, x.short, x.ans, x.pa, x.pc⟩ from by unfold plainK plainC; rw [if_pos HOP.out]] at hrun
              simp only [callCells] at hrun
              have Hrun := Lib.hid hrun
              have HO5 := Lib.hid hO5
              clear hrun hO5 HO HT HOP
              go_wp2_with (at_builtin; refine wpList_append_run rfl (.tmp 78) (.tmp 80) 67 rfl rfl rfl Hrun.out ?_)
              go_roundw
              case rel => exact ⟨j + 1, A2, c2, by go_num, rfl, hlt, HO5.out⟩
              case measure => simp [intOf]; omega
          · obtain rfl : j = xs.length := by have := HJ.out; omega
            have hO := HO.out
            rw [List.take_length] at hO
            have hH9 := HH7.out.up hO.below
            have hzl : (xs.map plainK).length = xs.length := List.length_map ..
            have hz : Cls wr A1 xs.length (xs.map plainK) := cls_of_own (hO.own 0 _ rfl) (fun z hz => by
              obtain ⟨x, hx, rfl⟩ := List.mem_map.1 hz
              exact hH9.2.1 x hx) hzl
            have hy := HY.out.2.2.up hO.below
            have hs : ∀ k (hk : k < ys.length) (hk' : k < (xs.map plainK).length), SameC ys[k] (xs.map plainK)[k] := by
              intro k hk hk'
              obtain ⟨pa, pc, e⟩ := HY.out.2.1 k (by omega) hk
              rw [List.getElem_map, e]
              exact ⟨rfl, rfl, rfl, rfl, rfl, rfl, rfl, rfl⟩
            have hyo : ∀ y ∈ ys, y.ans.pairs.length ≤ 9223372036854775807 := by
              intro y hy
              obtain ⟨i, hi, rfl⟩ := List.mem_iff_getElem.1 hy
              have hi' : i < xs.length := by have := HY.out.1; omega
              exact ((HY.out.2.1 i hi' hi).ok (HXO.out _ (List.getElem_mem hi'))).ans.len
            have HE1 := Lib.hid (refcsame_any A7 A1 c7 c1 xs.length ys (xs.map plainK) wr hy hz hs hyo (by omega))
            have HE2 := Lib.hid (fun W (hW : Below wr.heap.size wr W) => csame_any A7 A1 c7 c1 xs.length ys (xs.map plainK) W (hy.up hW) (hz.up hW) hs hyo (by omega))
            have HF := Lib.hid (HB7.out.trans (hO.below.mono HB7.out.size))
            clear hO hH9 hzl hz hy hs hyo HO HH7 HY
            go_wp2_with fail
            refine (HE1.out).mono ?_
            rintro e w7 ⟨rfl, hb⟩
            have H7 := Lib.hid hb
            clear hb
            go_wp2_with fail
            refine (HE2.out _ H7.out).mono ?_
            rintro e w8 ⟨rfl, hb⟩
            replace H7 := Lib.hid (below_of H7.out hb)
            clear hb
            go_wp2_with fail
            refine (lives39_any _).mono ?_
            rintro e w9 ⟨rfl, hb⟩
            go_wp2_with fail
            go_ret
            exact ⟨rfl, below_of HF.out (below_of H7.out hb)⟩

theorem historywrites_row (A : Option Addr) (c : Nat) (xs : List CallD) (w : World) (h : Cls w A xs.length xs) (hx : ∀ x ∈ xs, CallOk x) (_ : xs.length ≤ c) (hl : xs.length ≤ 9223372036854775807) :
    Calls Try.prog 13 #[.slice A xs.length c] w (Ret (.bool true) w) := by
  cases hli : light39 xs
  · exact hw_dark A c xs w h hx hl hli
  · by_cases hsm : ∀ x ∈ xs, Small x
    · cases hm : mayC xs
      · exact hw_no A c xs w h hx hl hli hsm hm
      · exact hw_yes A c xs w h hx hl hli hsm hm
    · exact hw_big A c xs w h hx hl hli hsm

end Go.Proofs.Ythbafbgnclpbpaa
