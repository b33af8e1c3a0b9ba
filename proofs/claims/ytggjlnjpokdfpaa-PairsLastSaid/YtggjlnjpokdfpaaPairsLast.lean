/- The law PairsLast: the walk. -/
import Derived.Test.YtggjlnjpokdfpaaPLives
import Derived.Test.YtggjlnjpokdfpaaPLast
import Derived.Test.YtggjlnjpokdfpaaMap06c
namespace Go.Proofs.Ytggjlnjpokdfpaa
open Go.RowKit

theorem prs_of_ret {w w' : World} {A : Option Addr} {c : Nat} {l : List PairD} (h : w'.ownsRow w.heap.size 59 2 (.slice A l.length c) l.length (prRow l)) : Prs w' A l.length l := prs_of_own h rfl
theorem ret_apart {w w' : World} {A : Option Addr} {c gb : Nat} {l : List PairD} (h : w'.ownsRow w.heap.size 59 2 (.slice A l.length c) l.length (prRow l)) (hg : gb < w.heap.size) : ∀ a, A = some a → a.block ≠ gb := by
  rintro a rfl
  have := (own_lt (k := a.block) h rfl).1
  omega
theorem Prs.off {S : Nat → Prop} {w w' : World} {A : Option Addr} {n : Nat} {ps : List PairD} (h : Prs w A n ps) (ho : Off S w w') (hs : ∀ a, A = some a → ¬ S a.block) : Prs w' A n ps := ⟨h.1, fun h0 => by
  obtain ⟨b, off, rfl, hbl, hc⟩ := h.2 h0
  have hb : ¬ S b := hs ⟨b, off, none⟩ rfl
  exact ⟨b, off, rfl, Nat.lt_of_lt_of_le hbl ho.size, fun j hj k v hv => (ho.cell (p := ⟨b, off + j * 2 + k, none⟩) hbl hb).trans (hc j hj k v hv)⟩⟩
theorem bMap_drop {ps : List PairD} {q : Nat} (hq : q < ps.length) : bMap (ps.drop q) = if Pl.findIs (bMap (ps.drop (q + 1))).1 ps[q].key.data.toList = true then bMap (ps.drop (q + 1)) else (pKs (bMap (ps.drop (q + 1))).1 ps[q].key, pVs (bMap (ps.drop (q + 1))).1 (bMap (ps.drop (q + 1))).2 ps[q].key ps[q].val) := by
  rw [List.drop_eq_getElem_cons hq]
  rfl
theorem mGet_snd (ks : List ByteArray) (vs : List Int) (k : ByteArray) : (mGet ks vs k).2 = Pl.findIs ks k.data.toList := by
  unfold mGet
  cases Pl.findIs ks k.data.toList <;> rfl

set_option maxRecDepth 100000 in
set_option maxHeartbeats 8000000 in
theorem pairslast_any (A : Option Addr) (c : Nat) (ps : List PairD) (w : World) (h : Prs w A ps.length ps) (hf : FitP ps) (hl : ps.length ≤ 9223372036854775807) :
    Calls Try.prog 10 #[.slice A ps.length c] w (Ret (.bool true) w) := by
  have HH := Lib.hid h
  have HFI := Lib.hid hf
  clear h hf
  by_cases h60 : 60 < ps.length
  · have h60b : decide ((60 : Int) < (ps.length : Int)) = true := decide_eq_true (by omega)
    clear h60
    go_enter Try.func10, Try.ntmps10
    go_wp2_with fail
    refine (lives06_any _).mono ?_
    rintro e wn ⟨rfl, hbn⟩
    go_wp2_with fail
    go_ret
    exact ⟨rfl, hbn⟩
  · have h60b : decide ((60 : Int) < (ps.length : Int)) = false := decide_eq_false (by omega)
    have HL60 := Lib.hid (show ps.length ≤ 60 by omega)
    clear h60
    go_enter Try.func10, Try.ntmps10
    go_wp2_with fail
    refine (pmnew_any none 0 [] w ⟨rfl, fun q => absurd q (Nat.lt_irrefl 0)⟩ (fun p hp => by simp at hp) (by simp)).mono ?_
    rintro e w1 ⟨gb, rfl, hgb, hM, hb⟩
    have HG := Lib.hid hgb
    have HM0 := Lib.hid (And.intro (show MapAt (fun q => q < w.heap.size) w1 gb [] [] from hM) hb)
    clear hgb hM hb
    go_wp2_with fail
    go_loopw [3, 6, 17] (fun v _ i wr => ∃ (j m : Nat) (A1 : Option Addr) (c1 : Nat), i = .int .i64 j ∧ v = .slice A1 m c1 ∧ Hid (j ≤ ps.length ∧ (refM (ps.take j) []).length = m ∧ Prs wr A1 m (refM (ps.take j) []) ∧ MapAt (fun q => q < w.heap.size) wr gb [] [] ∧ Below w.heap.size w wr ∧ ∀ a, A1 = some a → a.block ≠ gb)) (fun _ _ i _ => ps.length - (intOf i).toNat)
    case atStart => exact ⟨0, 0, none, 0, rfl, rfl, Nat.zero_le _, rfl, ⟨rfl, fun q => absurd q (Nat.lt_irrefl 0)⟩, HM0.out.1, HM0.out.2, fun a e => by cases e⟩
    case round =>
      obtain ⟨j, m, A1, c1, rfl, rfl, H⟩ := hrel
      clear HM0
      by_cases hlt : j < ps.length
      · obtain ⟨b, off, _, hA, hbw, x0, x1⟩ := (HH.out.up H.out.2.2.2.2.1).at_ hlt
        subst hA
        have HT := Lib.hid (refM_take hlt [])
        have HFj := Lib.hid (HFI.out _ (List.getElem_mem hlt))
        have hks : ps[j].key.size ≤ 9223372036854775807 := HFj.out
        have hba := below_alloc wr (.cells (prCells ps[j]) 59)
        have hn := heap_new wr (prCells ps[j]) 59
        have hml := refM_len (ps.take j) []
        have HS := Lib.hid (And.intro H.out.2.1 (And.intro (H.out.2.2.1.up hba) (And.intro (H.out.2.2.2.1.up hba) (below_of H.out.2.2.2.2.1 hba))))
        rw [List.length_take] at hml
        have HML := Lib.hid (show m ≤ 60 by have := HL60.out; have := HS.out.1; simp only [List.length_nil] at hml; omega)
        clear H hbw hml
        generalize ps[j] = p at x0 x1 HT HFj hks hba hn HS
        generalize refM (ps.take j) [] = rm at HT HS
        simp only [prCells] at hn hba HS
        have hgz : wr.heap.size < (wr.alloc (.cells #[.string p.key, .int .u64 p.val] 59)).heap.size := by simp
        go_upto_region 8 with fail
        clear x0 x1 hba
        generalize wr.alloc _ = W2 at hn HS hgz ⊢
        generalize wr.heap.size = g2 at hn hgz ⊢
        obtain ⟨x0, x1, -, -⟩ := pr_facts hn
        have em := HS.out.1
        have HS1 := Lib.hid HS.out.2
        clear HS
        subst em
        have HS := HS1
        clear HS1
        by_cases hk : 100 < p.key.size
        · have hkb : decide ((100 : Int) < (p.key.size : Int)) = true := decide_eq_true (by omega)
          clear hk
          go_wp2_with fail
          refine (lives06_any _).mono ?_
          rintro e wn ⟨rfl, hbn⟩
          go_wp2_with fail
          go_ret
          exact ⟨rfl, below_of HS.out.2.2 hbn⟩
        · have hkb : decide ((100 : Int) < (p.key.size : Int)) = false := decide_eq_false (by omega)
          clear hk
          go_wp2_with fail
          refine (put06_any A1 c1 rm p.key p.val _ HS.out.1 (by have := HML.out; omega)).mono ?_
          rintro e w3 ⟨A2, c2, rfl, hown, hb⟩
          have HN := Lib.hid (And.intro (prs_of_ret hown) (And.intro (HS.out.2.1.up hb) (And.intro (below_of HS.out.2.2 hb) (ret_apart hown HS.out.2.1.lt))))
          clear hown hb
          go_wp2_with fail
          go_roundw
          case rel => exact ⟨j + 1, _, A2, c2, by go_num, rfl, by omega, by rw [HT.out], by rw [HT.out]; exact HN.out.1, HN.out.2⟩
          case measure => simp [intOf]; omega
      · obtain rfl : j = ps.length := by have := H.out.1; omega
        have HF := Lib.hid H.out.2
        rw [List.take_length] at HF
        have hml := refM_len ps []
        have HRF := Lib.hid (refM_fit ps [] HFI.out (fun p hp => by simp at hp))
        have HLA := Lib.hid (last_law ps)
        generalize refM ps [] = rm at HF HRF HLA hml
        have em := HF.out.1
        have HAP := Lib.hid HF.out.2.2.2.2
        have HF1 := Lib.hid (And.intro HF.out.2.1 (And.intro HF.out.2.2.1 HF.out.2.2.2.1))
        clear HF
        subst em
        have HF := HF1
        clear HF1
        have HML := Lib.hid (show rm.length ≤ 60 by have := HL60.out; simp only [List.length_nil] at hml; omega)
        have HAl := Lib.hid (fun W hW => all06_any A1 c1 rm W hW HRF.out (by have := HML.out; omega))
        have HNL := Lib.hid (And.intro (nMap_len ps ([], [])) (bMap_len ps))
        have HGD := Lib.hid (And.intro (made_good ps [] [] [] good_nil (List.Perm.refl _)).1.len (bMap_good ps).1.len)
        have HAN := Lib.hid (fun (T : Nat → Prop) (g : Nat) W hW => prs_as (pmall_any T g (nMap ps ([], [])).1 (nMap ps ([], [])).2 W hW (by have := HNL.out.1; have := HL60.out; simp only [List.length_nil] at *; omega)) HLA.out.1)
        have HAB := Lib.hid (fun (T : Nat → Prop) (g : Nat) W hW => prs_as (pmall_any T g (bMap ps).1 (bMap ps).2 W hW (by have := HNL.out.2; have := HL60.out; omega)) HLA.out.2)
        have HNw := Lib.hid (fun W hW => pmnew_any A c ps W hW HFI.out (by have := HL60.out; omega))
        have HALL := Lib.hid (Pl.allM_len rm rm.length)
        generalize Pl.allM rm rm.length = al at HAl HAN HAB HLA HALL
        clear HLA HGD HNL H hml
        have hl60 : ps.length ≤ 60 := HL60.out
        go_wp2_with fail
        go_loopw [7, 8, 9] (fun i _ _ wr => ∃ (q : Nat), i = .int .i64 ((q : Int) - 1) ∧ Hid (q ≤ ps.length ∧ Prs wr A1 rm.length rm ∧ MapAt (fun q => q < w.heap.size) wr gb (bMap (ps.drop q)).1 (bMap (ps.drop q)).2 ∧ Below w.heap.size w wr)) (fun i _ _ _ => (intOf i + 1).toNat)
        case atStart => exact ⟨ps.length, by go_num, Nat.le_refl _, HF.out.1, by rw [List.drop_length]; exact HF.out.2.1, HF.out.2.2⟩
        case round =>
          obtain ⟨q, rfl, H⟩ := hrel
          clear HF
          rcases q with _ | q
          · have HF := Lib.hid H.out.2
            rw [List.drop_zero] at HF
            clear H
            have e0 : (((0 : Nat) : Int) - 1) = -1 := rfl
            rw [e0]
            clear e0
            generalize (bMap ps).1 = bk at HF HAB
            generalize (bMap ps).2 = bv at HF HAB
            generalize (nMap ps ([], [])).1 = nk at HAN HNw
            generalize (nMap ps ([], [])).2 = nv at HAN HNw
            go_wp2_with fail
            refine (HNw.out _ (HH.out.up HF.out.2.2)).mono ?_
            rintro e w4 ⟨gn, rfl, hgn, hMn, hb⟩
            replace HF := Lib.hid (And.intro (HF.out.1.up hb) (And.intro (HF.out.2.1.up hb) (below_of HF.out.2.2 hb)))
            have HMn := Lib.hid hMn
            clear hb hgn hMn HNw
            go_wp2_with fail
            refine (HAN.out _ gn _ HMn.out).mono ?_
            rintro e w5 ⟨Aa, cc, rfl, hown, hb⟩
            replace HF := Lib.hid (And.intro (HF.out.1.up hb) (And.intro (HF.out.2.1.up hb) (below_of HF.out.2.2 hb)))
            have HPa := Lib.hid (prs_of_ret hown)
            clear hown hb HAN HMn
            go_wp2_with fail
            refine (HAl.out _ HF.out.1).mono ?_
            rintro e w6 ⟨Ab, cd, rfl, hown, hb⟩
            replace HF := Lib.hid (And.intro (HF.out.1.up hb) (And.intro (HF.out.2.1.up hb) (below_of HF.out.2.2 hb)))
            replace HPa := Lib.hid (And.intro (HPa.out.up hb) (prs_of_ret hown))
            clear hown hb
            have hal : al.length ≤ 9223372036854775807 := by have := HALL.out; have := HML.out; omega
            go_wp2_with fail
            refine (ret_as (same06_any Aa Ab al.length cc al.length cd al al _ HPa.out.1 HPa.out.2 hal) (congrArg Value.bool (decide_eq_true rfl))).mono ?_
            rintro e w7 ⟨rfl, hb⟩
            replace HF := Lib.hid (And.intro (HF.out.1.up hb) (And.intro (HF.out.2.1.up hb) (below_of HF.out.2.2 hb)))
            clear hb HPa
            go_wp2_with fail
            refine (HAB.out _ gb _ HF.out.2.1).mono ?_
            rintro e w8 ⟨Ac, ce, rfl, hown, hb⟩
            replace HF := Lib.hid (And.intro (HF.out.1.up hb) (And.intro (HF.out.2.1.up hb) (below_of HF.out.2.2 hb)))
            have HPa := Lib.hid (prs_of_ret hown)
            clear hown hb HAB
            go_wp2_with fail
            refine (HAl.out _ HF.out.1).mono ?_
            rintro e w9 ⟨Ad, cf, rfl, hown, hb⟩
            replace HF := Lib.hid (And.intro (HF.out.1.up hb) (And.intro (HF.out.2.1.up hb) (below_of HF.out.2.2 hb)))
            replace HPa := Lib.hid (And.intro (HPa.out.up hb) (prs_of_ret hown))
            clear hown hb HAl
            go_wp2_with fail
            refine (ret_as (same06_any Ac Ad al.length ce al.length cf al al _ HPa.out.1 HPa.out.2 hal) (congrArg Value.bool (decide_eq_true rfl))).mono ?_
            rintro e w10 ⟨rfl, hb⟩
            have HB := Lib.hid (below_of HF.out.2.2 hb)
            clear hb HPa HF
            go_wp2_with fail
            refine (lives06_any _).mono ?_
            rintro e wn ⟨rfl, hbn⟩
            go_wp2_with fail
            go_ret
            exact ⟨rfl, below_of HB.out hbn⟩
          · have hq : q < ps.length := by have := H.out.1; omega
            have hqi : ((q + 1 : Nat) : Int) - 1 = (q : Int) := by omega
            rw [hqi]
            obtain ⟨b, off, _, hA, hbw, c0, c1'⟩ := HH.out.at_ hq
            subst hA
            have HB0 := Lib.hid (And.intro hbw (And.intro c0 c1'))
            have x0 := (H.out.2.2.2.cell (p := ⟨b, off + q * 2, none⟩) hbw).trans c0
            clear c0 c1'
            have HBQ := Lib.hid (bMap_drop hq)
            have HBL := Lib.hid (bMap_len (ps.drop (q + 1)))
            have HFj := Lib.hid (HFI.out _ (List.getElem_mem hq))
            have HS := Lib.hid H.out.2
            clear H hbw hqi
            generalize ps[q] = p at x0 HB0 HBQ HFj
            have hgd := (bMap_good (ps.drop (q + 1))).1.len
            generalize bMap (ps.drop (q + 1)) = bm at HBQ HBL HS hgd
            obtain ⟨bk, bv⟩ := bm
            simp only [] at HBQ HBL HS hgd
            have HGD := Lib.hid hgd
            have HBL2 := Lib.hid (show bk.length ≤ 60 by have := HBL.out; rw [List.length_drop] at this; have := HL60.out; omega)
            obtain ⟨_, Am, cam, Bm, cbm, hMM⟩ := HS.out.2.1
            have HGt := Lib.hid (pmget_any _ gb bk bv p.key Am Bm cam cbm _ hMM HGD.out HFj.out (by have := HBL2.out; omega))
            rw [mGet_snd] at HGt
            have HPt := Lib.hid (fun W (hW : MapAt (fun q => q < w.heap.size) W gb bk bv) hT => pmput_any _ gb bk bv p.key p.val W hW HFj.out (by have := HBL2.out; omega) hT)
            generalize (mGet bk bv p.key).1 = gv at HGt
            clear hMM hgd
            generalize Pl.findIs bk p.key.data.toList = fi at HBQ HGt
            go_wp2_with fail
            refine HGt.out.mono ?_
            rintro e w4 ⟨rfl, hb⟩
            replace HS := Lib.hid (And.intro (HS.out.1.up hb) (And.intro (HS.out.2.1.up hb) (below_of HS.out.2.2 hb)))
            clear HGt x0 hb
            cases fi
            · have HBE := Lib.hid (HBQ.out.trans (if_neg Bool.false_ne_true))
              clear HBQ
              go_upto_region 17 with fail
              generalize w4 = W at HS ⊢
              have hd := Below.drew (Below.refl W.heap.size W)
              have hgne : b ≠ gb := by have := HB0.out.1; have := HG.out; omega
              have HB1 := Lib.hid (And.intro (Nat.lt_of_lt_of_le HB0.out.1 HS.out.2.2.size) (And.intro ((HS.out.2.2.cell (p := ⟨b, off + q * 2, none⟩) HB0.out.1).trans HB0.out.2.1) hgne))
              have HB2 := Lib.hid ((HS.out.2.2.cell (p := ⟨b, off + q * 2 + 1, none⟩) HB0.out.1).trans HB0.out.2.2)
              have HX := Lib.hid (And.intro (HS.out.2.1.up hd) (And.intro (below_of HS.out.2.2 hd) (Off.of_below hd (fun k => k = gb))))
              refine wp_region_held_drew (S := fun w' => Off (fun k => k = gb) W w') (by kernel_rfl) (Off.of_below hd _) (fun hcur => ?_)
              (try dsimp only at hcur)
              clear hd hgne
              generalize W.drew = X at HX hcur ⊢
              refine wpAnyH_take (i := 0) (v := ?_) rfl (by decide +kernel) (by decide +kernel) (by decide +kernel) (fun _ _ _ h => h) (Or.inl ⟨by rfl, ?hy⟩) hcur ?_
              case hy =>
                intro w1 hSw
                (try dsimp only at hSw)
                have x0 := (hSw.cell (p := ⟨b, off + q * 2, none⟩) HB1.out.1 HB1.out.2.2).trans HB1.out.2.1
                have x1 := (hSw.cell (p := ⟨b, off + q * 2 + 1, none⟩) HB1.out.1 HB1.out.2.2).trans HB2.out
                go_simp
                (try with_reducible rfl)
              (try simp only [Act.put, List.getElem_toArray, List.getElem_cons_zero, List.getElem_cons_succ, List.setIfInBounds_toArray, List.set_cons_zero, List.set_cons_succ])
              refine wpAnyH_take (i := 1) (v := ?_) rfl (by decide +kernel) (by decide +kernel) (by decide +kernel) (fun _ _ _ h => h) (Or.inl ⟨by rfl, ?hy⟩) hcur ?_
              case hy =>
                intro w1 hSw
                (try dsimp only at hSw)
                have x0 := (hSw.cell (p := ⟨b, off + q * 2, none⟩) HB1.out.1 HB1.out.2.2).trans HB1.out.2.1
                have x1 := (hSw.cell (p := ⟨b, off + q * 2 + 1, none⟩) HB1.out.1 HB1.out.2.2).trans HB2.out
                go_simp
                (try with_reducible rfl)
              (try simp only [Act.put, List.getElem_toArray, List.getElem_cons_zero, List.getElem_cons_succ, List.setIfInBounds_toArray, List.set_cons_zero, List.set_cons_succ])
              refine wpAnyH_take (i := 2) (v := ?_) rfl (by decide +kernel) (by decide +kernel) (by decide +kernel) (fun _ _ _ h => h) (Or.inl ⟨by rfl, ?hy⟩) hcur ?_
              case hy =>
                intro w1 hSw
                (try dsimp only at hSw)
                have x0 := (hSw.cell (p := ⟨b, off + q * 2, none⟩) HB1.out.1 HB1.out.2.2).trans HB1.out.2.1
                have x1 := (hSw.cell (p := ⟨b, off + q * 2 + 1, none⟩) HB1.out.1 HB1.out.2.2).trans HB2.out
                go_simp
                (try with_reducible rfl)
              (try simp only [Act.put, List.getElem_toArray, List.getElem_cons_zero, List.getElem_cons_succ, List.setIfInBounds_toArray, List.set_cons_zero, List.set_cons_succ])
              refine wpAnyH_take (i := 3) (v := ?_) rfl (by decide +kernel) (by decide +kernel) (by decide +kernel) (fun _ _ _ h => h) (Or.inl ⟨by rfl, ?hy⟩) hcur ?_
              case hy =>
                intro w1 hSw
                (try dsimp only at hSw)
                have x0 := (hSw.cell (p := ⟨b, off + q * 2, none⟩) HB1.out.1 HB1.out.2.2).trans HB1.out.2.1
                have x1 := (hSw.cell (p := ⟨b, off + q * 2 + 1, none⟩) HB1.out.1 HB1.out.2.2).trans HB2.out
                go_simp
                (try with_reducible rfl)
              (try simp only [Act.put, List.getElem_toArray, List.getElem_cons_zero, List.getElem_cons_succ, List.setIfInBounds_toArray, List.set_cons_zero, List.set_cons_succ])
              refine wpAnyH_take (i := 4) (v := ?_) rfl (by decide +kernel) (by decide +kernel) (by decide +kernel) (fun _ _ _ h => h) (Or.inl ⟨by rfl, ?hy⟩) hcur ?_
              case hy =>
                intro w1 hSw
                (try dsimp only at hSw)
                have x0 := (hSw.cell (p := ⟨b, off + q * 2, none⟩) HB1.out.1 HB1.out.2.2).trans HB1.out.2.1
                have x1 := (hSw.cell (p := ⟨b, off + q * 2 + 1, none⟩) HB1.out.1 HB1.out.2.2).trans HB2.out
                go_simp
                (try with_reducible rfl)
              (try simp only [Act.put, List.getElem_toArray, List.getElem_cons_zero, List.getElem_cons_succ, List.setIfInBounds_toArray, List.set_cons_zero, List.set_cons_succ])
              refine wpAnyH_take (i := 5) (v := ?_) rfl (by decide +kernel) (by decide +kernel) (by decide +kernel) (fun _ _ _ h => h) (Or.inl ⟨by rfl, ?hy⟩) hcur ?_
              case hy =>
                intro w1 hSw
                (try dsimp only at hSw)
                have x0 := (hSw.cell (p := ⟨b, off + q * 2, none⟩) HB1.out.1 HB1.out.2.2).trans HB1.out.2.1
                have x1 := (hSw.cell (p := ⟨b, off + q * 2 + 1, none⟩) HB1.out.1 HB1.out.2.2).trans HB2.out
                go_simp
                (try with_reducible rfl)
              (try simp only [Act.put, List.getElem_toArray, List.getElem_cons_zero, List.getElem_cons_succ, List.setIfInBounds_toArray, List.set_cons_zero, List.set_cons_succ])
              refine wpAnyH_take (i := 6) (v := ?_) rfl (by decide +kernel) (by decide +kernel) (by decide +kernel) (fun _ _ _ h => h) (Or.inl ⟨by rfl, ?hy⟩) hcur ?_
              case hy =>
                intro w1 hSw
                (try dsimp only at hSw)
                have x0 := (hSw.cell (p := ⟨b, off + q * 2, none⟩) HB1.out.1 HB1.out.2.2).trans HB1.out.2.1
                have x1 := (hSw.cell (p := ⟨b, off + q * 2 + 1, none⟩) HB1.out.1 HB1.out.2.2).trans HB2.out
                go_simp
                (try with_reducible rfl)
              (try simp only [Act.put, List.getElem_toArray, List.getElem_cons_zero, List.getElem_cons_succ, List.setIfInBounds_toArray, List.set_cons_zero, List.set_cons_succ])
              refine wpAnyH_take (i := 7) (v := ?_) rfl (by decide +kernel) (by decide +kernel) (by decide +kernel) (fun _ _ _ h => h) (Or.inl ⟨by rfl, ?hy⟩) hcur ?_
              case hy =>
                intro w1 hSw
                (try dsimp only at hSw)
                have x0 := (hSw.cell (p := ⟨b, off + q * 2, none⟩) HB1.out.1 HB1.out.2.2).trans HB1.out.2.1
                have x1 := (hSw.cell (p := ⟨b, off + q * 2 + 1, none⟩) HB1.out.1 HB1.out.2.2).trans HB2.out
                go_simp
                (try with_reducible rfl)
              (try simp only [Act.put, List.getElem_toArray, List.getElem_cons_zero, List.getElem_cons_succ, List.setIfInBounds_toArray, List.set_cons_zero, List.set_cons_succ])
              refine wpAnyH_take (i := 8) (v := ?_) rfl (by decide +kernel) (by decide +kernel) (by decide +kernel) (fun _ _ _ h => h) (Or.inl ⟨by rfl, ?hy⟩) hcur ?_
              case hy =>
                intro w1 hSw
                (try dsimp only at hSw)
                have x0 := (hSw.cell (p := ⟨b, off + q * 2, none⟩) HB1.out.1 HB1.out.2.2).trans HB1.out.2.1
                have x1 := (hSw.cell (p := ⟨b, off + q * 2 + 1, none⟩) HB1.out.1 HB1.out.2.2).trans HB2.out
                go_simp
                (try with_reducible rfl)
              (try simp only [Act.put, List.getElem_toArray, List.getElem_cons_zero, List.getElem_cons_succ, List.setIfInBounds_toArray, List.set_cons_zero, List.set_cons_succ])
              refine wpAnyH_take (i := 9) (v := ?_) rfl (by decide +kernel) (by decide +kernel) (by decide +kernel) (fun _ _ _ h => h) (Or.inl ⟨by rfl, ?hy⟩) hcur ?_
              case hy =>
                intro w1 hSw
                (try dsimp only at hSw)
                have x0 := (hSw.cell (p := ⟨b, off + q * 2, none⟩) HB1.out.1 HB1.out.2.2).trans HB1.out.2.1
                have x1 := (hSw.cell (p := ⟨b, off + q * 2 + 1, none⟩) HB1.out.1 HB1.out.2.2).trans HB2.out
                go_simp
                (try with_reducible rfl)
              (try simp only [Act.put, List.getElem_toArray, List.getElem_cons_zero, List.getElem_cons_succ, List.setIfInBounds_toArray, List.set_cons_zero, List.set_cons_succ])
              refine wpAnyH_take (i := 10) (v := ?_) rfl (by decide +kernel) (by decide +kernel) (by decide +kernel) (fun _ _ _ h => h) (Or.inl ⟨by rfl, ?hy⟩) hcur ?_
              case hy =>
                intro w1 hSw
                (try dsimp only at hSw)
                have x0 := (hSw.cell (p := ⟨b, off + q * 2, none⟩) HB1.out.1 HB1.out.2.2).trans HB1.out.2.1
                have x1 := (hSw.cell (p := ⟨b, off + q * 2 + 1, none⟩) HB1.out.1 HB1.out.2.2).trans HB2.out
                go_simp
                (try with_reducible rfl)
              (try simp only [Act.put, List.getElem_toArray, List.getElem_cons_zero, List.getElem_cons_succ, List.setIfInBounds_toArray, List.set_cons_zero, List.set_cons_succ])
              refine wpAnyH_ready (rs := [11]) (by decide +kernel) (by simp) ?_
              refine AllReadyH.cons rfl (fun K hK => ?_) AllReadyH.nil
              go_simp
              refine (HPt.out _ HX.out.1 (fun t ht => Nat.lt_of_lt_of_le ht HX.out.2.1.size)).mono ?_
              rintro e w5 ⟨rfl, hM5, hO5⟩
              have hoff := HX.out.2.2.trans hO5 (fun _ _ q => q)
              have HN := Lib.hid (And.intro (HS.out.1.off hoff HAP.out) (And.intro hM5 (hO5.below HX.out.2.1 HX.out.2.1.size (fun j hj e => by have := HG.out; omega))))
              clear hM5 hO5 HS HX
              go_wp2_with fail
              refine hK.out _ _ (hoff) (fun hcur2 => ?_)
              clear hK K
              replace hcur := hcur2
              (try dsimp only at hcur)
              clear hcur2
              (try simp only [Act.put, List.getElem_toArray, List.getElem_cons_zero, List.getElem_cons_succ, List.setIfInBounds_toArray, List.set_cons_zero, List.set_cons_succ])
              refine wpAnyH_done (by decide +kernel) ?_ _
              clear hcur hoff
              go_wp2_with fail
              go_roundw
              case rel => exact ⟨q, by go_num, by omega, HN.out.1, by rw [HBE.out]; exact HN.out.2⟩
              case measure => simp [intOf]
            · have HBE := Lib.hid (HBQ.out.trans (if_pos rfl))
              clear HBQ
              go_wp2_with fail
              go_roundw
              case rel => exact ⟨q, by go_num, by omega, HS.out.1, by rw [HBE.out]; exact HS.out.2⟩
              case measure => simp [intOf]
theorem pairslast_row (A : Option Addr) (c : Nat) (ps : List PairD) (w : World) (h : Prs w A ps.length ps) (hf : FitP ps) (_ : ps.length ≤ c) (hl : ps.length ≤ 9223372036854775807) :
    Calls Try.prog 10 #[.slice A ps.length c] w (Ret (.bool true) w) := pairslast_any A c ps w h hf hl

end Go.Proofs.Ytggjlnjpokdfpaa
