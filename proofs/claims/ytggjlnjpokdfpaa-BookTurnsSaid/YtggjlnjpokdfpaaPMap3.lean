/- Contracts of package pairs: Next, Prev, Max, Min, All, New. -/
import Derived.Test.YtggjlnjpokdfpaaPMap2
namespace Go.Proofs.Ytggjlnjpokdfpaa
open Go.RowKit

def nxI (ks : List ByteArray) (k : ByteArray) : Int := if Pl.findIs ks k.data.toList = true then (Pl.findAt ks k.data.toList : Int) + 1 else (Pl.findAt ks k.data.toList : Int)
def pairV (o : Option PairD) : Value := .tuple #[.agg (prCells (o.getD Pl.zeroP)), .bool o.isSome]

set_option maxRecDepth 100000 in
set_option maxHeartbeats 4000000 in
theorem pmnext_any (T : Nat → Prop) (g : Nat) (ks : List ByteArray) (vs : List Int) (k : ByteArray) (A B : Option Addr) (ca cb : Nat) (w : World) (h : MapA T w g ks vs A ca B cb) (hv : ks.length = vs.length) (hk : k.size ≤ maxLen) (hl : ks.length ≤ 1000) :
    Calls Try.prog 51 #[.pointer (some ⟨g, 0, none⟩), .string k] w (Ret (pairV (atO (Pl.zipP ks vs) (nxI ks k))) w) := by
  have HF := Lib.hid (fun W hW => pmfind_any T g ks vs k A B ca cb W hW hk hl)
  have HA := Lib.hid (fun i W hW => pmat_any T g ks vs i A B ca cb W hW hv hl)
  have HM := Lib.hid h
  have HLE := Lib.hid (Pl.findAt_le ks k.data.toList)
  have hn : nxI ks k = if Pl.findIs ks k.data.toList = true then (Pl.findAt ks k.data.toList : Int) + 1 else (Pl.findAt ks k.data.toList : Int) := rfl
  unfold pairV
  generalize nxI ks k = z at hn ⊢
  generalize Pl.findIs ks k.data.toList = hs at HF hn
  generalize Pl.findAt ks k.data.toList = i at HF HLE hn
  have HZ := Lib.hid hn
  clear hn h hv
  have hS := Lib.hid ((Sx.start0 w).alloc (.cells (prCells Pl.zeroP) 59))
  simp only [prCells, Pl.zeroP, List.nil_append] at hS
  go_enter Try.func51, Try.ntmps51
  go_upto_region 1 with fail
  generalize w.alloc _ = W at hS ⊢
  go_wp2_with fail
  refine (HF.out _ (HM.out.up hS.out.below)).mono ?_
  rintro e wn ⟨rfl, hbn⟩
  replace hS := Lib.hid (hS.out.call hbn)
  clear hbn
  cases hs
  · have e0 := (HZ.out.trans (if_neg Bool.false_ne_true)).symm
    clear HZ
    subst e0
    have HA2 := Lib.hid (HA.out (i : Int))
    clear HA
    go_wp2_with fail
    refine (HA2.out _ (HM.out.up hS.out.below)).mono ?_
    rintro e wn ⟨rfl, hbn⟩
    replace hS := Lib.hid (hS.out.call hbn)
    clear hbn
    obtain ⟨y0, y1, q0, q1⟩ := pr_facts (hS.out.has 0 _ _ rfl).1
    simp only [prCells]
    have HZ := Lib.hid ((hS.out.setc 0 rfl 0 (.string ((atO (Pl.zipP ks vs) (i : Int)).getD Pl.zeroP).key)).setc 0 rfl 1 (.int .u64 ((atO (Pl.zipP ks vs) (i : Int)).getD Pl.zeroP).val)).below
    go_wp2_with fail
    exact bodyPost_ret (v := .tuple #[.agg #[.string ((atO (Pl.zipP ks vs) (i : Int)).getD Pl.zeroP).key, .int .u64 ((atO (Pl.zipP ks vs) (i : Int)).getD Pl.zeroP).val], .bool (atO (Pl.zipP ks vs) (i : Int)).isSome]) (by simp [results, Try.results51, go_sem, *]) rfl ⟨rfl, HZ.out⟩
  · have e0 := (HZ.out.trans (if_pos rfl)).symm
    clear HZ
    subst e0
    have HA2 := Lib.hid (HA.out ((i : Int) + 1))
    clear HA
    have hi : i ≤ 1000 := by have := HLE.out; omega
    go_wp2_with fail
    refine (HA2.out _ (HM.out.up hS.out.below)).mono ?_
    rintro e wn ⟨rfl, hbn⟩
    replace hS := Lib.hid (hS.out.call hbn)
    clear hbn
    obtain ⟨y0, y1, q0, q1⟩ := pr_facts (hS.out.has 0 _ _ rfl).1
    simp only [prCells]
    have HZ := Lib.hid ((hS.out.setc 0 rfl 0 (.string ((atO (Pl.zipP ks vs) ((i : Int) + 1)).getD Pl.zeroP).key)).setc 0 rfl 1 (.int .u64 ((atO (Pl.zipP ks vs) ((i : Int) + 1)).getD Pl.zeroP).val)).below
    go_wp2_with fail
    exact bodyPost_ret (v := .tuple #[.agg #[.string ((atO (Pl.zipP ks vs) ((i : Int) + 1)).getD Pl.zeroP).key, .int .u64 ((atO (Pl.zipP ks vs) ((i : Int) + 1)).getD Pl.zeroP).val], .bool (atO (Pl.zipP ks vs) ((i : Int) + 1)).isSome]) (by simp [results, Try.results51, go_sem, *]) rfl ⟨rfl, HZ.out⟩
set_option maxRecDepth 100000 in
set_option maxHeartbeats 4000000 in
theorem pmprev_any (T : Nat → Prop) (g : Nat) (ks : List ByteArray) (vs : List Int) (k : ByteArray) (A B : Option Addr) (ca cb : Nat) (w : World) (h : MapA T w g ks vs A ca B cb) (hv : ks.length = vs.length) (hk : k.size ≤ maxLen) (hl : ks.length ≤ 1000) :
    Calls Try.prog 71 #[.pointer (some ⟨g, 0, none⟩), .string k] w (Ret (pairV (atO (Pl.zipP ks vs) ((Pl.findAt ks k.data.toList : Int) - 1))) w) := by
  have HF := Lib.hid (fun W hW => pmfind_any T g ks vs k A B ca cb W hW hk hl)
  have HA := Lib.hid (fun i W hW => pmat_any T g ks vs i A B ca cb W hW hv hl)
  have HM := Lib.hid h
  have HLE := Lib.hid (Pl.findAt_le ks k.data.toList)
  unfold pairV
  clear h hv
  generalize Pl.findIs ks k.data.toList = hs at HF ⊢
  generalize Pl.findAt ks k.data.toList = i at HF HLE ⊢
  have hS := Lib.hid ((Sx.start0 w).alloc (.cells (prCells Pl.zeroP) 59))
  simp only [prCells, Pl.zeroP, List.nil_append] at hS
  go_enter Try.func71, Try.ntmps71
  go_upto_region 1 with fail
  generalize w.alloc _ = W at hS ⊢
  go_wp2_with fail
  refine (HF.out _ (HM.out.up hS.out.below)).mono ?_
  rintro e wn ⟨rfl, hbn⟩
  replace hS := Lib.hid (hS.out.call hbn)
  clear hbn
  have HA2 := Lib.hid (HA.out ((i : Int) - 1))
  clear HA
  have hi : i ≤ 1000 := by have := HLE.out; omega
  go_wp2_with fail
  refine (HA2.out _ (HM.out.up hS.out.below)).mono ?_
  rintro e wn ⟨rfl, hbn⟩
  replace hS := Lib.hid (hS.out.call hbn)
  clear hbn
  obtain ⟨y0, y1, q0, q1⟩ := pr_facts (hS.out.has 0 _ _ rfl).1
  simp only [prCells]
  have HZ := Lib.hid ((hS.out.setc 0 rfl 0 (.string ((atO (Pl.zipP ks vs) ((i : Int) - 1)).getD Pl.zeroP).key)).setc 0 rfl 1 (.int .u64 ((atO (Pl.zipP ks vs) ((i : Int) - 1)).getD Pl.zeroP).val)).below
  go_wp2_with fail
  exact bodyPost_ret (v := .tuple #[.agg #[.string ((atO (Pl.zipP ks vs) ((i : Int) - 1)).getD Pl.zeroP).key, .int .u64 ((atO (Pl.zipP ks vs) ((i : Int) - 1)).getD Pl.zeroP).val], .bool (atO (Pl.zipP ks vs) ((i : Int) - 1)).isSome]) (by simp [results, Try.results71, go_sem, *]) rfl ⟨rfl, HZ.out⟩
set_option maxRecDepth 100000 in
set_option maxHeartbeats 4000000 in
theorem pmmax_any (T : Nat → Prop) (g : Nat) (ks : List ByteArray) (vs : List Int) (A B : Option Addr) (ca cb : Nat) (w : World) (h : MapA T w g ks vs A ca B cb) (hv : ks.length = vs.length) (hl : ks.length ≤ 1000) :
    Calls Try.prog 52 #[.pointer (some ⟨g, 0, none⟩)] w (Ret (pairV (atO (Pl.zipP ks vs) ((ks.length : Int) - 1))) w) := by
  have HL := Lib.hid (fun W hW => pmlen_any T g ks vs A B ca cb W hW)
  have HA2 := Lib.hid (fun W hW => pmat_any T g ks vs ((ks.length : Int) - 1) A B ca cb W hW hv hl)
  have HM := Lib.hid h
  unfold pairV
  clear h hv
  have hS := Lib.hid ((Sx.start0 w).alloc (.cells (prCells Pl.zeroP) 59))
  simp only [prCells, Pl.zeroP, List.nil_append] at hS
  go_enter Try.func52, Try.ntmps52
  go_upto_region 1 with fail
  generalize w.alloc _ = W at hS ⊢
  go_wp2_with fail
  refine (HL.out _ (HM.out.up hS.out.below)).mono ?_
  rintro e wn ⟨rfl, hbn⟩
  replace hS := Lib.hid (hS.out.call hbn)
  clear hbn
  go_wp2_with fail
  refine (HA2.out _ (HM.out.up hS.out.below)).mono ?_
  rintro e wn ⟨rfl, hbn⟩
  replace hS := Lib.hid (hS.out.call hbn)
  clear hbn
  obtain ⟨y0, y1, q0, q1⟩ := pr_facts (hS.out.has 0 _ _ rfl).1
  simp only [prCells]
  have HZ := Lib.hid ((hS.out.setc 0 rfl 0 (.string ((atO (Pl.zipP ks vs) ((ks.length : Int) - 1)).getD Pl.zeroP).key)).setc 0 rfl 1 (.int .u64 ((atO (Pl.zipP ks vs) ((ks.length : Int) - 1)).getD Pl.zeroP).val)).below
  go_wp2_with fail
  exact bodyPost_ret (v := .tuple #[.agg #[.string ((atO (Pl.zipP ks vs) ((ks.length : Int) - 1)).getD Pl.zeroP).key, .int .u64 ((atO (Pl.zipP ks vs) ((ks.length : Int) - 1)).getD Pl.zeroP).val], .bool (atO (Pl.zipP ks vs) ((ks.length : Int) - 1)).isSome]) (by simp [results, Try.results52, go_sem, *]) rfl ⟨rfl, HZ.out⟩

theorem Ow.bare {B : Nat} {W0 W : World} {L : List (Nat × Obj)} {R : List RowT} (h : Ow B W0 W L R) : Ow B W0 W [] R :=
  ⟨⟨h.sx.below, h.sx.le, fun i g o q => by simp at q, fun i j p q _ r => by simp at r⟩, h.own, h.ne, fun i j k r p _ _ q => by simp at q⟩
theorem zip_take {r : List PairD} {j : Nat} (hj : j < r.length) : r.take (j + 1) = r.take j ++ [(atO r (j : Int)).getD Pl.zeroP] := by
  unfold atO
  rw [if_pos (by omega), Int.toNat_natCast, List.take_add_one, List.getElem?_eq_getElem hj]
  rfl
set_option maxRecDepth 100000 in
set_option maxHeartbeats 4000000 in
theorem pmall_any (T : Nat → Prop) (g : Nat) (ks : List ByteArray) (vs : List Int) (w : World) (h : MapAt T w g ks vs) (hl : ks.length ≤ 1000) :
    Calls Try.prog 46 #[.pointer (some ⟨g, 0, none⟩)] w (PrsRet (Pl.zipP ks vs) w) := by
  obtain ⟨hv, A, ca, B, cb, hM⟩ := h
  have HL := Lib.hid (pmlen_any T g ks vs A B ca cb w hM)
  have HA := Lib.hid (fun i W hW => pmat_any T g ks vs i A B ca cb W hW hv hl)
  have HM := Lib.hid hM
  have HZL := Lib.hid (Pl.zipP_len hv)
  generalize hr : Pl.zipP ks vs = r at HA HZL ⊢
  clear hr hM hv
  have hl2 : ks.length ≤ 9223372036854775807 := by omega
  go_enter Try.func46, Try.ntmps46
  go_wp2_with fail
  refine HL.out.mono ?_
  rintro e wn ⟨rfl, hbn⟩
  have hO := ((Ow.start (Sx.start0 w)).call hbn).nil 59 2
  simp only [List.nil_append] at hO
  have HO := Lib.hid hO
  clear hbn hO HL
  go_wp2_with fail
  go_loopw [2, 3, 4, 5, 8] (fun v _ _ _ i wr => ∃ (j : Nat) (A1 : Option Addr) (c1 : Nat), i = .int .i64 j ∧ v = .slice A1 j c1 ∧ Hid (j ≤ ks.length ∧
    Ow w.heap.size w wr [] [⟨59, 2, .slice A1 j c1, j, prRow (r.take j)⟩])) (fun _ _ _ _ i _ => ks.length - (intOf i).toNat)
  case atStart => exact ⟨0, none, 0, rfl, rfl, Nat.zero_le _, HO.out⟩
  case round =>
    obtain ⟨j, A1, c1, rfl, rfl, H⟩ := hrel
    clear HO
    by_cases hlt : j < ks.length
    · have HO := Lib.hid H.out.2
      have HT := Lib.hid (zip_take (r := r) (j := j) (by rw [HZL.out]; exact hlt))
      have HA2 := Lib.hid (HA.out (j : Int))
      clear H
      generalize atO r (j : Int) = o at HA2 HT
      generalize o.getD Pl.zeroP = p at HA2 HT
      simp only [prCells] at HA2
      go_wp2_with fail
      refine (HA2.out _ (HM.out.up HO.out.below)).mono ?_
      rintro e w2 ⟨rfl, hbn⟩
      have hOw := (HO.out.call hbn).alloc (.cells (prCells p) 59)
      simp only [prCells, List.nil_append] at hOw
      clear hbn HO
      go_upto_region 5 with fail
      generalize w2.alloc _ = w3 at hOw ⊢
      generalize w2.heap.size = g3 at hOw ⊢
      obtain ⟨x0, x1, -, -⟩ := pr_facts (hOw.sx.has 0 _ _ rfl).1
      obtain ⟨A2, c2, W3, hrun, hc2, hO2⟩ := hOw.pushP 53 (by kernel_rfl) 0 rfl p (by omega)
      simp only [List.set_cons_zero] at hO2
      have HN := Lib.hid (And.intro hO2 HT.out)
      have Hrun := Lib.hid hrun
      simp only [prCells] at Hrun
      clear hOw hO2 hrun HT
      go_wp2_with (at_builtin; refine wpList_append_run rfl (.tmp 17) (.tmp 19) 53 rfl rfl rfl Hrun.out ?_)
      go_roundw
      case rel => exact ⟨j + 1, A2, c2, by go_num, rfl, by omega, by rw [HN.out.2]; exact HN.out.1.bare⟩
      case measure => simp [intOf]; omega
    · obtain rfl : j = ks.length := by have := H.out.1; omega
      have HF := Lib.hid H.out.2
      rw [List.take_of_length_le (by rw [HZL.out]; exact Nat.le_refl _)] at HF
      clear H
      go_wp2_with fail
      go_ret
      have h1 := HF.out.own 0 _ rfl
      exact ⟨A1, c1, by rw [HZL.out]; rfl, by rw [HZL.out]; exact h1, HF.out.below⟩
theorem pmall_nil (w : World) : Calls Try.prog 46 #[.pointer none] w (Ret (.slice none 0 0) w) := by
  go_enter Try.func46, Try.ntmps46
  go_wp2_with fail
  refine (pmlen_nil w).mono ?_
  rintro e wn ⟨rfl, hbn⟩
  have HB := Lib.hid hbn
  clear hbn
  go_wp2_with fail
  go_loopw [2, 3, 4, 5, 8] (fun v _ _ _ i wr => i = .int .i64 0 ∧ v = .slice none 0 0 ∧ Hid (Below w.heap.size w wr)) (fun _ _ _ _ _ _ => 0)
  case atStart => exact ⟨rfl, rfl, HB.out⟩
  case round =>
    obtain ⟨rfl, rfl, H⟩ := hrel
    go_wp2_with fail
    go_ret
    exact ⟨rfl, H.out⟩

/-- What a map has that was made of pairs. -/
def nMap : List PairD → List ByteArray × List Int → List ByteArray × List Int
  | [], m => m
  | p :: t, m => nMap t (pKs m.1 p.key, pVs m.1 m.2 p.key p.val)
theorem nMap_snoc : ∀ (l : List PairD) (p : PairD) (m : List ByteArray × List Int), nMap (l ++ [p]) m = (pKs (nMap l m).1 p.key, pVs (nMap l m).1 (nMap l m).2 p.key p.val)
  | [], _, _ => rfl
  | _ :: t, p, _ => nMap_snoc t p _
theorem pKs_len (ks : List ByteArray) (k : ByteArray) : (pKs ks k).length ≤ ks.length + 1 := by
  unfold pKs
  split
  · omega
  · rw [insl _ (Pl.findAt_le _ _)]
    exact Nat.le_refl _
theorem nMap_len : ∀ (l : List PairD) (m : List ByteArray × List Int), (nMap l m).1.length ≤ m.1.length + l.length
  | [], _ => Nat.le_refl _
  | p :: t, m => by
    have h1 := nMap_len t (pKs m.1 p.key, pVs m.1 m.2 p.key p.val)
    have h2 := pKs_len m.1 p.key
    show (nMap t (pKs m.1 p.key, pVs m.1 m.2 p.key p.val)).1.length ≤ _
    rw [List.length_cons]
    simp only [] at h1
    omega
theorem nMap_take {ps : List PairD} {j : Nat} (hj : j < ps.length) (m : List ByteArray × List Int) : nMap (ps.take (j + 1)) m = (pKs (nMap (ps.take j) m).1 ps[j].key, pVs (nMap (ps.take j) m).1 (nMap (ps.take j) m).2 ps[j].key ps[j].val) := by
  rw [List.take_add_one, List.getElem?_eq_getElem hj]
  exact nMap_snoc _ _ _
/-- A map that is made. -/
def NewRet (ks : List ByteArray) (vs : List Int) (w : World) (e : Ending) (w' : World) : Prop :=
  ∃ g, e = .returned (.pointer (some ⟨g, 0, none⟩)) ∧ w.heap.size ≤ g ∧ MapAt (fun q => q < w.heap.size) w' g ks vs ∧ Below w.heap.size w w'
theorem MapAt.new (T : Nat → Prop) (w : World) (hT : ¬ T w.heap.size) : MapAt T (w.alloc (.cells #[.slice none 0 0, .slice none 0 0] 78)) w.heap.size [] [] :=
  ⟨rfl, none, 0, none, 0, heap_alloc_new w _, Rd.nil _ _ _ _, Rd.nil _ _ _ _, fun j hj => absurd hj (Nat.not_lt_zero _), Nat.le_refl _, Nat.le_refl _, fun a e => (by cases e), fun a e => (by cases e), hT, fun a e => (by cases e), fun a e => (by cases e)⟩

set_option maxRecDepth 100000 in
set_option maxHeartbeats 4000000 in
theorem pmnew_any (A : Option Addr) (c : Nat) (ps : List PairD) (w : World) (h : Prs w A ps.length ps) (hf : FitP ps) (hl : ps.length ≤ 900) :
    Calls Try.prog 41 #[.slice A ps.length c] w (NewRet (nMap ps ([], [])).1 (nMap ps ([], [])).2 w) := by
  have HH := Lib.hid h
  have HFI := Lib.hid hf
  have HM0 := Lib.hid (MapAt.new (fun q => q < w.heap.size) w (Nat.lt_irrefl _))
  have HB0 := Lib.hid (below_alloc w (.cells #[.slice none 0 0, .slice none 0 0] 78))
  clear h hf
  go_enter Try.func41, Try.ntmps41
  go_upto_region 2 with fail
  generalize w.alloc _ = W at HM0 HB0 ⊢
  go_wp2_with fail
  go_loopw [5, 10] (fun _ i wr => ∃ (j : Nat), i = .int .i64 j ∧ Hid (j ≤ ps.length ∧ MapAt (fun q => q < w.heap.size) wr w.heap.size (nMap (ps.take j) ([], [])).1 (nMap (ps.take j) ([], [])).2 ∧ Below w.heap.size w wr)) (fun _ i _ => ps.length - (intOf i).toNat)
  case atStart => exact ⟨0, rfl, Nat.zero_le _, HM0.out, HB0.out⟩
  case round =>
    obtain ⟨j, rfl, H⟩ := hrel
    clear HM0 HB0
    by_cases hlt : j < ps.length
    · obtain ⟨b, off, _, hA, hbw, x0, x1⟩ := (HH.out.up H.out.2.2).at_ hlt
      subst hA
      have HT := Lib.hid (nMap_take hlt ([], []))
      have HLE := Lib.hid (nMap_len (ps.take j) ([], []))
      have HKF := Lib.hid (HFI.out _ (List.getElem_mem hlt))
      have HM := Lib.hid H.out.2
      clear H hbw
      generalize ps[j] = p at x0 x1 HT HKF
      generalize nMap (ps.take j) ([], []) = m at HT HM HLE
      have hba := below_alloc wr (.cells (prCells p) 59)
      have hgz : wr.heap.size < (wr.alloc (.cells (prCells p) 59)).heap.size := by simp
      have hn0 := new_cell wr (prCells p) 59 0 _ rfl
      have hn1 := new_cell wr (prCells p) 59 1 _ rfl
      have HM2 := Lib.hid (And.intro (HM.out.1.up hba) (below_of HM.out.2 hba))
      simp only [prCells] at hba hgz hn0 hn1 HM2
      clear hba
      go_upto_region 5 with fail
      clear x0 x1 HM
      generalize wr.alloc _ = W2 at hgz hn0 hn1 HM2 ⊢
      generalize wr.heap.size = g2 at hgz hn0 hn1 ⊢
      go_wp2_with fail
      refine (pmput_any _ w.heap.size m.1 m.2 p.key p.val _ HM2.out.1 HKF.out (by have := HLE.out; rw [List.length_take] at this; simp only [List.length_nil] at this; omega) (fun t ht => Nat.lt_of_lt_of_le ht HM2.out.2.size)).mono ?_
      rintro e w3 ⟨rfl, hM3, hO3⟩
      have HN := Lib.hid (And.intro hM3 (hO3.below HM2.out.2 HM2.out.2.size (fun q hq e => by omega)))
      clear hM3 hO3 hn0 hn1 hgz
      go_wp2_with fail
      go_roundw
      case rel => exact ⟨j + 1, by go_num, by omega, by rw [HT.out]; exact HN.out.1, HN.out.2⟩
      case measure => simp [intOf]; omega
    · obtain rfl : j = ps.length := by have := H.out.1; omega
      have HF := Lib.hid H.out.2
      rw [List.take_length] at HF
      clear H
      go_wp2_with fail
      go_ret
      exact ⟨w.heap.size, rfl, Nat.le_refl _, HF.out.1, HF.out.2⟩

end Go.Proofs.Ytggjlnjpokdfpaa
