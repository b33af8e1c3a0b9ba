/- The law PairsApart: the walk. -/
import Derived.Test.YtggjlnjpokdfpaaActs
import Derived.Test.YtggjlnjpokdfpaaPLives
import Derived.Test.YtggjlnjpokdfpaaPLast
namespace Go.Proofs.Ytggjlnjpokdfpaa
open Go.RowKit

/-- A variable of the call's own, whatever else is turned. -/
structure Bx (w W : World) (g : Nat) (o : Obj) : Prop where
  below : Below w.heap.size w W
  has : W.heap[g]? = some o
  ge : w.heap.size ≤ g
theorem Bx.lt {w W : World} {g : Nat} {o : Obj} (h : Bx w W g o) : g < W.heap.size := (Array.getElem?_eq_some_iff.1 h.has).1
theorem Bx.up {w W W' : World} {g : Nat} {o : Obj} (h : Bx w W g o) (hb : Below W.heap.size W W') : Bx w W' g o := ⟨below_of h.below hb, (hb.block g h.lt).trans h.has, h.ge⟩
theorem Bx.off {w W W' : World} {g k : Nat} {o : Obj} (h : Bx w W g o) (ho : Off (fun q => q = k) W W') (hk : w.heap.size ≤ k) (hne : k ≠ g) : Bx w W' g o :=
  ⟨ho.below h.below h.below.size (fun j hj e => by omega), (ho.block g h.lt (fun e => hne e.symm)).trans h.has, h.ge⟩
theorem prs_offA {k : Nat} {w w' : World} {A : Option Addr} {n : Nat} {ps : List PairD} (h : Prs w A n ps) (ho : Off (fun q => q = k) w w') (hs : ∀ a, A = some a → a.block ≠ k) : Prs w' A n ps := ⟨h.1, fun h0 => by
  obtain ⟨b, off, rfl, hbl, hc⟩ := h.2 h0
  have hb : ¬ b = k := hs ⟨b, off, none⟩ rfl
  exact ⟨b, off, rfl, Nat.lt_of_lt_of_le hbl ho.size, fun j hj i v hv => (ho.cell (p := ⟨b, off + j * 2 + i, none⟩) hbl hb).trans (hc j hj i v hv)⟩⟩
theorem own_span {w w' : World} {A : Option Addr} {c : Nat} {l : List PairD} (h : w'.ownsRow w.heap.size 59 2 (.slice A l.length c) l.length (prRow l)) : ∀ a, A = some a → w.heap.size ≤ a.block ∧ a.block < w'.heap.size := by
  rintro a rfl
  exact own_lt (k := a.block) h rfl
def acP (a : ActD) : PairD := ⟨a.key, a.val⟩
theorem acM_take {xs : List ActD} {j : Nat} (hj : j < xs.length) (m : List ByteArray × List Int) : nMap ((xs.take (j + 1)).map acP) m = (pKs (nMap ((xs.take j).map acP) m).1 xs[j].key, pVs (nMap ((xs.take j).map acP) m).1 (nMap ((xs.take j).map acP) m).2 xs[j].key xs[j].val) := by
  rw [List.take_add_one, List.getElem?_eq_getElem hj, Option.toList, List.map_append]
  exact nMap_snoc _ _ _
theorem dKs_len (ks : List ByteArray) (k : ByteArray) : (dKs ks k).length ≤ ks.length := by
  unfold dKs
  split
  · exact List.length_eraseIdx_le ..
  · exact Nat.le_refl _
theorem plain_get (k : ByteArray) (v : Int) : mGet (pKs [] k) (pVs [] [] k v) k = (v, true) := by
  obtain ⟨h1, h2⟩ := good_nil.put k v
  have h3 := h2 [] (List.Perm.refl _)
  rw [h1.get, ← Pl.getM_perm h1.rows.uniq h3]
  unfold Pl.getM
  rw [gotM_put, if_pos rfl]

set_option maxRecDepth 100000 in
set_option maxHeartbeats 16000000 in
theorem pairsapart_any (A : Option Addr) (c : Nat) (xs : List ActD) (a : ActD) (w : World) (h : Acl w A xs) (hx : ∀ x ∈ xs, ActOk x) (ha : ActOk a) (hl : xs.length ≤ 9223372036854775807) :
    Calls Try.prog 11 #[.slice A xs.length c, .agg (acCells a)] w (Ret (.bool true) w) := by
  have HH := Lib.hid h
  have HXO := Lib.hid hx
  have HAO := Lib.hid ha
  have HLi := Lib.hid (fun W hW => light06_any A c xs W hW hx hl)
  have HX := Lib.hid (show Bx w (w.alloc (.cells (acCells a) 70)) w.heap.size (.cells (acCells a) 70) from ⟨below_alloc _ _, heap_new w _ _, Nat.le_refl _⟩)
  have hk1 : a.key.size ≤ 9223372036854775807 := ha.key
  simp only [acCells] at HX ⊢
  clear h hx ha hl
  cases hli : lightAc xs
  · rw [hli] at HLi
    clear hli
    go_enter Try.func11, Try.ntmps11
    go_upto_region 1 with fail
    generalize w.alloc _ = W at HX ⊢
    obtain ⟨a0, a1, a2, a3, a4⟩ := ac_facts HX.out.has
    go_wp2_with fail
    refine (HLi.out _ (HH.out.up HX.out.below)).mono ?_
    rintro e wn ⟨rfl, hbn⟩
    clear a0 a1 a2 a3 a4
    replace HX := Lib.hid (HX.out.up hbn)
    clear hbn
    go_wp2_with fail
    refine (lives06_any _).mono ?_
    rintro e wn2 ⟨rfl, hbn⟩
    go_wp2_with fail
    go_ret
    exact ⟨rfl, below_of HX.out.below hbn⟩
  · rw [hli] at HLi
    have HSP := Lib.hid (lightAc_spec hli)
    clear hli
    by_cases h100 : 100 < a.key.size
    · have h100b : decide ((100 : Int) < (a.key.size : Int)) = true := decide_eq_true (by omega)
      clear h100
      go_enter Try.func11, Try.ntmps11
      go_upto_region 1 with fail
      generalize w.alloc _ = W at HX ⊢
      obtain ⟨a0, a1, a2, a3, a4⟩ := ac_facts HX.out.has
      go_wp2_with fail
      refine (HLi.out _ (HH.out.up HX.out.below)).mono ?_
      rintro e wn ⟨rfl, hbn⟩
      clear a0 a1 a2 a3 a4
      replace HX := Lib.hid (HX.out.up hbn)
      clear hbn
      obtain ⟨a0, a1, a2, a3, a4⟩ := ac_facts HX.out.has
      go_wp2_with fail
      refine (lives06_any _).mono ?_
      rintro e wn2 ⟨rfl, hbn⟩
      go_wp2_with fail
      go_ret
      exact ⟨rfl, below_of HX.out.below hbn⟩
    · have h100b : decide ((100 : Int) < (a.key.size : Int)) = false := decide_eq_false (by omega)
      clear h100
      go_enter Try.func11, Try.ntmps11
      go_upto_region 1 with fail
      generalize w.alloc _ = W at HX ⊢
      obtain ⟨a0, a1, a2, a3, a4⟩ := ac_facts HX.out.has
      go_wp2_with fail
      refine (HLi.out _ (HH.out.up HX.out.below)).mono ?_
      rintro e wn ⟨rfl, hbn⟩
      clear a0 a1 a2 a3 a4
      replace HX := Lib.hid (HX.out.up hbn)
      clear hbn HLi
      obtain ⟨a0, a1, a2, a3, a4⟩ := ac_facts HX.out.has
      go_wp2_with fail
      refine (pmnew_any none 0 [] _ ⟨rfl, fun q => absurd q (Nat.lt_irrefl 0)⟩ (fun p hp => by simp at hp) (by simp)).mono ?_
      rintro e w1 ⟨gm, rfl, hgm, hM, hb⟩
      clear a0 a1 a2 a3 a4
      have HTl := Lib.hid (show w.heap.size < wn.heap.size from HX.out.lt)
      have HGM := Lib.hid hgm
      have HM := Lib.hid (show MapAt (fun q => q < wn.heap.size) w1 gm [] [] from hM)
      have HSZ := Lib.hid hb.size
      replace HX := Lib.hid (HX.out.up hb)
      clear hgm hM hb h100b
      generalize wn.heap.size = tm at HTl HGM HM HSZ
      have hl60 : xs.length ≤ 60 := HSP.out.1
      go_wp2_with fail
      go_loopw [7, 36] (fun _ i wr => ∃ (j : Nat), i = .int .i64 j ∧ Hid (j ≤ xs.length ∧ MapAt (fun q => q < tm) wr gm (nMap ((xs.take j).map acP) ([], [])).1 (nMap ((xs.take j).map acP) ([], [])).2 ∧ tm ≤ wr.heap.size ∧ Bx w wr w.heap.size (.cells #[.int .i64 a.kind, .string a.key, .int .u64 a.val, .string a.high, .int .i64 a.limit] 70))) (fun _ i _ => xs.length - (intOf i).toNat)
      case atStart => exact ⟨0, rfl, Nat.zero_le _, HM.out, HSZ.out, HX.out⟩
      case round =>
        obtain ⟨j, rfl, H⟩ := hrel
        clear HM HX HSZ
        by_cases hlt : j < xs.length
        · obtain ⟨b, off, hA, hbw, x0, x1, x2, x3, x4⟩ := (HH.out.up H.out.2.2.2.below).at_ hlt
          subst hA
          have HT := Lib.hid (acM_take hlt ([], []))
          have HLE := Lib.hid (nMap_len ((xs.take j).map acP) ([], []))
          have HKF := Lib.hid (HXO.out _ (List.getElem_mem hlt)).key
          have HM := Lib.hid H.out.2
          clear H hbw
          generalize xs[j] = p at x0 x1 x2 x3 x4 HT HKF
          have HLE2 := Lib.hid (show (nMap ((xs.take j).map acP) ([], [])).1.length ≤ 60 by have := HLE.out; have := HSP.out.1; rw [List.length_map, List.length_take] at *; simp only [List.length_nil] at *; omega)
          generalize nMap ((xs.take j).map acP) ([], []) = m at HT HM HLE2
          clear HLE
          have hba := below_alloc wr (.cells (acCells p) 70)
          have hn := heap_new wr (acCells p) 70
          have HM2 := Lib.hid (And.intro (HM.out.1.up hba) (And.intro (Nat.le_trans HM.out.2.1 hba.size) (HM.out.2.2.up hba)))
          simp only [acCells] at hn HM2
          clear hba HM
          go_upto_region 7 with fail
          clear x0 x1 x2 x3 x4
          generalize wr.alloc _ = W2 at hn HM2 ⊢
          generalize wr.heap.size = g2 at hn ⊢
          obtain ⟨x0, x1, x2, x3, x4⟩ := ac_facts hn
          go_wp2_with fail
          refine (pmput_any _ gm m.1 m.2 p.key p.val _ HM2.out.1 HKF.out (by have := HLE2.out; omega) (fun t ht => Nat.lt_of_lt_of_le ht HM2.out.2.1)).mono ?_
          rintro e w3 ⟨rfl, hM3, hO3⟩
          have HN := Lib.hid (And.intro hM3 (And.intro (Nat.le_trans HM2.out.2.1 hO3.size) (HM2.out.2.2.off hO3 (by have := HGM.out; have := HTl.out; omega) (by have := HGM.out; have := HTl.out; omega))))
          clear hM3 hO3 x0 x1 x2 x3 x4 hn
          go_wp2_with fail
          go_roundw
          case rel => exact ⟨j + 1, by go_num, by omega, by rw [HT.out]; exact HN.out.1, HN.out.2⟩
          case measure => simp [intOf]; omega
        · obtain rfl : j = xs.length := by have := H.out.1; omega
          have HLE := Lib.hid (nMap_len ((xs.take xs.length).map acP) ([], []))
          have HLE2 := Lib.hid (show (nMap ((xs.take xs.length).map acP) ([], [])).1.length ≤ 60 by have := HLE.out; have := HSP.out.1; rw [List.length_map, List.length_take] at *; simp only [List.length_nil] at *; omega)
          have HM := Lib.hid H.out.2.1
          have HSZ := Lib.hid H.out.2.2.1
          have HX := Lib.hid H.out.2.2.2
          clear H HLE HSP HXO HH
          generalize (nMap ((xs.take xs.length).map acP) ([], [])).1 = km at HM HLE2
          generalize (nMap ((xs.take xs.length).map acP) ([], [])).2 = vm at HM
          have HNE := Lib.hid (show gm ≠ w.heap.size ∧ w.heap.size ≤ gm by have := HGM.out; have := HTl.out; omega)
          go_wp2_with fail
          refine (pmall_any _ gm km vm _ HM.out (by have := HLE2.out; omega)).mono ?_
          rintro e w2 ⟨Aw, cw, rfl, hown, hb⟩
          have HW := Lib.hid (And.intro (prs_of_own hown rfl) (own_span hown))
          have HGW := Lib.hid HM.out.lt
          replace HM := Lib.hid (HM.out.up hb)
          replace HX := Lib.hid (HX.out.up hb)
          have HSZ2 := Lib.hid (Nat.le_trans HSZ.out hb.size)
          have HAW := Lib.hid (show ∀ a, Aw = some a → a.block ≠ gm from fun a e => by have := HW.out.2 a e; have := HGW.out; omega)
          clear hown hb HSZ
          generalize hr0 : Pl.zipP km vm = r0 at HW ⊢
          have HR0 := Lib.hid hr0
          clear hr0
          go_wp2_with fail
          refine (pmclone_any _ gm km vm _ HM.out (by have := HLE2.out; omega)).mono ?_
          rintro e w3 ⟨gc, rfl, hgc, hC, hb⟩
          have HGC := Lib.hid (And.intro hgc (show gm < w2.heap.size from HM.out.lt))
          have HM1 := Lib.hid ((HM.out.more (T' := fun q => q < tm ∨ q = gc) (fun k hk hq => by rcases hq with q | q; exact q; omega)).up hb)
          have HC := Lib.hid (show MapAt (fun q => q < w2.heap.size) w3 gc km vm from hC)
          have HTC := Lib.hid (show ∀ t, t < w2.heap.size → t < w3.heap.size from fun t ht => Nat.lt_of_lt_of_le ht hb.size)
          have HTM := Lib.hid (show ∀ t, (t < tm ∨ t = gc) → t < w3.heap.size from fun t ht => by rcases ht with q | q; have := HSZ2.out; have := hb.size; omega; rw [q]; exact hC.lt)
          have HCW := Lib.hid (show ∀ a, Aw = some a → a.block ≠ gc from fun a e => by have := HW.out.2 a e; omega)
          have HGX := Lib.hid (show gc ≠ w.heap.size ∧ w.heap.size ≤ gc by have := HX.out.lt; omega)
          replace HW := Lib.hid (HW.out.1.up hb)
          replace HX := Lib.hid (HX.out.up hb)
          clear hb hgc hC HM HSZ2
          generalize w2.heap.size = tc at HC HTC HGC
          obtain ⟨a0, a1, a2, a3, a4⟩ := ac_facts HX.out.has
          go_wp2_with fail
          refine (pmput_any _ gm km vm a.key a.val _ HM1.out HAO.out.key (by have := HLE2.out; omega) HTM.out).mono ?_
          rintro e w4 ⟨rfl, hM4, hO4⟩
          clear a0 a1 a2 a3 a4
          have HKL := Lib.hid (show (pKs km a.key).length ≤ 61 by have := pKs_len km a.key; have := HLE2.out; omega)
          replace HC := Lib.hid (HC.out.off hO4 (fun k e => by rw [e]; exact HGC.out.2))
          replace HTC := Lib.hid (fun t ht => Nat.lt_of_lt_of_le (HTC.out t ht) hO4.size)
          replace HTM := Lib.hid (fun t ht => Nat.lt_of_lt_of_le (HTM.out t ht) hO4.size)
          replace HW := Lib.hid (prs_offA HW.out hO4 HAW.out)
          replace HX := Lib.hid (HX.out.off hO4 HNE.out.2 HNE.out.1)
          have HM := Lib.hid hM4
          clear hM4 hO4 HM1
          generalize pKs km a.key = km2 at HM HKL
          generalize pVs km vm a.key a.val = vm2 at HM
          obtain ⟨a0, a1, a2, a3, a4⟩ := ac_facts HX.out.has
          go_wp2_with fail
          refine (pmdel_any _ gm km2 vm2 a.high _ HM.out HAO.out.high (by have := HKL.out; omega) HTM.out).mono ?_
          rintro e w5 ⟨rfl, hM5, hO5⟩
          clear a0 a1 a2 a3 a4
          have HKL2 := Lib.hid (show (dKs km2 a.high).length ≤ 61 by have := dKs_len km2 a.high; have := HKL.out; omega)
          replace HC := Lib.hid (HC.out.off hO5 (fun k e => by rw [e]; exact HGC.out.2))
          replace HTC := Lib.hid (fun t ht => Nat.lt_of_lt_of_le (HTC.out t ht) hO5.size)
          replace HTM := Lib.hid (fun t ht => Nat.lt_of_lt_of_le (HTM.out t ht) hO5.size)
          replace HW := Lib.hid (prs_offA HW.out hO5 HAW.out)
          replace HX := Lib.hid (HX.out.off hO5 HNE.out.2 HNE.out.1)
          replace HM := Lib.hid hM5
          clear hM5 hO5 HKL
          generalize dKs km2 a.high = km3 at HM HKL2
          generalize dVs km2 vm2 a.high = vm3 at HM
          go_wp2_with fail
          refine (prs_as (pmall_any _ gc km vm _ HC.out (by have := HLE2.out; omega)) HR0.out).mono ?_
          rintro e w6 ⟨Ac, cc, rfl, hown, hb⟩
          have HW2 := Lib.hid (prs_of_own hown rfl)
          replace HC := Lib.hid (HC.out.up hb)
          replace HM := Lib.hid (HM.out.up hb)
          replace HW := Lib.hid (HW.out.up hb)
          replace HX := Lib.hid (HX.out.up hb)
          replace HTC := Lib.hid (fun t ht => Nat.lt_of_lt_of_le (HTC.out t ht) hb.size)
          have HL0 := Lib.hid (show r0.length ≤ 1000 by have := HR0.out; have := HLE2.out; have := Pl.zipP_len HC.out.1; rw [← HR0.out]; omega)
          clear hown hb HTM
          go_wp2_with fail
          refine (ret_as (same06_any Ac Aw r0.length cc r0.length cw r0 r0 _ HW2.out HW.out (by have := HL0.out; omega)) (congrArg Value.bool (decide_eq_true rfl))).mono ?_
          rintro e w7 ⟨rfl, hb⟩
          replace HC := Lib.hid (HC.out.up hb)
          replace HM := Lib.hid (HM.out.up hb)
          replace HX := Lib.hid (HX.out.up hb)
          replace HTC := Lib.hid (fun t ht => Nat.lt_of_lt_of_le (HTC.out t ht) hb.size)
          clear hb HW HW2 HAW HCW HL0 HR0
          go_wp2_with fail
          refine (pmall_any _ gm km3 vm3 _ HM.out (by have := HKL2.out; omega)).mono ?_
          rintro e w8 ⟨An, cn, rfl, hown, hb⟩
          have HW := Lib.hid (prs_of_own hown rfl)
          have HCW := Lib.hid (show ∀ a, An = some a → a.block ≠ gc from fun a e => by have := own_span hown a e; have := HC.out.lt; omega)
          replace HC := Lib.hid (HC.out.up hb)
          replace HM := Lib.hid (HM.out.up hb)
          replace HX := Lib.hid (HX.out.up hb)
          replace HTC := Lib.hid (fun t ht => Nat.lt_of_lt_of_le (HTC.out t ht) hb.size)
          have HL1 := Lib.hid (show (Pl.zipP km3 vm3).length ≤ 1000 by have := HKL2.out; have := Pl.zipP_len HM.out.1; omega)
          clear hown hb
          generalize hr1 : Pl.zipP km3 vm3 = r1 at HW HL1 ⊢
          have HR1 := Lib.hid hr1
          clear hr1
          obtain ⟨a0, a1, a2, a3, a4⟩ := ac_facts HX.out.has
          go_wp2_with fail
          refine (pmdel_any _ gc km vm a.key _ HC.out HAO.out.key (by have := HLE2.out; omega) HTC.out).mono ?_
          rintro e w9 ⟨rfl, hM9, hO9⟩
          clear a0 a1 a2 a3 a4
          replace HM := Lib.hid (HM.out.off hO9 (fun k e => .inr e))
          replace HW := Lib.hid (prs_offA HW.out hO9 HCW.out)
          replace HX := Lib.hid (HX.out.off hO9 HGX.out.2 HGX.out.1)
          clear hM9 hO9 HC HCW HTC
          go_wp2_with fail
          refine (prs_as (pmall_any _ gm km3 vm3 _ HM.out (by have := HKL2.out; omega)) HR1.out).mono ?_
          rintro e w10 ⟨Ae, ce, rfl, hown, hb⟩
          have HW2 := Lib.hid (prs_of_own hown rfl)
          replace HW := Lib.hid (HW.out.up hb)
          replace HX := Lib.hid (HX.out.up hb)
          clear hown hb HM HR1
          go_wp2_with fail
          refine (ret_as (same06_any Ae An r1.length ce r1.length cn r1 r1 _ HW2.out HW.out (by have := HL1.out; omega)) (congrArg Value.bool (decide_eq_true rfl))).mono ?_
          rintro e w11 ⟨rfl, hb⟩
          replace HX := Lib.hid (HX.out.up hb)
          clear hb HW HW2 HL1 HKL2 HLE2 HGM HTl HNE HGX HGC
          obtain ⟨a0, a1, a2, a3, a4⟩ := ac_facts HX.out.has
          go_wp2_with fail
          refine (pmput_nil a.key 1 _).mono ?_
          rintro e wn9 ⟨rfl, hbn⟩
          clear a0 a1 a2 a3 a4
          replace HX := Lib.hid (HX.out.up hbn)
          clear hbn
          obtain ⟨a0, a1, a2, a3, a4⟩ := ac_facts HX.out.has
          go_wp2_with fail
          refine (pmget_nil a.key _).mono ?_
          rintro e wn9 ⟨rfl, hbn⟩
          clear a0 a1 a2 a3 a4
          replace HX := Lib.hid (HX.out.up hbn)
          clear hbn
          obtain ⟨a0, a1, a2, a3, a4⟩ := ac_facts HX.out.has
          go_wp2_with fail
          refine (pmdel_nil a.key _).mono ?_
          rintro e wn9 ⟨rfl, hbn⟩
          clear a0 a1 a2 a3 a4
          replace HX := Lib.hid (HX.out.up hbn)
          clear hbn
          obtain ⟨a0, a1, a2, a3, a4⟩ := ac_facts HX.out.has
          go_wp2_with fail
          refine (ret_as (pmnext_nil a.key _) (show zpairV = .tuple #[.agg #[.string ⟨#[]⟩, .int .u64 0], .bool false] from rfl)).mono ?_
          rintro e w12 ⟨rfl, hbn⟩
          clear a0 a1 a2 a3 a4
          replace HX := Lib.hid ((HX.out.up hbn).up (below_alloc w12 (.cells #[.string ⟨#[]⟩, .int .u64 0] 59)))
          clear hbn
          go_upto_region 24 with fail
          generalize w12.alloc _ = w13 at HX ⊢
          generalize w12.heap.size = g16
          obtain ⟨a0, a1, a2, a3, a4⟩ := ac_facts HX.out.has
          go_wp2_with fail
          refine (ret_as (pmmax_nil _) (show zpairV = .tuple #[.agg #[.string ⟨#[]⟩, .int .u64 0], .bool false] from rfl)).mono ?_
          rintro e w14 ⟨rfl, hbn⟩
          clear a0 a1 a2 a3 a4
          replace HX := Lib.hid ((HX.out.up hbn).up (below_alloc w14 (.cells #[.string ⟨#[]⟩, .int .u64 0] 59)))
          clear hbn
          go_upto_region 25 with fail
          generalize w14.alloc _ = w15 at HX ⊢
          generalize w14.heap.size = g18
          have HP := Lib.hid (MapAt.new (fun q => q < w15.heap.size) w15 (Nat.lt_irrefl _))
          have HGP := Lib.hid (show w15.heap.size ≠ w.heap.size ∧ w.heap.size ≤ w15.heap.size by have := HX.out.lt; omega)
          have HTP := Lib.hid (show ∀ t, t < w15.heap.size → t < (w15.alloc (.cells #[.slice none 0 0, .slice none 0 0] 78)).heap.size from fun t ht => Nat.lt_of_lt_of_le ht (below_alloc w15 _).size)
          replace HX := Lib.hid (HX.out.up (below_alloc w15 (.cells #[.slice none 0 0, .slice none 0 0] 78)))
          go_upto_region 26 with fail
          generalize w15.alloc _ = w16 at HX HP HTP ⊢
          generalize w15.heap.size = gp at HP HGP HTP ⊢
          obtain ⟨a0, a1, a2, a3, a4⟩ := ac_facts HX.out.has
          go_wp2_with fail
          refine (pmput_any _ gp [] [] a.key a.val _ HP.out HAO.out.key (by simp) HTP.out).mono ?_
          rintro e w17 ⟨rfl, hM17, hO17⟩
          clear a0 a1 a2 a3 a4
          replace HX := Lib.hid (HX.out.off hO17 HGP.out.2 HGP.out.1)
          obtain ⟨hv17, Ap, cap, Bp, cbp, hMp⟩ := hM17
          have HPG := Lib.hid (pmget_any _ gp (pKs [] a.key) (pVs [] [] a.key a.val) a.key Ap Bp cap cbp _ hMp hv17 HAO.out.key (by have := pKs_len [] a.key; simp only [List.length_nil] at this; omega))
          rw [plain_get] at HPG
          clear hv17 hMp hO17 HP HTP HGP
          obtain ⟨a0, a1, a2, a3, a4⟩ := ac_facts HX.out.has
          go_wp2_with fail
          refine HPG.out.mono ?_
          rintro e w18 ⟨rfl, hbn⟩
          clear a0 a1 a2 a3 a4
          replace HX := Lib.hid (HX.out.up hbn)
          clear hbn HPG
          go_upto_region 28 with fail
          generalize w18 = W at HX ⊢
          have HSc := Lib.hid (fun W => pmscan_nil ⟨#[]⟩ a.key 9 W)
          refine wp_region_held_drew (S := fun w' => Below W.heap.size W w') (by kernel_rfl) (Below.drew (Below.refl _ _)) (fun hcur => ?_)
          replace hcur : Below W.heap.size W W.drew := hcur
          generalize W.drew = X0 at hcur ⊢
          refine wpAnyH_take (i := 0) (v := ?_) rfl (by decide +kernel) (by decide +kernel) (by decide +kernel) (fun _ _ _ h => h) (Or.inl ⟨by rfl, ?hy⟩) hcur ?_
          case hy =>
            intro w1 hSw
            replace hSw : Below W.heap.size W w1 := hSw
            obtain ⟨a0, a1, a2, a3, a4⟩ := ac_facts (HX.out.up hSw).has
            go_simp
            (try with_reducible rfl)
          (try simp only [Act.put, List.getElem_toArray, List.getElem_cons_zero, List.getElem_cons_succ, List.setIfInBounds_toArray, List.set_cons_zero, List.set_cons_succ])
          refine wpAnyH_take (i := 1) (v := ?_) rfl (by decide +kernel) (by decide +kernel) (by decide +kernel) (fun _ _ _ h => h) (Or.inl ⟨by rfl, ?hy⟩) hcur ?_
          case hy =>
            intro w1 hSw
            replace hSw : Below W.heap.size W w1 := hSw
            obtain ⟨a0, a1, a2, a3, a4⟩ := ac_facts (HX.out.up hSw).has
            go_simp
            (try with_reducible rfl)
          (try simp only [Act.put, List.getElem_toArray, List.getElem_cons_zero, List.getElem_cons_succ, List.setIfInBounds_toArray, List.set_cons_zero, List.set_cons_succ])
          refine wpAnyH_take (i := 2) (v := ?_) rfl (by decide +kernel) (by decide +kernel) (by decide +kernel) (fun _ _ _ h => h) (Or.inl ⟨by rfl, ?hy⟩) hcur ?_
          case hy =>
            intro w1 hSw
            replace hSw : Below W.heap.size W w1 := hSw
            obtain ⟨a0, a1, a2, a3, a4⟩ := ac_facts (HX.out.up hSw).has
            go_simp
            (try with_reducible rfl)
          (try simp only [Act.put, List.getElem_toArray, List.getElem_cons_zero, List.getElem_cons_succ, List.setIfInBounds_toArray, List.set_cons_zero, List.set_cons_succ])
          refine wpAnyH_take (i := 3) (v := ?_) rfl (by decide +kernel) (by decide +kernel) (by decide +kernel) (fun _ _ _ h => h) (Or.inl ⟨by rfl, ?hy⟩) hcur ?_
          case hy =>
            intro w1 hSw
            replace hSw : Below W.heap.size W w1 := hSw
            obtain ⟨a0, a1, a2, a3, a4⟩ := ac_facts (HX.out.up hSw).has
            go_simp
            (try with_reducible rfl)
          (try simp only [Act.put, List.getElem_toArray, List.getElem_cons_zero, List.getElem_cons_succ, List.setIfInBounds_toArray, List.set_cons_zero, List.set_cons_succ])
          refine wpAnyH_take (i := 4) (v := ?_) rfl (by decide +kernel) (by decide +kernel) (by decide +kernel) (fun _ _ _ h => h) (Or.inl ⟨by rfl, ?hy⟩) hcur ?_
          case hy =>
            intro w1 hSw
            replace hSw : Below W.heap.size W w1 := hSw
            obtain ⟨a0, a1, a2, a3, a4⟩ := ac_facts (HX.out.up hSw).has
            go_simp
            (try with_reducible rfl)
          (try simp only [Act.put, List.getElem_toArray, List.getElem_cons_zero, List.getElem_cons_succ, List.setIfInBounds_toArray, List.set_cons_zero, List.set_cons_succ])
          refine wpAnyH_take (i := 5) (v := ?_) rfl (by decide +kernel) (by decide +kernel) (by decide +kernel) (fun _ _ _ h => h) (Or.inl ⟨by rfl, ?hy⟩) hcur ?_
          case hy =>
            intro w1 hSw
            replace hSw : Below W.heap.size W w1 := hSw
            obtain ⟨a0, a1, a2, a3, a4⟩ := ac_facts (HX.out.up hSw).has
            go_simp
            (try with_reducible rfl)
          (try simp only [Act.put, List.getElem_toArray, List.getElem_cons_zero, List.getElem_cons_succ, List.setIfInBounds_toArray, List.set_cons_zero, List.set_cons_succ])
          refine wpAnyH_take (i := 6) (v := ?_) rfl (by decide +kernel) (by decide +kernel) (by decide +kernel) (fun _ _ _ h => h) (Or.inl ⟨by rfl, ?hy⟩) hcur ?_
          case hy =>
            intro w1 hSw
            replace hSw : Below W.heap.size W w1 := hSw
            obtain ⟨a0, a1, a2, a3, a4⟩ := ac_facts (HX.out.up hSw).has
            go_simp
            (try with_reducible rfl)
          (try simp only [Act.put, List.getElem_toArray, List.getElem_cons_zero, List.getElem_cons_succ, List.setIfInBounds_toArray, List.set_cons_zero, List.set_cons_succ])
          refine wpAnyH_take (i := 7) (v := ?_) rfl (by decide +kernel) (by decide +kernel) (by decide +kernel) (fun _ _ _ h => h) (Or.inl ⟨by rfl, ?hy⟩) hcur ?_
          case hy =>
            intro w1 hSw
            replace hSw : Below W.heap.size W w1 := hSw
            obtain ⟨a0, a1, a2, a3, a4⟩ := ac_facts (HX.out.up hSw).has
            go_simp
            (try with_reducible rfl)
          (try simp only [Act.put, List.getElem_toArray, List.getElem_cons_zero, List.getElem_cons_succ, List.setIfInBounds_toArray, List.set_cons_zero, List.set_cons_succ])
          refine wpAnyH_take (i := 8) (v := ?_) rfl (by decide +kernel) (by decide +kernel) (by decide +kernel) (fun _ _ _ h => h) (Or.inl ⟨by rfl, ?hy⟩) hcur ?_
          case hy =>
            intro w1 hSw
            replace hSw : Below W.heap.size W w1 := hSw
            obtain ⟨a0, a1, a2, a3, a4⟩ := ac_facts (HX.out.up hSw).has
            go_simp
            (try with_reducible rfl)
          (try simp only [Act.put, List.getElem_toArray, List.getElem_cons_zero, List.getElem_cons_succ, List.setIfInBounds_toArray, List.set_cons_zero, List.set_cons_succ])
          refine wpAnyH_take (i := 9) (v := ?_) rfl (by decide +kernel) (by decide +kernel) (by decide +kernel) (fun _ _ _ h => h) (Or.inl ⟨by rfl, ?hy⟩) hcur ?_
          case hy =>
            intro w1 hSw
            replace hSw : Below W.heap.size W w1 := hSw
            obtain ⟨a0, a1, a2, a3, a4⟩ := ac_facts (HX.out.up hSw).has
            go_simp
            (try with_reducible rfl)
          (try simp only [Act.put, List.getElem_toArray, List.getElem_cons_zero, List.getElem_cons_succ, List.setIfInBounds_toArray, List.set_cons_zero, List.set_cons_succ])
          refine wpAnyH_take (i := 10) (v := ?_) rfl (by decide +kernel) (by decide +kernel) (by decide +kernel) (fun _ _ _ h => h) (Or.inl ⟨by rfl, ?hy⟩) hcur ?_
          case hy =>
            intro w1 hSw
            replace hSw : Below W.heap.size W w1 := hSw
            obtain ⟨a0, a1, a2, a3, a4⟩ := ac_facts (HX.out.up hSw).has
            go_simp
            (try with_reducible rfl)
          (try simp only [Act.put, List.getElem_toArray, List.getElem_cons_zero, List.getElem_cons_succ, List.setIfInBounds_toArray, List.set_cons_zero, List.set_cons_succ])
          refine wpAnyH_take (i := 11) (v := ?_) rfl (by decide +kernel) (by decide +kernel) (by decide +kernel) (fun _ _ _ h => h) (Or.inl ⟨by rfl, ?hy⟩) hcur ?_
          case hy =>
            intro w1 hSw
            replace hSw : Below W.heap.size W w1 := hSw
            obtain ⟨a0, a1, a2, a3, a4⟩ := ac_facts (HX.out.up hSw).has
            go_simp
            (try with_reducible rfl)
          (try simp only [Act.put, List.getElem_toArray, List.getElem_cons_zero, List.getElem_cons_succ, List.setIfInBounds_toArray, List.set_cons_zero, List.set_cons_succ])
          refine wpAnyH_take (i := 12) (v := ?_) rfl (by decide +kernel) (by decide +kernel) (by decide +kernel) (fun _ _ _ h => h) (Or.inl ⟨by rfl, ?hy⟩) hcur ?_
          case hy =>
            intro w1 hSw
            replace hSw : Below W.heap.size W w1 := hSw
            obtain ⟨a0, a1, a2, a3, a4⟩ := ac_facts (HX.out.up hSw).has
            go_simp
            (try with_reducible rfl)
          (try simp only [Act.put, List.getElem_toArray, List.getElem_cons_zero, List.getElem_cons_succ, List.setIfInBounds_toArray, List.set_cons_zero, List.set_cons_succ])
          refine wpAnyH_take (i := 13) (v := ?_) rfl (by decide +kernel) (by decide +kernel) (by decide +kernel) (fun _ _ _ h => h) (Or.inl ⟨by rfl, ?hy⟩) hcur ?_
          case hy =>
            intro w1 hSw
            replace hSw : Below W.heap.size W w1 := hSw
            obtain ⟨a0, a1, a2, a3, a4⟩ := ac_facts (HX.out.up hSw).has
            go_simp
            (try with_reducible rfl)
          (try simp only [Act.put, List.getElem_toArray, List.getElem_cons_zero, List.getElem_cons_succ, List.setIfInBounds_toArray, List.set_cons_zero, List.set_cons_succ])
          refine wpAnyH_take (i := 14) (v := ?_) rfl (by decide +kernel) (by decide +kernel) (by decide +kernel) (fun _ _ _ h => h) (Or.inl ⟨by rfl, ?hy⟩) hcur ?_
          case hy =>
            intro w1 hSw
            replace hSw : Below W.heap.size W w1 := hSw
            obtain ⟨a0, a1, a2, a3, a4⟩ := ac_facts (HX.out.up hSw).has
            go_simp
            (try with_reducible rfl)
          (try simp only [Act.put, List.getElem_toArray, List.getElem_cons_zero, List.getElem_cons_succ, List.setIfInBounds_toArray, List.set_cons_zero, List.set_cons_succ])
          refine wpAnyH_take (i := 15) (v := ?_) rfl (by decide +kernel) (by decide +kernel) (by decide +kernel) (fun _ _ _ h => h) (Or.inl ⟨by rfl, ?hy⟩) hcur ?_
          case hy =>
            intro w1 hSw
            replace hSw : Below W.heap.size W w1 := hSw
            obtain ⟨a0, a1, a2, a3, a4⟩ := ac_facts (HX.out.up hSw).has
            go_simp
            (try with_reducible rfl)
          (try simp only [Act.put, List.getElem_toArray, List.getElem_cons_zero, List.getElem_cons_succ, List.setIfInBounds_toArray, List.set_cons_zero, List.set_cons_succ])
          refine wpAnyH_ready (rs := [16]) (by decide +kernel) (by simp) ?_
          refine AllReadyH.cons rfl (fun K hK => ?_) AllReadyH.nil
          go_simp
          refine (pmlen_nil _).mono ?_
          rintro e wn ⟨rfl, hbn⟩
          go_wp2_with fail
          refine hK.out _ _ (below_of hcur hbn) (fun _ => ?_)
          clear hK K
          replace hcur := below_of hcur hbn
          clear hbn
          (try simp only [Act.put, List.getElem_toArray, List.getElem_cons_zero, List.getElem_cons_succ, List.setIfInBounds_toArray, List.set_cons_zero, List.set_cons_succ])
          refine wpAnyH_take (i := 17) (v := .bool true) rfl (by decide +kernel) (by decide +kernel) (by decide +kernel) (fun _ _ _ h => h) (Or.inl ⟨by rfl, ?hy⟩) hcur ?_
          case hy =>
            intro w1 hSw
            replace hSw : Below W.heap.size W w1 := hSw
            obtain ⟨a0, a1, a2, a3, a4⟩ := ac_facts (HX.out.up hSw).has
            go_simp
            all_goals (first | rfl | simp)
          (try simp only [Act.put, List.getElem_toArray, List.getElem_cons_zero, List.getElem_cons_succ, List.setIfInBounds_toArray, List.set_cons_zero, List.set_cons_succ])
          refine wpAnyH_take (i := 18) (v := ?_) rfl (by decide +kernel) (by decide +kernel) (by decide +kernel) (fun _ _ _ h => h) (Or.inl ⟨by rfl, ?hy⟩) hcur ?_
          case hy =>
            intro w1 hSw
            replace hSw : Below W.heap.size W w1 := hSw
            obtain ⟨a0, a1, a2, a3, a4⟩ := ac_facts (HX.out.up hSw).has
            go_simp
            (try with_reducible rfl)
          (try simp only [Act.put, List.getElem_toArray, List.getElem_cons_zero, List.getElem_cons_succ, List.setIfInBounds_toArray, List.set_cons_zero, List.set_cons_succ])
          refine wpAnyH_take (i := 19) (v := ?_) rfl (by decide +kernel) (by decide +kernel) (by decide +kernel) (fun _ _ _ h => h) (Or.inl ⟨by rfl, ?hy⟩) hcur ?_
          case hy =>
            intro w1 hSw
            replace hSw : Below W.heap.size W w1 := hSw
            obtain ⟨a0, a1, a2, a3, a4⟩ := ac_facts (HX.out.up hSw).has
            go_simp
            (try with_reducible rfl)
          (try simp only [Act.put, List.getElem_toArray, List.getElem_cons_zero, List.getElem_cons_succ, List.setIfInBounds_toArray, List.set_cons_zero, List.set_cons_succ])
          refine wpAnyH_take (i := 20) (v := ?_) rfl (by decide +kernel) (by decide +kernel) (by decide +kernel) (fun _ _ _ h => h) (Or.inl ⟨by rfl, ?hy⟩) hcur ?_
          case hy =>
            intro w1 hSw
            replace hSw : Below W.heap.size W w1 := hSw
            obtain ⟨a0, a1, a2, a3, a4⟩ := ac_facts (HX.out.up hSw).has
            go_simp
            (try with_reducible rfl)
          (try simp only [Act.put, List.getElem_toArray, List.getElem_cons_zero, List.getElem_cons_succ, List.setIfInBounds_toArray, List.set_cons_zero, List.set_cons_succ])
          refine wpAnyH_take (i := 23) (v := ?_) rfl (by decide +kernel) (by decide +kernel) (by decide +kernel) (fun _ _ _ h => h) (Or.inl ⟨by rfl, ?hy⟩) hcur ?_
          case hy =>
            intro w1 hSw
            replace hSw : Below W.heap.size W w1 := hSw
            obtain ⟨a0, a1, a2, a3, a4⟩ := ac_facts (HX.out.up hSw).has
            go_simp
            (try with_reducible rfl)
          (try simp only [Act.put, List.getElem_toArray, List.getElem_cons_zero, List.getElem_cons_succ, List.setIfInBounds_toArray, List.set_cons_zero, List.set_cons_succ])
          refine wpAnyH_take (i := 24) (v := ?_) rfl (by decide +kernel) (by decide +kernel) (by decide +kernel) (fun _ _ _ h => h) (Or.inl ⟨by rfl, ?hy⟩) hcur ?_
          case hy =>
            intro w1 hSw
            replace hSw : Below W.heap.size W w1 := hSw
            obtain ⟨a0, a1, a2, a3, a4⟩ := ac_facts (HX.out.up hSw).has
            go_simp
            (try with_reducible rfl)
          (try simp only [Act.put, List.getElem_toArray, List.getElem_cons_zero, List.getElem_cons_succ, List.setIfInBounds_toArray, List.set_cons_zero, List.set_cons_succ])
          refine wpAnyH_take (i := 25) (v := ?_) rfl (by decide +kernel) (by decide +kernel) (by decide +kernel) (fun _ _ _ h => h) (Or.inl ⟨by rfl, ?hy⟩) hcur ?_
          case hy =>
            intro w1 hSw
            replace hSw : Below W.heap.size W w1 := hSw
            obtain ⟨a0, a1, a2, a3, a4⟩ := ac_facts (HX.out.up hSw).has
            go_simp
            (try with_reducible rfl)
          (try simp only [Act.put, List.getElem_toArray, List.getElem_cons_zero, List.getElem_cons_succ, List.setIfInBounds_toArray, List.set_cons_zero, List.set_cons_succ])
          refine wpAnyH_ready (rs := [21]) (by decide +kernel) (by simp) ?_
          refine AllReadyH.cons rfl (fun K hK => ?_) AllReadyH.nil
          go_simp
          refine (pmall_nil _).mono ?_
          rintro e wn ⟨rfl, hbn⟩
          go_wp2_with fail
          refine hK.out _ _ (below_of hcur hbn) (fun _ => ?_)
          clear hK K
          replace hcur := below_of hcur hbn
          clear hbn
          (try simp only [Act.put, List.getElem_toArray, List.getElem_cons_zero, List.getElem_cons_succ, List.setIfInBounds_toArray, List.set_cons_zero, List.set_cons_succ])
          refine wpAnyH_take (i := 22) (v := ?_) rfl (by decide +kernel) (by decide +kernel) (by decide +kernel) (fun _ _ _ h => h) (Or.inl ⟨by rfl, ?hy⟩) hcur ?_
          case hy =>
            intro w1 hSw
            replace hSw : Below W.heap.size W w1 := hSw
            obtain ⟨a0, a1, a2, a3, a4⟩ := ac_facts (HX.out.up hSw).has
            go_simp
            (try with_reducible rfl)
          (try simp only [Act.put, List.getElem_toArray, List.getElem_cons_zero, List.getElem_cons_succ, List.setIfInBounds_toArray, List.set_cons_zero, List.set_cons_succ])
          refine wpAnyH_ready (rs := [26]) (by decide +kernel) (by simp) ?_
          refine AllReadyH.cons rfl (fun K hK => ?_) AllReadyH.nil
          go_simp
          refine (HSc.out _).mono ?_
          rintro e wn ⟨rfl, hbn⟩
          go_wp2_with fail
          refine hK.out _ _ (below_of hcur hbn) (fun _ => ?_)
          clear hK K
          replace hcur := below_of hcur hbn
          clear hbn
          (try simp only [Act.put, List.getElem_toArray, List.getElem_cons_zero, List.getElem_cons_succ, List.setIfInBounds_toArray, List.set_cons_zero, List.set_cons_succ])
          refine wpAnyH_take (i := 27) (v := ?_) rfl (by decide +kernel) (by decide +kernel) (by decide +kernel) (fun _ _ _ h => h) (Or.inl ⟨by rfl, ?hy⟩) hcur ?_
          case hy =>
            intro w1 hSw
            replace hSw : Below W.heap.size W w1 := hSw
            obtain ⟨a0, a1, a2, a3, a4⟩ := ac_facts (HX.out.up hSw).has
            go_simp
            (try with_reducible rfl)
          (try simp only [Act.put, List.getElem_toArray, List.getElem_cons_zero, List.getElem_cons_succ, List.setIfInBounds_toArray, List.set_cons_zero, List.set_cons_succ])
          refine wpAnyH_take (i := 28) (v := ?_) rfl (by decide +kernel) (by decide +kernel) (by decide +kernel) (fun _ _ _ h => h) (Or.inl ⟨by rfl, ?hy⟩) hcur ?_
          case hy =>
            intro w1 hSw
            replace hSw : Below W.heap.size W w1 := hSw
            obtain ⟨a0, a1, a2, a3, a4⟩ := ac_facts (HX.out.up hSw).has
            go_simp
            (try with_reducible rfl)
          (try simp only [Act.put, List.getElem_toArray, List.getElem_cons_zero, List.getElem_cons_succ, List.setIfInBounds_toArray, List.set_cons_zero, List.set_cons_succ])
          refine wpAnyH_take (i := 29) (v := .bool true) rfl (by decide +kernel) (by decide +kernel) (by decide +kernel) (fun _ _ _ h => h) (Or.inl ⟨by rfl, ?hy⟩) hcur ?_
          case hy =>
            intro w1 hSw
            replace hSw : Below W.heap.size W w1 := hSw
            obtain ⟨a0, a1, a2, a3, a4⟩ := ac_facts (HX.out.up hSw).has
            go_simp
            all_goals (first | rfl | simp)
          (try simp only [Act.put, List.getElem_toArray, List.getElem_cons_zero, List.getElem_cons_succ, List.setIfInBounds_toArray, List.set_cons_zero, List.set_cons_succ])
          refine wpAnyH_take (i := 30) (v := ?_) rfl (by decide +kernel) (by decide +kernel) (by decide +kernel) (fun _ _ _ h => h) (Or.inl ⟨by rfl, ?hy⟩) hcur ?_
          case hy =>
            intro w1 hSw
            replace hSw : Below W.heap.size W w1 := hSw
            obtain ⟨a0, a1, a2, a3, a4⟩ := ac_facts (HX.out.up hSw).has
            go_simp
            (try with_reducible rfl)
          (try simp only [Act.put, List.getElem_toArray, List.getElem_cons_zero, List.getElem_cons_succ, List.setIfInBounds_toArray, List.set_cons_zero, List.set_cons_succ])
          refine wpAnyH_take (i := 31) (v := ?_) rfl (by decide +kernel) (by decide +kernel) (by decide +kernel) (fun _ _ _ h => h) (Or.inl ⟨by rfl, ?hy⟩) hcur ?_
          case hy =>
            intro w1 hSw
            replace hSw : Below W.heap.size W w1 := hSw
            obtain ⟨a0, a1, a2, a3, a4⟩ := ac_facts (HX.out.up hSw).has
            go_simp
            (try with_reducible rfl)
          (try simp only [Act.put, List.getElem_toArray, List.getElem_cons_zero, List.getElem_cons_succ, List.setIfInBounds_toArray, List.set_cons_zero, List.set_cons_succ])
          refine wpAnyH_take (i := 32) (v := ?_) rfl (by decide +kernel) (by decide +kernel) (by decide +kernel) (fun _ _ _ h => h) (Or.inl ⟨by rfl, ?hy⟩) hcur ?_
          case hy =>
            intro w1 hSw
            replace hSw : Below W.heap.size W w1 := hSw
            obtain ⟨a0, a1, a2, a3, a4⟩ := ac_facts (HX.out.up hSw).has
            go_simp
            (try with_reducible rfl)
          (try simp only [Act.put, List.getElem_toArray, List.getElem_cons_zero, List.getElem_cons_succ, List.setIfInBounds_toArray, List.set_cons_zero, List.set_cons_succ])
          refine wpAnyH_ready (rs := [33]) (by decide +kernel) (by simp) ?_
          refine AllReadyH.cons rfl (fun K hK => ?_) AllReadyH.nil
          go_simp
          refine (pmclone_nil _).mono ?_
          rintro e wn ⟨rfl, hbn⟩
          go_wp2_with fail
          refine hK.out _ _ (below_of hcur hbn) (fun _ => ?_)
          clear hK K
          replace hcur := below_of hcur hbn
          clear hbn
          (try simp only [Act.put, List.getElem_toArray, List.getElem_cons_zero, List.getElem_cons_succ, List.setIfInBounds_toArray, List.set_cons_zero, List.set_cons_succ])
          refine wpAnyH_take (i := 34) (v := .bool true) rfl (by decide +kernel) (by decide +kernel) (by decide +kernel) (fun _ _ _ h => h) (Or.inl ⟨by rfl, ?hy⟩) hcur ?_
          case hy =>
            intro w1 hSw
            replace hSw : Below W.heap.size W w1 := hSw
            obtain ⟨a0, a1, a2, a3, a4⟩ := ac_facts (HX.out.up hSw).has
            go_simp
            all_goals (first | rfl | simp)
          (try simp only [Act.put, List.getElem_toArray, List.getElem_cons_zero, List.getElem_cons_succ, List.setIfInBounds_toArray, List.set_cons_zero, List.set_cons_succ])
          refine wpAnyH_take (i := 35) (v := ?_) rfl (by decide +kernel) (by decide +kernel) (by decide +kernel) (fun _ _ _ h => h) (Or.inl ⟨by rfl, ?hy⟩) hcur ?_
          case hy =>
            intro w1 hSw
            replace hSw : Below W.heap.size W w1 := hSw
            obtain ⟨a0, a1, a2, a3, a4⟩ := ac_facts (HX.out.up hSw).has
            go_simp
            (try with_reducible rfl)
          (try simp only [Act.put, List.getElem_toArray, List.getElem_cons_zero, List.getElem_cons_succ, List.setIfInBounds_toArray, List.set_cons_zero, List.set_cons_succ])
          refine wpAnyH_take (i := 36) (v := ?_) rfl (by decide +kernel) (by decide +kernel) (by decide +kernel) (fun _ _ _ h => h) (Or.inl ⟨by rfl, ?hy⟩) hcur ?_
          case hy =>
            intro w1 hSw
            replace hSw : Below W.heap.size W w1 := hSw
            obtain ⟨a0, a1, a2, a3, a4⟩ := ac_facts (HX.out.up hSw).has
            go_simp
            (try with_reducible rfl)
          (try simp only [Act.put, List.getElem_toArray, List.getElem_cons_zero, List.getElem_cons_succ, List.setIfInBounds_toArray, List.set_cons_zero, List.set_cons_succ])
          refine wpAnyH_take (i := 37) (v := ?_) rfl (by decide +kernel) (by decide +kernel) (by decide +kernel) (fun _ _ _ h => h) (Or.inl ⟨by rfl, ?hy⟩) hcur ?_
          case hy =>
            intro w1 hSw
            replace hSw : Below W.heap.size W w1 := hSw
            obtain ⟨a0, a1, a2, a3, a4⟩ := ac_facts (HX.out.up hSw).has
            go_simp
            (try with_reducible rfl)
          (try simp only [Act.put, List.getElem_toArray, List.getElem_cons_zero, List.getElem_cons_succ, List.setIfInBounds_toArray, List.set_cons_zero, List.set_cons_succ])
          refine wpAnyH_take (i := 38) (v := ?_) rfl (by decide +kernel) (by decide +kernel) (by decide +kernel) (fun _ _ _ h => h) (Or.inl ⟨by rfl, ?hy⟩) hcur ?_
          case hy =>
            intro w1 hSw
            replace hSw : Below W.heap.size W w1 := hSw
            obtain ⟨a0, a1, a2, a3, a4⟩ := ac_facts (HX.out.up hSw).has
            go_simp
            (try with_reducible rfl)
          (try simp only [Act.put, List.getElem_toArray, List.getElem_cons_zero, List.getElem_cons_succ, List.setIfInBounds_toArray, List.set_cons_zero, List.set_cons_succ])
          refine wpAnyH_take (i := 39) (v := ?_) rfl (by decide +kernel) (by decide +kernel) (by decide +kernel) (fun _ _ _ h => h) (Or.inl ⟨by rfl, ?hy⟩) hcur ?_
          case hy =>
            intro w1 hSw
            replace hSw : Below W.heap.size W w1 := hSw
            obtain ⟨a0, a1, a2, a3, a4⟩ := ac_facts (HX.out.up hSw).has
            go_simp
            (try with_reducible rfl)
          (try simp only [Act.put, List.getElem_toArray, List.getElem_cons_zero, List.getElem_cons_succ, List.setIfInBounds_toArray, List.set_cons_zero, List.set_cons_succ])
          refine wpAnyH_take (i := 40) (v := ?_) rfl (by decide +kernel) (by decide +kernel) (by decide +kernel) (fun _ _ _ h => h) (Or.inl ⟨by rfl, ?hy⟩) hcur ?_
          case hy =>
            intro w1 hSw
            replace hSw : Below W.heap.size W w1 := hSw
            obtain ⟨a0, a1, a2, a3, a4⟩ := ac_facts (HX.out.up hSw).has
            go_simp
            (try with_reducible rfl)
          (try simp only [Act.put, List.getElem_toArray, List.getElem_cons_zero, List.getElem_cons_succ, List.setIfInBounds_toArray, List.set_cons_zero, List.set_cons_succ])
          refine wpAnyH_take (i := 41) (v := ?_) rfl (by decide +kernel) (by decide +kernel) (by decide +kernel) (fun _ _ _ h => h) (Or.inl ⟨by rfl, ?hy⟩) hcur ?_
          case hy =>
            intro w1 hSw
            replace hSw : Below W.heap.size W w1 := hSw
            obtain ⟨a0, a1, a2, a3, a4⟩ := ac_facts (HX.out.up hSw).has
            go_simp
            (try with_reducible rfl)
          (try simp only [Act.put, List.getElem_toArray, List.getElem_cons_zero, List.getElem_cons_succ, List.setIfInBounds_toArray, List.set_cons_zero, List.set_cons_succ])
          refine wpAnyH_take (i := 42) (v := ?_) rfl (by decide +kernel) (by decide +kernel) (by decide +kernel) (fun _ _ _ h => h) (Or.inl ⟨by rfl, ?hy⟩) hcur ?_
          case hy =>
            intro w1 hSw
            replace hSw : Below W.heap.size W w1 := hSw
            obtain ⟨a0, a1, a2, a3, a4⟩ := ac_facts (HX.out.up hSw).has
            go_simp
            (try with_reducible rfl)
          (try simp only [Act.put, List.getElem_toArray, List.getElem_cons_zero, List.getElem_cons_succ, List.setIfInBounds_toArray, List.set_cons_zero, List.set_cons_succ])
          refine wpAnyH_take (i := 43) (v := .bool true) rfl (by decide +kernel) (by decide +kernel) (by decide +kernel) (fun _ _ _ h => h) (Or.inl ⟨by rfl, ?hy⟩) hcur ?_
          case hy =>
            intro w1 hSw
            replace hSw : Below W.heap.size W w1 := hSw
            obtain ⟨a0, a1, a2, a3, a4⟩ := ac_facts (HX.out.up hSw).has
            go_simp
            all_goals (first | rfl | simp)
          (try simp only [Act.put, List.getElem_toArray, List.getElem_cons_zero, List.getElem_cons_succ, List.setIfInBounds_toArray, List.set_cons_zero, List.set_cons_succ])
          refine wpAnyH_take (i := 44) (v := ?_) rfl (by decide +kernel) (by decide +kernel) (by decide +kernel) (fun _ _ _ h => h) (Or.inl ⟨by rfl, ?hy⟩) hcur ?_
          case hy =>
            intro w1 hSw
            replace hSw : Below W.heap.size W w1 := hSw
            obtain ⟨a0, a1, a2, a3, a4⟩ := ac_facts (HX.out.up hSw).has
            go_simp
            (try with_reducible rfl)
          (try simp only [Act.put, List.getElem_toArray, List.getElem_cons_zero, List.getElem_cons_succ, List.setIfInBounds_toArray, List.set_cons_zero, List.set_cons_succ])
          refine wpAnyH_take (i := 45) (v := ?_) rfl (by decide +kernel) (by decide +kernel) (by decide +kernel) (fun _ _ _ h => h) (Or.inl ⟨by rfl, ?hy⟩) hcur ?_
          case hy =>
            intro w1 hSw
            replace hSw : Below W.heap.size W w1 := hSw
            obtain ⟨a0, a1, a2, a3, a4⟩ := ac_facts (HX.out.up hSw).has
            go_simp
            (try with_reducible rfl)
          (try simp only [Act.put, List.getElem_toArray, List.getElem_cons_zero, List.getElem_cons_succ, List.setIfInBounds_toArray, List.set_cons_zero, List.set_cons_succ])
          refine wpAnyH_ready (rs := [46]) (by decide +kernel) (by simp) ?_
          refine AllReadyH.cons rfl (fun K hK => ?_) AllReadyH.nil
          go_simp
          refine (lives06_any _).mono ?_
          rintro e wn ⟨rfl, hbn⟩
          go_wp2_with fail
          refine hK.out _ _ (below_of hcur hbn) (fun _ => ?_)
          clear hK K
          replace hcur := below_of hcur hbn
          clear hbn
          (try simp only [Act.put, List.getElem_toArray, List.getElem_cons_zero, List.getElem_cons_succ, List.setIfInBounds_toArray, List.set_cons_zero, List.set_cons_succ])
          refine wpAnyH_take (i := 47) (v := ?_) rfl (by decide +kernel) (by decide +kernel) (by decide +kernel) (fun _ _ _ h => h) (Or.inl ⟨by rfl, ?hy⟩) hcur ?_
          case hy =>
            intro w1 hSw
            replace hSw : Below W.heap.size W w1 := hSw
            obtain ⟨a0, a1, a2, a3, a4⟩ := ac_facts (HX.out.up hSw).has
            go_simp
            (try with_reducible rfl)
          (try simp only [Act.put, List.getElem_toArray, List.getElem_cons_zero, List.getElem_cons_succ, List.setIfInBounds_toArray, List.set_cons_zero, List.set_cons_succ])
          refine wpAnyH_take (i := 48) (v := ?_) rfl (by decide +kernel) (by decide +kernel) (by decide +kernel) (fun _ _ _ h => h) (Or.inl ⟨by rfl, ?hy⟩) hcur ?_
          case hy =>
            intro w1 hSw
            replace hSw : Below W.heap.size W w1 := hSw
            obtain ⟨a0, a1, a2, a3, a4⟩ := ac_facts (HX.out.up hSw).has
            go_simp
            (try with_reducible rfl)
          (try simp only [Act.put, List.getElem_toArray, List.getElem_cons_zero, List.getElem_cons_succ, List.setIfInBounds_toArray, List.set_cons_zero, List.set_cons_succ])
          refine wpAnyH_done (by decide +kernel) ?_ _
          go_wp2_with fail
          go_ret
          exact ⟨rfl, below_of HX.out.below hcur⟩
theorem pairsapart_row (A : Option Addr) (c : Nat) (xs : List ActD) (a : ActD) (w : World) (h : Acl w A xs) (hx : ∀ x ∈ xs, ActOk x) (_ : xs.length ≤ c) (hl : xs.length ≤ 9223372036854775807) (ha : ActOk a) :
    Calls Try.prog 11 #[.slice A xs.length c, .agg (acCells a)] w (Ret (.bool true) w) := pairsapart_any A c xs a w h hx ha hl

end Go.Proofs.Ytggjlnjpokdfpaa
