/- Contracts of package pairs: Put, Delete. -/
import Derived.Test.YtggjlnjpokdfpaaPMap
namespace Go.Proofs.Ytggjlnjpokdfpaa
open Go.RowKit

def pKs (ks : List ByteArray) (k : ByteArray) : List ByteArray := if Pl.findIs ks k.data.toList = true then ks else ins ks (Pl.findAt ks k.data.toList) k
def pVs (ks : List ByteArray) (vs : List Int) (k : ByteArray) (v : Int) : List Int := if Pl.findIs ks k.data.toList = true then vs.set (Pl.findAt ks k.data.toList) v else ins vs (Pl.findAt ks k.data.toList) v
def dKs (ks : List ByteArray) (k : ByteArray) : List ByteArray := if Pl.findIs ks k.data.toList = true then ks.eraseIdx (Pl.findAt ks k.data.toList) else ks
def dVs (ks : List ByteArray) (vs : List Int) (k : ByteArray) : List Int := if Pl.findIs ks k.data.toList = true then vs.eraseIdx (Pl.findAt ks k.data.toList) else vs
theorem findIs_lt {ks : List ByteArray} {k : List UInt8} (e : Pl.findIs ks k = true) : Pl.findAt ks k < ks.length := by
  unfold Pl.findIs at e
  rw [Bool.and_eq_true, decide_eq_true_iff] at e
  exact e.1
theorem insl {α : Type} {xs : List α} {i : Nat} (x : α) (h : i ≤ xs.length) : (ins xs i x).length = xs.length + 1 := ins_length xs i x h
theorem fits_insM {ks : List ByteArray} {i : Nat} {k : ByteArray} (h : Fits ks) (hk : k.size ≤ maxLen) : Fits (ins ks i k) := by
  intro j hj
  have hm : (ins ks i k)[j] ∈ ins ks i k := List.getElem_mem hj
  generalize (ins ks i k)[j] = s at hm
  unfold ins at hm
  rw [List.mem_append, List.mem_cons] at hm
  have key : ∀ s ∈ ks, s.size ≤ maxLen := fun s hs => by
    obtain ⟨q, hq, rfl⟩ := List.getElem_of_mem hs
    exact h q hq
  rcases hm with hm | rfl | hm
  · exact key s (List.mem_of_mem_take hm)
  · exact hk
  · exact key s (List.mem_of_mem_drop hm)
theorem fits_cutM {ks : List ByteArray} {i : Nat} (h : Fits ks) : Fits (ks.eraseIdx i) := by
  intro j hj
  have hm : (ks.eraseIdx i)[j] ∈ ks := (List.eraseIdx_sublist _ _).subset (List.getElem_mem hj)
  obtain ⟨q, hq, e⟩ := List.getElem_of_mem hm
  rw [← e]
  exact h q hq
theorem u64s_ins (zs : List Int) (k : Nat) (x : Int) : ins (u64s zs) k (.int .u64 x) = u64s (ins zs k x) := by simp [ins, u64s]
theorem u64s_set (zs : List Int) (k : Nat) (x : Int) : (u64s zs).set k (.int .u64 x) = u64s (zs.set k x) := by simp [u64s, List.map_set]
theorem u64s_erase (zs : List Int) (k : Nat) : (u64s zs).eraseIdx k = u64s (zs.eraseIdx k) := by simp [u64s, List.eraseIdx_eq_take_drop_succ]

/-- What a call leaves that turns a map. -/
def MapRet (T : Nat → Prop) (g : Nat) (v : Value) (ks : List ByteArray) (vs : List Int) (w : World) (e : Ending) (w' : World) : Prop := e = .returned v ∧ MapAt T w' g ks vs ∧ Off (fun q => q = g) w w'

set_option maxRecDepth 100000 in
set_option maxHeartbeats 4000000 in
theorem pmput_any (T : Nat → Prop) (g : Nat) (ks : List ByteArray) (vs : List Int) (k : ByteArray) (v : Int) (w : World) (h : MapAt T w g ks vs) (hk : k.size ≤ maxLen) (hl : ks.length ≤ 1000) (hT : ∀ t, T t → t < w.heap.size) :
    Calls Try.prog 44 #[.pointer (some ⟨g, 0, none⟩), .string k, .int .u64 v] w (MapRet T g (.tuple #[.int .u64 (mGet ks vs k).1, .bool (mGet ks vs k).2]) (pKs ks k) (pVs ks vs k v) w) := by
  obtain ⟨hv, A, ca, B, cb, hM⟩ := h
  have HF := Lib.hid (pmfind_any T g ks vs k A B ca cb w hM hk hl)
  have hg : mGet ks vs k = if Pl.findIs ks k.data.toList = true then (vs.getD (Pl.findAt ks k.data.toList) 0, true) else (0, false) := rfl
  have hpk : pKs ks k = if Pl.findIs ks k.data.toList = true then ks else ins ks (Pl.findAt ks k.data.toList) k := rfl
  have hpv : pVs ks vs k v = if Pl.findIs ks k.data.toList = true then vs.set (Pl.findAt ks k.data.toList) v else ins vs (Pl.findAt ks k.data.toList) v := rfl
  have HLT := Lib.hid (findIs_lt (ks := ks) (k := k.data.toList))
  have HLE := Lib.hid (Pl.findAt_le ks k.data.toList)
  have HFI := Lib.hid (And.intro hM.fit hk)
  have HT := Lib.hid hT
  have HV := Lib.hid hv
  generalize Pl.findIs ks k.data.toList = hs at HF hg HLT hpk hpv
  generalize Pl.findAt ks k.data.toList = i at HF hg HLT HLE hpk hpv
  generalize mGet ks vs k = o at hg ⊢
  generalize pKs ks k = ks' at hpk ⊢
  generalize pVs ks vs k v = vs' at hpv ⊢
  have HG := Lib.hid (And.intro hg (And.intro hpk hpv))
  clear hg hpk hpv hT hv
  go_enter Try.func44, Try.ntmps44
  go_wp2_with fail
  refine HF.out.mono ?_
  rintro e wn ⟨rfl, hbn⟩
  replace hM := hM.up hbn
  have HB := Lib.hid hbn
  clear hbn HF
  have HGT := Lib.hid (And.intro hM.lt (show ¬ T wn.heap.size from fun q => by have := HT.out _ q; have := HB.out.size; omega))
  cases hs
  · have e1 := (HG.out.1.trans (if_neg Bool.false_ne_true)).symm
    have e2 := (HG.out.2.1.trans (if_neg Bool.false_ne_true)).symm
    have e3 := (HG.out.2.2.trans (if_neg Bool.false_ne_true)).symm
    clear HG
    subst e1
    subst e2
    subst e3
    obtain ⟨m0, m1, f0, f1⟩ := pr_facts hM.cell
    have HM0 := Lib.hid hM
    clear hM
    go_wp2_with fail
    refine (addS_yes A ks.length ca i k (strs ks) _ HM0.out.keys (strs_one _) (by omega) HM0.out.ka (by omega) (by have := HLE.out; omega)).mono ?_
    rintro e w1 ⟨rfl, hnew, hb1⟩
    rw [Int.toNat_natCast, strs_ins] at hnew
    clear m0 m1 f0 f1
    have hM1 := HM0.out.up hb1
    have hM2 := hM1.setA hnew (by have := HGT.out.1; omega) HGT.out.2 (fits_insM HFI.out.1 HFI.out.2) (n := ks.length + 1) (insl _ HLE.out).symm
    obtain ⟨m0, m1, f0, f1⟩ := pr_facts hM1.cell
    have hO := ((Off.of_below HB.out (fun q => q = g)).trans (Off.of_below hb1 (fun q => q = g)) (fun _ _ q => q)).trans (Off.of_setCell w1 ⟨g, 0, none⟩ (.slice (some ⟨wn.heap.size, 0, none⟩) (ks.length + 1) (ks.length + 1))) (fun _ _ q => q)
    have HM2 := Lib.hid (And.intro hM2 hO)
    clear hM1 hM2 hO hnew hb1
    go_upto_region 9 with fail
    clear m0 m1 f0 f1
    generalize World.setCell _ _ _ = w2 at HM2 ⊢
    obtain ⟨m0, m1, f0, f1⟩ := pr_facts HM2.out.1.cell
    go_wp2_with fail
    refine (addU_yes B vs.length cb i v (u64s vs) _ HM2.out.1.vals (u64s_one _) (by have := HV.out; omega) HM2.out.1.kb (by omega) (by have := HLE.out; have := HV.out; omega)).mono ?_
    rintro e w3 ⟨rfl, hnew, hb1⟩
    rw [Int.toNat_natCast, u64s_ins] at hnew
    clear m0 m1 f0 f1
    have hM1 := HM2.out.1.up hb1
    have hM2 := hM1.setB hnew (by have := HM2.out.1.lt; omega) (fun q => by have := HT.out _ q; have := HM2.out.2.size; omega) (n := vs.length + 1) (insl _ (by have := HLE.out; have := HV.out; omega)).symm
    obtain ⟨m0, m1, f0, f1⟩ := pr_facts hM1.cell
    have hO := (HM2.out.2.trans (Off.of_below hb1 (fun q => q = g)) (fun _ _ q => q)).trans (Off.of_setCell w3 ⟨g, 1, none⟩ (.slice (some ⟨w2.heap.size, 0, none⟩) (vs.length + 1) (vs.length + 1))) (fun _ _ q => q)
    have HM3 := Lib.hid (And.intro hM2 hO)
    clear hM1 hM2 hO hnew hb1
    go_wp2_with fail
    go_ret2
    exact ⟨rfl, ⟨by rw [insl _ HLE.out, insl _ (by have := HLE.out; have := HV.out; omega), HV.out], _, _, _, _, HM3.out.1⟩, HM3.out.2⟩
  · have hi := HLT.out rfl
    have e1 := (HG.out.1.trans (if_pos rfl)).symm
    have e2 := (HG.out.2.1.trans (if_pos rfl)).symm
    have e3 := (HG.out.2.2.trans (if_pos rfl)).symm
    clear HG
    subst e1
    subst e2
    subst e3
    have hi2 : i < vs.length := by have := HV.out; omega
    have hgd : vs.getD i 0 = vs[i] := by rw [List.getD_eq_getElem?_getD, List.getElem?_eq_getElem hi2]; rfl
    have HGD := Lib.hid hgd
    clear hgd
    obtain ⟨b, off, hA, hbb, hc⟩ := hM.vals.spot (show 0 < vs.length by omega)
    subst hA
    have cj := hc i hi2
    obtain ⟨m0, m1, f0, f1⟩ := pr_facts hM.cell
    have HM0 := Lib.hid hM
    clear hM hc
    have HUS := Lib.hid (setU_yes (some ⟨b, off, none⟩) vs.length cb i v (u64s vs) wn HM0.out.vals (u64s_one _) (by have := HV.out; omega) (by omega) (by omega))
    rw [Int.toNat_natCast, u64s_set] at HUS
    have HSL := Lib.hid (List.length_set : (vs.set i v).length = vs.length)
    generalize vs[i] = vi at cj HGD ⊢
    have hi3 : (i : Int) < (vs.length : Int) := by omega
    go_wp2_with fail
    refine HUS.out.mono ?_
    rintro e w1 ⟨rfl, hnew, hb1⟩
    clear m0 m1 f0 f1 cj
    have hM1 := HM0.out.up hb1
    have hM2 := hM1.setB hnew (by have := HGT.out.1; omega) HGT.out.2 (n := vs.length) HSL.out.symm
    obtain ⟨m0, m1, f0, f1⟩ := pr_facts hM1.cell
    have hO := ((Off.of_below HB.out (fun q => q = g)).trans (Off.of_below hb1 (fun q => q = g)) (fun _ _ q => q)).trans (Off.of_setCell w1 ⟨g, 1, none⟩ (.slice (some ⟨wn.heap.size, 0, none⟩) vs.length vs.length)) (fun _ _ q => q)
    have HM3 := Lib.hid (And.intro hM2 hO)
    clear hM1 hM2 hO hnew hb1
    go_wp2_with fail
    go_ret2
    exact ⟨by rw [HGD.out]; rfl, ⟨by rw [HSL.out, HV.out], _, _, _, _, HM3.out.1⟩, HM3.out.2⟩
theorem pmput_nil (k : ByteArray) (v : Int) (w : World) : Calls Try.prog 44 #[.pointer none, .string k, .int .u64 v] w (Ret (.tuple #[.int .u64 0, .bool false]) w) := by
  go_enter Try.func44, Try.ntmps44
  go_wp2_with fail
  go_ret2
  exact ⟨rfl, Below.refl _ _⟩

set_option maxRecDepth 100000 in
set_option maxHeartbeats 4000000 in
theorem pmdel_any (T : Nat → Prop) (g : Nat) (ks : List ByteArray) (vs : List Int) (k : ByteArray) (w : World) (h : MapAt T w g ks vs) (hk : k.size ≤ maxLen) (hl : ks.length ≤ 1000) (hT : ∀ t, T t → t < w.heap.size) :
    Calls Try.prog 50 #[.pointer (some ⟨g, 0, none⟩), .string k] w (MapRet T g (.tuple #[.int .u64 (mGet ks vs k).1, .bool (mGet ks vs k).2]) (dKs ks k) (dVs ks vs k) w) := by
  obtain ⟨hv, A, ca, B, cb, hM⟩ := h
  have HF := Lib.hid (pmfind_any T g ks vs k A B ca cb w hM hk hl)
  have hg : mGet ks vs k = if Pl.findIs ks k.data.toList = true then (vs.getD (Pl.findAt ks k.data.toList) 0, true) else (0, false) := rfl
  have hpk : dKs ks k = if Pl.findIs ks k.data.toList = true then ks.eraseIdx (Pl.findAt ks k.data.toList) else ks := rfl
  have hpv : dVs ks vs k = if Pl.findIs ks k.data.toList = true then vs.eraseIdx (Pl.findAt ks k.data.toList) else vs := rfl
  have HLT := Lib.hid (findIs_lt (ks := ks) (k := k.data.toList))
  have HFI := Lib.hid hM.fit
  have HT := Lib.hid hT
  have HV := Lib.hid hv
  generalize Pl.findIs ks k.data.toList = hs at HF hg HLT hpk hpv
  generalize Pl.findAt ks k.data.toList = i at HF hg HLT hpk hpv
  generalize mGet ks vs k = o at hg ⊢
  generalize dKs ks k = ks' at hpk ⊢
  generalize dVs ks vs k = vs' at hpv ⊢
  have HG := Lib.hid (And.intro hg (And.intro hpk hpv))
  clear hg hpk hpv hT hv
  go_enter Try.func50, Try.ntmps50
  go_wp2_with fail
  refine HF.out.mono ?_
  rintro e wn ⟨rfl, hbn⟩
  replace hM := hM.up hbn
  have HB := Lib.hid hbn
  clear hbn HF
  have HGT := Lib.hid (And.intro hM.lt (show ¬ T wn.heap.size from fun q => by have := HT.out _ q; have := HB.out.size; omega))
  cases hs
  · have e1 := (HG.out.1.trans (if_neg Bool.false_ne_true)).symm
    have e2 := (HG.out.2.1.trans (if_neg Bool.false_ne_true)).symm
    have e3 := (HG.out.2.2.trans (if_neg Bool.false_ne_true)).symm
    clear HG
    subst e1
    subst e2
    subst e3
    have HM0 := Lib.hid hM
    clear hM
    go_wp2_with fail
    go_ret2
    exact ⟨rfl, ⟨HV.out, _, _, _, _, HM0.out⟩, Off.of_below HB.out _⟩
  · have hi := HLT.out rfl
    have e1 := (HG.out.1.trans (if_pos rfl)).symm
    have e2 := (HG.out.2.1.trans (if_pos rfl)).symm
    have e3 := (HG.out.2.2.trans (if_pos rfl)).symm
    clear HG
    subst e1
    subst e2
    subst e3
    have hi2 : i < vs.length := by have := HV.out; omega
    have hgd : vs.getD i 0 = vs[i] := by rw [List.getD_eq_getElem?_getD, List.getElem?_eq_getElem hi2]; rfl
    have HGD := Lib.hid hgd
    clear hgd
    obtain ⟨b, off, hA, hbb, hc⟩ := hM.vals.spot (show 0 < vs.length by omega)
    subst hA
    have cj := hc i hi2
    obtain ⟨m0, m1, f0, f1⟩ := pr_facts hM.cell
    have HM0 := Lib.hid hM
    clear hM hc
    have HUS := Lib.hid (cutS_yes A ks.length ca i (strs ks) wn HM0.out.keys (strs_one _) (by omega) HM0.out.ka (by omega) (by omega))
    rw [Int.toNat_natCast, strs_erase] at HUS
    have HUV := Lib.hid (fun W (hW : Rd W W.heap.size 1 (some ⟨b, off, none⟩) vs.length (u64s vs)) => cutU_yes (some ⟨b, off, none⟩) vs.length cb i (u64s vs) W hW (u64s_one _) (by have := HV.out; omega) HM0.out.kb (by omega) (by omega))
    rw [Int.toNat_natCast, u64s_erase] at HUV
    have HSL := Lib.hid (And.intro (List.length_eraseIdx_of_lt hi) (List.length_eraseIdx_of_lt hi2))
    have HFC := Lib.hid (fits_cutM (i := i) HFI.out)
    generalize vs[i] = vi at cj HGD ⊢
    have hi3 : (i : Int) < (vs.length : Int) := by omega
    go_wp2_with fail
    refine HUS.out.mono ?_
    rintro e w1 ⟨rfl, hnew, hb1⟩
    clear m0 m1 f0 f1 cj HUS
    have hM1 := HM0.out.up hb1
    have hM2 := hM1.setA hnew (by have := HGT.out.1; omega) HGT.out.2 HFC.out (n := ks.length - 1) HSL.out.1.symm
    obtain ⟨m0, m1, f0, f1⟩ := pr_facts hM1.cell
    have hO := ((Off.of_below HB.out (fun q => q = g)).trans (Off.of_below hb1 (fun q => q = g)) (fun _ _ q => q)).trans (Off.of_setCell w1 ⟨g, 0, none⟩ (.slice (some ⟨wn.heap.size, 0, none⟩) (ks.length - 1) (ks.length - 1))) (fun _ _ q => q)
    have HM2 := Lib.hid (And.intro hM2 hO)
    clear hM1 hM2 hO hnew hb1
    go_upto_region 6 with fail
    clear m0 m1 f0 f1
    generalize World.setCell _ _ _ = w2 at HM2 ⊢
    obtain ⟨m0, m1, f0, f1⟩ := pr_facts HM2.out.1.cell
    go_wp2_with fail
    refine (HUV.out _ HM2.out.1.vals).mono ?_
    rintro e w3 ⟨rfl, hnew, hb1⟩
    clear m0 m1 f0 f1
    have hM1 := HM2.out.1.up hb1
    have hM2 := hM1.setB hnew (by have := HM2.out.1.lt; omega) (fun q => by have := HT.out _ q; have := HM2.out.2.size; omega) (n := vs.length - 1) HSL.out.2.symm
    obtain ⟨m0, m1, f0, f1⟩ := pr_facts hM1.cell
    have hO := (HM2.out.2.trans (Off.of_below hb1 (fun q => q = g)) (fun _ _ q => q)).trans (Off.of_setCell w3 ⟨g, 1, none⟩ (.slice (some ⟨w2.heap.size, 0, none⟩) (vs.length - 1) (vs.length - 1))) (fun _ _ q => q)
    have HM3 := Lib.hid (And.intro hM2 hO)
    clear hM1 hM2 hO hnew hb1
    go_wp2_with fail
    go_ret2
    exact ⟨by rw [HGD.out]; rfl, ⟨by rw [HSL.out.1, HSL.out.2, HV.out], _, _, _, _, HM3.out.1⟩, HM3.out.2⟩
theorem pmdel_nil (k : ByteArray) (w : World) : Calls Try.prog 50 #[.pointer none, .string k] w (Ret (.tuple #[.int .u64 0, .bool false]) w) := by
  go_enter Try.func50, Try.ntmps50
  go_wp2_with fail
  refine (pmfind_nil k w).mono ?_
  rintro e wn ⟨rfl, hbn⟩
  go_wp2_with fail
  go_ret2
  exact ⟨rfl, hbn⟩

end Go.Proofs.Ytggjlnjpokdfpaa
