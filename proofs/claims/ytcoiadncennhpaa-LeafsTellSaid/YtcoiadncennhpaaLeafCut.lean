/- Contracts of package leafs: Without. -/
import Derived.Test.YtcoiadncennhpaaLeafWith
namespace Go.Proofs.Ytcoiadncennhpaa
open Go.RowKit

theorem erase_map {α β : Type} (f : α → β) : ∀ (l : List α) (i : Nat), (l.map f).eraseIdx i = (l.eraseIdx i).map f
  | [], _ => rfl
  | _ :: _, 0 => rfl
  | x :: l, i + 1 => congrArg (f x :: ·) (erase_map f l i)
theorem withoutD_leaf {d : Nd} {k : ByteArray} (h : leafB d = false) : withoutD d k = (false, zeroN) := if_neg (by rw [h]; exact Bool.false_ne_true)
theorem withoutD_has {d : Nd} {k : ByteArray} (h : hasD d k = false) : withoutD d k = (false, zeroN) := if_neg (by rw [h, Bool.and_false]; exact Bool.false_ne_true)
theorem withoutD_yes {d : Nd} {k : ByteArray} (h : leafB d = true) (h2 : hasD d k = true) : withoutD d k = (true, cutD d k) := if_pos (by rw [h, h2]; rfl)

set_option maxRecDepth 100000 in
set_option maxHeartbeats 16000000 in
theorem leafcut_any (d : Nd) (k : ByteArray) (A B C : Option Addr) (ca cb cc : Nat) (w : World) (h : Lies w d A B C ca cb cc) (hk : k.size ≤ maxLen) :
    Calls Try.prog 31 #[.agg (ndCells d A B C ca cb cc), .string k] w (NodeRet (withoutD d k) w) := by
  have HT := Lib.hid (NdRes.start w d A B C ca cb cc h)
  have H00 := Lib.hid h
  have HLf := Lib.hid (fun W hW => leaf_any d A B C ca cb cc W hW)
  have HF := Lib.hid (fun W (hW : Lies W d A B C ca cb cc) => find_any A d.keys.length ca d.keys k W hW.keys hW.fit hk hW.la)
  rw [show Pl.findAt d.keys k.data.toList = atD d k from rfl, show Pl.findIs d.keys k.data.toList = hasD d k from rfl] at HF
  by_cases h1 : leafB d = true
  · rw [h1] at HLf
    have hlf := (leafB_iff d).1 h1
    cases h2 : hasD d k
    · rw [h2] at HF
      rw [withoutD_has h2]
      clear h h1 h2 hlf
      generalize atD d k = i at HF
      obtain ⟨level, low, high, last, next, keys, vals, kids⟩ := d
      simp only [ndCells] at HT HLf ⊢
      go_enter Try.func31, Try.ntmps31
      go_upto_region 1 with fail
      generalize (w.alloc _).alloc _ = W at HT ⊢
      have hbx := HT.out.box
      simp only [ndCells] at hbx
      obtain ⟨x0, x1, x2, x3, x4, x5, x6, x7, -, -, -, -, -, -, -, -⟩ := nd_facts hbx
      clear hbx
      go_wp2_with fail
      refine (HF.out _ HT.out.lies).mono ?_
      rintro e W ⟨rfl, hbn⟩
      clear x0 x1 x2 x3 x4 x5 x6 x7
      replace HT := Lib.hid (HT.out.up hbn)
      clear hbn
      have hbx := HT.out.box
      simp only [ndCells] at hbx
      obtain ⟨x0, x1, x2, x3, x4, x5, x6, x7, -, -, -, -, -, -, -, -⟩ := nd_facts hbx
      clear hbx
      go_wp2_with fail
      refine (HLf.out _ HT.out.lies).mono ?_
      rintro e W ⟨rfl, hbn⟩
      clear x0 x1 x2 x3 x4 x5 x6 x7
      replace HT := Lib.hid (HT.out.up hbn)
      clear hbn
      have hrs := HT.out.res
      obtain ⟨y0, y1, y2, y3, y4, y5, y6, y7, q0, q1, q2, q3, q4, q5, q6, q7⟩ := nd_facts hrs
      clear hrs
      have hz := set8_below HT.out.bel (w.heap.size + 1) (Nat.le_succ _) (.int .i64 0) (.string ⟨#[]⟩) (.string ⟨#[]⟩) (.bool false) (.int .i64 0) (.slice none 0 0) (.slice none 0 0) (.slice none 0 0)
      simp only [set8] at hz
      have HZ := Lib.hid hz
      clear hz
      go_wp2_with fail
      exact bodyPost_ret (v := .tuple #[.agg #[.int .i64 0, .string ⟨#[]⟩, .string ⟨#[]⟩, .bool false, .int .i64 0, .slice none 0 0, .slice none 0 0, .slice none 0 0], .bool false]) (by simp [results, Try.results31, go_sem, *]) rfl ⟨none, none, none, 0, 0, 0, rfl, zero_lies _, HZ.out, fun a e => (by cases e), fun a e => (by cases e)⟩
    · rw [h2] at HF
      rw [withoutD_yes h1 h2]
      have hlt := (at_lt h2).1
      have hcut : cutD d k = ⟨d.level, d.low, d.high, d.last, d.next, d.keys.eraseIdx (atD d k), d.vals.eraseIdx (atD d k), d.kids⟩ := rfl
      rw [hcut]
      generalize atD d k = i at HF hlt ⊢
      have HI := Lib.hid (And.intro hlt (And.intro hlf.2.2.1 (show d.vals.length = d.keys.length from hlf.2.2.2.2.2.1)))
      clear h h1 h2 hlf hcut hlt
      obtain ⟨level, low, high, last, next, keys, vals, kids⟩ := d
      simp only [] at HI ⊢
      obtain ⟨KK, hKK⟩ : ∃ KK, KK = keys.eraseIdx i := ⟨_, rfl⟩
      obtain ⟨VV, hVV⟩ : ∃ VV, VV = vals.eraseIdx i := ⟨_, rfl⟩
      have hkk : keys.length - 1 = KK.length := by rw [hKK, List.length_eraseIdx_of_lt HI.out.1]
      have hvv : vals.length - 1 = VV.length := by rw [hVV, List.length_eraseIdx_of_lt (by have := HI.out; omega)]
      have hks : (strs keys).eraseIdx i = strs KK := by rw [hKK]; exact erase_map _ _ _
      have hvs : (u64s vals).eraseIdx i = u64s VV := by rw [hVV]; exact erase_map _ _ _
      have hfit : Fits KK := by
        intro j hj
        have hm := List.getElem_mem hj
        generalize KK[j] = sj at hm ⊢
        rw [hKK] at hm
        obtain ⟨q, hq, rfl⟩ := List.getElem_of_mem ((List.eraseIdx_sublist _ _).subset hm)
        exact H00.out.fit q hq
      rw [← hKK, ← hVV]
      have HW := Lib.hid (And.intro hkk (And.intro hvv (And.intro hks (And.intro hvs hfit))))
      clear hkk hvv hks hvs hfit hKK hVV
      simp only [ndCells] at HT HLf ⊢
      go_enter Try.func31, Try.ntmps31
      go_upto_region 1 with fail
      generalize (w.alloc _).alloc _ = W at HT ⊢
      have hbx := HT.out.box
      simp only [ndCells] at hbx
      obtain ⟨x0, x1, x2, x3, x4, x5, x6, x7, -, -, -, -, -, -, -, -⟩ := nd_facts hbx
      clear hbx
      go_wp2_with fail
      refine (HF.out _ HT.out.lies).mono ?_
      rintro e W ⟨rfl, hbn⟩
      clear x0 x1 x2 x3 x4 x5 x6 x7
      replace HT := Lib.hid (HT.out.up hbn)
      clear hbn
      have hbx := HT.out.box
      simp only [ndCells] at hbx
      obtain ⟨x0, x1, x2, x3, x4, x5, x6, x7, -, -, -, -, -, -, -, -⟩ := nd_facts hbx
      clear hbx
      go_wp2_with fail
      refine (HLf.out _ HT.out.lies).mono ?_
      rintro e Y ⟨rfl, hbn⟩
      clear x0 x1 x2 x3 x4 x5 x6 x7
      replace HT := Lib.hid (HT.out.up hbn)
      clear hbn
      have hL := HT.out.lies
      have HA1 := Lib.hid (cutS_yes A keys.length ca (i : Int) (strs keys) Y hL.keys (strs_one keys) (by have := HI.out; omega) hL.ka (by omega) (by have := HI.out; omega))
      have hbx := HT.out.box
      simp only [ndCells] at hbx
      obtain ⟨x0, x1, x2, x3, x4, x5, x6, x7, -, -, -, -, -, -, -, -⟩ := nd_facts hbx
      clear hbx hL
      go_wp2_with fail
      refine HA1.out.mono ?_
      rintro e Y1 ⟨rfl, hh1, hb1⟩
      rw [HW.out.1]
      rw [Int.toNat_natCast, HW.out.2.2.1] at hh1
      have hys := HT.out.sz
      replace HT := Lib.hid (And.intro (HT.out.up hb1) (And.intro hh1 (show w.heap.size + 1 < Y.heap.size by omega)))
      clear hh1 hb1 hys HA1 x0 x1 x2 x3 x4 x5 x6 x7 HLf HF
      generalize Y.heap.size = p1 at HT ⊢
      have hbx := HT.out.1.box
      simp only [ndCells] at hbx
      obtain ⟨x0, x1, x2, x3, x4, x5, x6, x7, f0, f1, f2, f3, f4, f5, f6, f7⟩ := nd_facts hbx
      go_upto_region 5 with fail
      have hO := Off.of_setCell Y1 ⟨w.heap.size, 5, none⟩ (.slice (some ⟨p1, 0, none⟩) KK.length KK.length)
      have hsz := HT.out.1.sz
      have hp1 := (Array.getElem?_eq_some_iff.1 HT.out.2.1).1
      have hd := HT.out.2.2
      have hbel := hO.below HT.out.1.bel HT.out.1.bel.size (fun j hj e => by simp only [] at e; omega)
      have hres := (hO.block (w.heap.size + 1) hsz (by simp only []; omega)).trans HT.out.1.res
      have hb2 : (Y1.setCell ⟨w.heap.size, 5, none⟩ (.slice (some ⟨p1, 0, none⟩) KK.length KK.length)).heap[w.heap.size]? = some (.cells #[.int .i64 level, .string low, .string high, .bool last, .int .i64 next, .slice (some ⟨p1, 0, none⟩) KK.length KK.length, .slice B vals.length cb, .slice C kids.length cc] 26 (0, 0)) := by simp [World.setCell, Array.getElem?_modify, hbx]
      have hk1 := (hO.block p1 hp1 (by simp only []; omega)).trans HT.out.2.1
      have hss : (Y1.setCell ⟨w.heap.size, 5, none⟩ (.slice (some ⟨p1, 0, none⟩) KK.length KK.length)).heap.size = Y1.heap.size := by simp [World.setCell]
      have H2 := Lib.hid (And.intro hres (And.intro hb2 (And.intro hk1 (And.intro hbel (And.intro hd (show p1 < _ from hss.symm ▸ hp1))))))
      clear hO hsz hp1 hd hbel hres hb2 hk1 hss hbx HT x0 x1 x2 x3 x4 x5 x6 x7 f0 f1 f2 f3 f4 f5 f6 f7
      generalize Y1.setCell _ _ = Z1 at H2 ⊢
      have hL := H00.out.up H2.out.2.2.2.1
      have HA2 := Lib.hid (cutU_yes B vals.length cb (i : Int) (u64s vals) Z1 hL.vals (u64s_one vals) (by have := HI.out; omega) hL.kb (by omega) (by have := HI.out; omega))
      have hbx := H2.out.2.1
      obtain ⟨x0, x1, x2, x3, x4, x5, x6, x7, -, -, -, -, -, -, -, -⟩ := nd_facts hbx
      clear hbx hL
      go_wp2_with fail
      refine HA2.out.mono ?_
      rintro e Z2 ⟨rfl, hh2, hb2⟩
      rw [HW.out.2.1]
      rw [Int.toNat_natCast, HW.out.2.2.2.1] at hh2
      have k1 := (hb2.block _ (Array.getElem?_eq_some_iff.1 H2.out.1).1).trans H2.out.1
      have k2 := (hb2.block _ (Array.getElem?_eq_some_iff.1 H2.out.2.1).1).trans H2.out.2.1
      have k3 := (hb2.block _ (Array.getElem?_eq_some_iff.1 H2.out.2.2.1).1).trans H2.out.2.2.1
      have k4 := below_of H2.out.2.2.2.1 hb2
      have H3 := Lib.hid (And.intro k1 (And.intro k2 (And.intro k3 (And.intro k4 (And.intro hh2 (show w.heap.size + 1 < p1 ∧ p1 < Z1.heap.size from H2.out.2.2.2.2))))))
      clear k1 k2 k3 k4 hh2 hb2 H2 HA2 x0 x1 x2 x3 x4 x5 x6 x7
      generalize Z1.heap.size = p2 at H3 ⊢
      have hbx := H3.out.2.1
      obtain ⟨x0, x1, x2, x3, x4, x5, x6, x7, f0, f1, f2, f3, f4, f5, f6, f7⟩ := nd_facts hbx
      go_upto_region 6 with fail
      have hO := Off.of_setCell Z2 ⟨w.heap.size, 6, none⟩ (.slice (some ⟨p2, 0, none⟩) VV.length VV.length)
      have hd := H3.out.2.2.2.2.2
      have hsz := (Array.getElem?_eq_some_iff.1 H3.out.1).1
      have hbel := hO.below H3.out.2.2.2.1 H3.out.2.2.2.1.size (fun j hj e => by simp only [] at e; omega)
      have hres := (hO.block (w.heap.size + 1) hsz (by simp only []; omega)).trans H3.out.1
      have hb2 : (Z2.setCell ⟨w.heap.size, 6, none⟩ (.slice (some ⟨p2, 0, none⟩) VV.length VV.length)).heap[w.heap.size]? = some (.cells #[.int .i64 level, .string low, .string high, .bool last, .int .i64 next, .slice (some ⟨p1, 0, none⟩) KK.length KK.length, .slice (some ⟨p2, 0, none⟩) VV.length VV.length, .slice C kids.length cc] 26 (0, 0)) := by simp [World.setCell, Array.getElem?_modify, hbx]
      have hk1 := (hO.block p1 (Array.getElem?_eq_some_iff.1 H3.out.2.2.1).1 (by simp only []; omega)).trans H3.out.2.2.1
      have hk2 := (hO.block p2 (Array.getElem?_eq_some_iff.1 H3.out.2.2.2.2.1).1 (by simp only []; omega)).trans H3.out.2.2.2.2.1
      have H4 := Lib.hid (And.intro hres (And.intro hb2 (And.intro hk1 (And.intro hk2 (And.intro hbel hd)))))
      clear hO hd hsz hbel hres hb2 hk1 hk2 hbx H3 x0 x1 x2 x3 x4 x5 x6 x7 f0 f1 f2 f3 f4 f5 f6 f7
      generalize Z2.setCell _ _ = Z at H4 ⊢
      have hz := H4.out.2.1
      have hr := H4.out.1
      obtain ⟨z0, z1, z2, z3, z4, z5, z6, z7, -, -, -, -, -, -, -, -⟩ := nd_facts hz
      obtain ⟨y0, y1, y2, y3, y4, y5, y6, y7, q0, q1, q2, q3, q4, q5, q6, q7⟩ := nd_facts hr
      clear hz hr
      have h8 := set8_below H4.out.2.2.2.2.1 (w.heap.size + 1) (Nat.le_succ _) (.int .i64 level) (.string low) (.string high) (.bool last) (.int .i64 next) (.slice (some ⟨p1, 0, none⟩) KK.length KK.length) (.slice (some ⟨p2, 0, none⟩) VV.length VV.length) (.slice C kids.length cc)
      have ho8 := set8_off Z (w.heap.size + 1) (.int .i64 level) (.string low) (.string high) (.bool last) (.int .i64 next) (.slice (some ⟨p1, 0, none⟩) KK.length KK.length) (.slice (some ⟨p2, 0, none⟩) VV.length VV.length) (.slice C kids.length cc)
      have hL := H00.out.up h8
      have hk1 := (ho8.block p1 (Array.getElem?_eq_some_iff.1 H4.out.2.2.1).1 (by have := H4.out.2.2.2.2.2; omega)).trans H4.out.2.2.1
      have hk2 := (ho8.block p2 (Array.getElem?_eq_some_iff.1 H4.out.2.2.2.1).1 (by have := H4.out.2.2.2.2.2; omega)).trans H4.out.2.2.2.1
      have hlies : Lies (set8 Z (w.heap.size + 1) (.int .i64 level) (.string low) (.string high) (.bool last) (.int .i64 next) (.slice (some ⟨p1, 0, none⟩) KK.length KK.length) (.slice (some ⟨p2, 0, none⟩) VV.length VV.length) (.slice C kids.length cc)) ⟨level, low, high, last, next, KK, VV, kids⟩ (some ⟨p1, 0, none⟩) (some ⟨p2, 0, none⟩) C KK.length VV.length cc :=
        { low := hL.low, high := hL.high, fit := HW.out.2.2.2.2, la := by have := HW.out.1; have := HI.out; simp only []; omega, lb := by have := HW.out.2.1; have := HI.out; simp only []; omega, lc := hL.lc
          keys := by have := Rd.new hk1; rw [strs_length] at this; exact this
          vals := by have := Rd.new hk2; rw [u64s_length] at this; exact this
          kids := hL.kids
          ka := Nat.le_refl _, kb := Nat.le_refl _, kc := hL.kc }
      simp only [set8] at h8 hlies
      have HFI := Lib.hid (And.intro h8 hlies)
      clear h8 ho8 hL hk1 hk2 hlies
      go_wp2_with fail
      exact bodyPost_ret (v := .tuple #[.agg #[.int .i64 level, .string low, .string high, .bool last, .int .i64 next, .slice (some ⟨p1, 0, none⟩) KK.length KK.length, .slice (some ⟨p2, 0, none⟩) VV.length VV.length, .slice C kids.length cc], .bool true]) (by simp [results, Try.results31, go_sem, *]) rfl ⟨_, _, _, _, _, _, by simp [ndCells], HFI.out.2, HFI.out.1, fun a e => (by injection e with e; subst e; have := H4.out.2.2.2.2.2; simp only []; omega), fun a e => (by injection e with e; subst e; have := H4.out.2.2.2.2.2; simp only []; omega)⟩
  · have h1f : leafB d = false := by simpa using h1
    rw [h1f] at HLf
    rw [withoutD_leaf h1f]
    clear h h1 h1f
    generalize atD d k = i at HF
    generalize hasD d k = hs at HF
    obtain ⟨level, low, high, last, next, keys, vals, kids⟩ := d
    simp only [ndCells] at HT HLf ⊢
    go_enter Try.func31, Try.ntmps31
    go_upto_region 1 with fail
    generalize (w.alloc _).alloc _ = W at HT ⊢
    have hbx := HT.out.box
    simp only [ndCells] at hbx
    obtain ⟨x0, x1, x2, x3, x4, x5, x6, x7, -, -, -, -, -, -, -, -⟩ := nd_facts hbx
    clear hbx
    go_wp2_with fail
    refine (HF.out _ HT.out.lies).mono ?_
    rintro e W ⟨rfl, hbn⟩
    clear x0 x1 x2 x3 x4 x5 x6 x7
    replace HT := Lib.hid (HT.out.up hbn)
    clear hbn
    have hbx := HT.out.box
    simp only [ndCells] at hbx
    obtain ⟨x0, x1, x2, x3, x4, x5, x6, x7, -, -, -, -, -, -, -, -⟩ := nd_facts hbx
    clear hbx
    go_wp2_with fail
    refine (HLf.out _ HT.out.lies).mono ?_
    rintro e W ⟨rfl, hbn⟩
    clear x0 x1 x2 x3 x4 x5 x6 x7
    replace HT := Lib.hid (HT.out.up hbn)
    clear hbn
    have hrs := HT.out.res
    obtain ⟨y0, y1, y2, y3, y4, y5, y6, y7, q0, q1, q2, q3, q4, q5, q6, q7⟩ := nd_facts hrs
    clear hrs
    have hz := set8_below HT.out.bel (w.heap.size + 1) (Nat.le_succ _) (.int .i64 0) (.string ⟨#[]⟩) (.string ⟨#[]⟩) (.bool false) (.int .i64 0) (.slice none 0 0) (.slice none 0 0) (.slice none 0 0)
    simp only [set8] at hz
    have HZ := Lib.hid hz
    clear hz
    go_wp2_with fail
    exact bodyPost_ret (v := .tuple #[.agg #[.int .i64 0, .string ⟨#[]⟩, .string ⟨#[]⟩, .bool false, .int .i64 0, .slice none 0 0, .slice none 0 0, .slice none 0 0], .bool false]) (by simp [results, Try.results31, go_sem, *]) rfl ⟨none, none, none, 0, 0, 0, rfl, zero_lies _, HZ.out, fun a e => (by cases e), fun a e => (by cases e)⟩

end Go.Proofs.Ytcoiadncennhpaa
