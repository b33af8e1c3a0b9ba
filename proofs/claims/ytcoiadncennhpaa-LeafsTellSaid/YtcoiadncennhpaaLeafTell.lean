/- The law LeafsTell: the walk. -/
import Derived.Test.YtcoiadncennhpaaLeafTell0
import Derived.Test.YtcoiadncennhpaaLeafLives2
namespace Go.Proofs.Ytcoiadncennhpaa
open Go.RowKit

theorem scanL_le (r : List PairD) (low high : List UInt8) (limit : Int) : (Pl.scanL r low high limit).length ≤ r.length := by
  unfold Pl.scanL
  rw [List.length_take]
  have := List.length_filter_le (Pl.withinB low high) r
  omega
set_option maxRecDepth 100000 in
set_option maxHeartbeats 16000000 in
theorem leafstell_any (d : Nd) (k high : ByteArray) (limit : Int) (A B C : Option Addr) (ca cb cc : Nat) (w : World) (h : Lies w d A B C ca cb cc) (hk : k.size ≤ maxLen) (hhi : high.size ≤ maxLen) :
    Calls Try.prog 9 #[.agg (ndCells d A B C ca cb cc), .string k, .string high, .int .i64 limit] w (Ret (.bool true) w) := by
  have H00 := Lib.hid h
  have hS := Lib.hid ((Sx.start0 w).alloc (.cells (ndCells d A B C ca cb cc) 26))
  have HLi := Lib.hid (fun W hW => lightN_any d A B C ca cb cc W hW)
  have hks : k.size ≤ 9223372036854775807 := hk
  have hhs : high.size ≤ 9223372036854775807 := hhi
  have hfit : FitP (Pl.zipP d.keys d.vals) := fun p hp => by
    obtain ⟨j, hj, rfl⟩ := List.getElem_of_mem hp
    have h1 := zip_min d.keys d.vals
    have h2 := Nat.min_le_left d.keys.length d.vals.length
    have h3 := Nat.min_le_right d.keys.length d.vals.length
    rw [Pl.zipP_at j (by omega) (by omega) hj]
    exact h.fit j (by omega)
  clear h
  cases hli : lightN d
  · rw [hli] at HLi
    clear hli
    obtain ⟨level, nlow, nhigh, last, next, keys, vals, kids⟩ := d
    simp only [ndCells, List.nil_append] at hS HLi ⊢
    go_enter Try.func9, Try.ntmps9
    go_upto_region 1 with fail
    generalize w.alloc _ = W at hS ⊢
    obtain ⟨x0, x1, x2, x3, x4, x5, x6, x7, f0, f1, f2, f3, f4, f5, f6, f7⟩ := nd_facts (hS.out.has 0 _ _ rfl).1
    go_wp2_with fail
    refine (HLi.out _ (H00.out.up hS.out.below)).mono ?_
    rintro e wn ⟨rfl, hbn⟩
    clear x0 x1 x2 x3 x4 x5 x6 x7 f0 f1 f2 f3 f4 f5 f6 f7
    replace hS := Lib.hid (hS.out.call hbn)
    clear hbn
    go_wp2_with fail
    refine (lives11_any _).mono ?_
    rintro e w9 ⟨rfl, hb9⟩
    have HB9 := Lib.hid (hS.out.call hb9).below
    go_wp2_with fail
    go_ret
    exact ⟨rfl, HB9.out⟩
  · rw [hli] at HLi
    by_cases hk100 : 100 < k.size
    · have hk100' : decide ((100 : Int) < (k.size : Int)) = true := decide_eq_true (by omega)
      clear hli hk100
      obtain ⟨level, nlow, nhigh, last, next, keys, vals, kids⟩ := d
      simp only [ndCells, List.nil_append] at hS HLi ⊢
      go_enter Try.func9, Try.ntmps9
      go_upto_region 1 with fail
      generalize w.alloc _ = W at hS ⊢
      obtain ⟨x0, x1, x2, x3, x4, x5, x6, x7, f0, f1, f2, f3, f4, f5, f6, f7⟩ := nd_facts (hS.out.has 0 _ _ rfl).1
      go_wp2_with fail
      refine (HLi.out _ (H00.out.up hS.out.below)).mono ?_
      rintro e wn ⟨rfl, hbn⟩
      clear x0 x1 x2 x3 x4 x5 x6 x7 f0 f1 f2 f3 f4 f5 f6 f7
      replace hS := Lib.hid (hS.out.call hbn)
      clear hbn
      go_wp2_with fail
      refine (lives11_any _).mono ?_
      rintro e w9 ⟨rfl, hb9⟩
      have HB9 := Lib.hid (hS.out.call hb9).below
      go_wp2_with fail
      go_ret
      exact ⟨rfl, HB9.out⟩
    · have hk100' : decide ((100 : Int) < (k.size : Int)) = false := decide_eq_false (by omega)
      clear hk100
      by_cases hh100 : 100 < high.size
      · have hh100' : decide ((100 : Int) < (high.size : Int)) = true := decide_eq_true (by omega)
        clear hli hh100
        obtain ⟨level, nlow, nhigh, last, next, keys, vals, kids⟩ := d
        simp only [ndCells, List.nil_append] at hS HLi ⊢
        go_enter Try.func9, Try.ntmps9
        go_upto_region 1 with fail
        generalize w.alloc _ = W at hS ⊢
        obtain ⟨x0, x1, x2, x3, x4, x5, x6, x7, f0, f1, f2, f3, f4, f5, f6, f7⟩ := nd_facts (hS.out.has 0 _ _ rfl).1
        go_wp2_with fail
        refine (HLi.out _ (H00.out.up hS.out.below)).mono ?_
        rintro e wn ⟨rfl, hbn⟩
        clear x0 x1 x2 x3 x4 x5 x6 x7 f0 f1 f2 f3 f4 f5 f6 f7
        replace hS := Lib.hid (hS.out.call hbn)
        clear hbn
        go_wp2_with fail
        refine (lives11_any _).mono ?_
        rintro e w9 ⟨rfl, hb9⟩
        have HB9 := Lib.hid (hS.out.call hb9).below
        go_wp2_with fail
        go_ret
        exact ⟨rfl, HB9.out⟩
      · have hh100' : decide ((100 : Int) < (high.size : Int)) = false := decide_eq_false (by omega)
        clear hh100
        have hlen : d.keys.length ≤ 1000 := by have := (lightN_spec hli).2.1; omega
        clear hli
        have HSc := Lib.hid (fun W hW => leafscan_any d k high limit A B C ca cb cc W hW hlen hk hhi)
        have HPa := Lib.hid (fun W hW => leafpairs_any d A B C ca cb cc W hW hlen)
        have HLe := Lib.hid (fun W hW => refleaf_any d A B C ca cb cc W hW)
        cases hlf : leafB d
        · rw [hlf] at HLe
          have HN := Lib.hid (fun W hW => leafnext_no d k A B C ca cb cc W hW hlf)
          have HP0 := Lib.hid (fun W hW => leafprev_no d k false A B C ca cb cc W hW hlf)
          have HP1 := Lib.hid (fun W hW => leafprev_no d k true A B C ca cb cc W hW hlf)
          simp only [pairV, prCells, Pl.zeroP, Option.getD_none, Option.isSome_none] at HN HP0 HP1
          generalize Pl.zipP d.keys d.vals = r at HSc HPa
          generalize (decide (((Pl.scanL r k.data.toList high.data.toList limit).length : Int) < limit) && !d.last && !Pl.ls high.data.toList d.high.data.toList) = mb at HSc
          generalize Pl.scanL r k.data.toList high.data.toList limit = l at HSc
          clear hlf hlen
          obtain ⟨level, nlow, nhigh, last, next, keys, vals, kids⟩ := d
          simp only [ndCells] at HN HP0 HP1 HSc HPa HLe
          simp only [ndCells, List.nil_append] at hS HLi ⊢
          go_enter Try.func9, Try.ntmps9
          go_upto_region 1 with fail
          generalize w.alloc _ = W at hS ⊢
          obtain ⟨x0, x1, x2, x3, x4, x5, x6, x7, f0, f1, f2, f3, f4, f5, f6, f7⟩ := nd_facts (hS.out.has 0 _ _ rfl).1
          go_wp2_with fail
          refine (HLi.out _ (H00.out.up hS.out.below)).mono ?_
          rintro e wn ⟨rfl, hbn⟩
          clear x0 x1 x2 x3 x4 x5 x6 x7 f0 f1 f2 f3 f4 f5 f6 f7
          replace hS := Lib.hid (hS.out.call hbn)
          clear hbn
          obtain ⟨x0, x1, x2, x3, x4, x5, x6, x7, f0, f1, f2, f3, f4, f5, f6, f7⟩ := nd_facts (hS.out.has 0 _ _ rfl).1
          go_wp2_with fail
          refine (HN.out _ (H00.out.up hS.out.below)).mono ?_
          rintro e wn ⟨rfl, hbn⟩
          clear x0 x1 x2 x3 x4 x5 x6 x7 f0 f1 f2 f3 f4 f5 f6 f7
          have hZ := (hS.out.call hbn).alloc (.cells (#[.string ⟨#[]⟩, .int .u64 0]) 48)
          simp only [List.cons_append, List.nil_append] at hZ
          clear hbn hS
          go_upto_region 4 with fail
          generalize wn.alloc _ = W at hZ ⊢
          generalize wn.heap.size = g1 at hZ ⊢
          have hS := Lib.hid hZ
          clear hZ
          obtain ⟨x0, x1, x2, x3, x4, x5, x6, x7, f0, f1, f2, f3, f4, f5, f6, f7⟩ := nd_facts (hS.out.has 0 _ _ rfl).1
          go_wp2_with fail
          refine (HP0.out _ (H00.out.up hS.out.below)).mono ?_
          rintro e wn ⟨rfl, hbn⟩
          clear x0 x1 x2 x3 x4 x5 x6 x7 f0 f1 f2 f3 f4 f5 f6 f7
          have hZ := (hS.out.call hbn).alloc (.cells (#[.string ⟨#[]⟩, .int .u64 0]) 48)
          simp only [List.cons_append, List.nil_append] at hZ
          clear hbn hS
          go_upto_region 5 with fail
          generalize wn.alloc _ = W at hZ ⊢
          generalize wn.heap.size = g2 at hZ ⊢
          have hS := Lib.hid hZ
          clear hZ
          obtain ⟨x0, x1, x2, x3, x4, x5, x6, x7, f0, f1, f2, f3, f4, f5, f6, f7⟩ := nd_facts (hS.out.has 0 _ _ rfl).1
          go_wp2_with fail
          refine (HP1.out _ (H00.out.up hS.out.below)).mono ?_
          rintro e wn ⟨rfl, hbn⟩
          clear x0 x1 x2 x3 x4 x5 x6 x7 f0 f1 f2 f3 f4 f5 f6 f7
          have hZ := (hS.out.call hbn).alloc (.cells (#[.string ⟨#[]⟩, .int .u64 0]) 48)
          simp only [List.cons_append, List.nil_append] at hZ
          clear hbn hS
          go_upto_region 6 with fail
          generalize wn.alloc _ = W at hZ ⊢
          generalize wn.heap.size = g3 at hZ ⊢
          have hS := Lib.hid hZ
          clear hZ
          obtain ⟨x0, x1, x2, x3, x4, x5, x6, x7, f0, f1, f2, f3, f4, f5, f6, f7⟩ := nd_facts (hS.out.has 0 _ _ rfl).1
          go_wp2_with fail
          refine (HSc.out _ (H00.out.up hS.out.below)).mono ?_
          rintro e wn ⟨As, rfl, hps, hbn⟩
          clear x0 x1 x2 x3 x4 x5 x6 x7 f0 f1 f2 f3 f4 f5 f6 f7
          have HQ1 := Lib.hid hps
          replace hS := Lib.hid (hS.out.call hbn)
          clear hbn hps
          obtain ⟨x0, x1, x2, x3, x4, x5, x6, x7, f0, f1, f2, f3, f4, f5, f6, f7⟩ := nd_facts (hS.out.has 0 _ _ rfl).1
          go_wp2_with fail
          refine (HPa.out _ (H00.out.up hS.out.below)).mono ?_
          rintro e wm ⟨Aa, caa, rfl, hown, hbn⟩
          clear x0 x1 x2 x3 x4 x5 x6 x7 f0 f1 f2 f3 f4 f5 f6 f7
          have HQ2 := Lib.hid (prs_of_own hown rfl)
          replace HQ1 := Lib.hid (HQ1.out.up hbn)
          replace hS := Lib.hid (hS.out.call hbn)
          clear hbn hown
          obtain ⟨x0, x1, x2, x3, x4, x5, x6, x7, f0, f1, f2, f3, f4, f5, f6, f7⟩ := nd_facts (hS.out.has 0 _ _ rfl).1
          go_wp2_with fail
          refine (HLe.out _ (H00.out.up hS.out.below)).mono ?_
          rintro e wq ⟨rfl, hbn⟩
          clear x0 x1 x2 x3 x4 x5 x6 x7 f0 f1 f2 f3 f4 f5 f6 f7
          replace HQ1 := Lib.hid (HQ1.out.up hbn)
          replace HQ2 := Lib.hid (HQ2.out.up hbn)
          replace hS := Lib.hid (hS.out.call hbn)
          clear hbn
          obtain ⟨x0, x1, x2, x3, x4, x5, x6, x7, f0, f1, f2, f3, f4, f5, f6, f7⟩ := nd_facts (hS.out.has 0 _ _ rfl).1
          obtain ⟨y0, y1, -, -⟩ := pr_facts (hS.out.has 1 _ _ rfl).1
          obtain ⟨z0, z1, -, -⟩ := pr_facts (hS.out.has 2 _ _ rfl).1
          go_wp2_with fail
          refine (lives11_any _).mono ?_
          rintro e w9 ⟨rfl, hb9⟩
          have HB9 := Lib.hid (hS.out.call hb9).below
          go_wp2_with fail
          go_ret
          exact ⟨rfl, HB9.out⟩
        · rw [hlf] at HLe
          have hl2 := leaf_len hlf
          have hzl := Pl.zipP_len hl2.2.1.symm
          have hll := scanL_le (Pl.zipP d.keys d.vals) k.data.toList high.data.toList limit
          have HN := Lib.hid (fun W hW => leafnext_yes d k A B C ca cb cc W hW hk hlf)
          have HP0 := Lib.hid (fun W hW => leafprev_yes d k A B C ca cb cc W hW hk hlf)
          have HP1 := Lib.hid (fun W hW => leaflast_yes d k A B C ca cb cc W hW hlf)
          have HRp := Lib.hid (fun W hW => refpairs_any d A B C ca cb cc W hW hl2.2.1 hlen)
          have HNx := Lib.hid (fun A c W hW => next06_any A c (Pl.zipP d.keys d.vals) k W hW (by omega) hfit hk)
          have HPx := Lib.hid (fun A c W hW => prev06_any A c (Pl.zipP d.keys d.vals) k false W hW (by omega) hfit hk)
          have HPy := Lib.hid (fun A c W hW => prev06_any A c (Pl.zipP d.keys d.vals) k true W hW (by omega) hfit hk)
          have HSx := Lib.hid (fun A c W hW => scan06_any A c (Pl.zipP d.keys d.vals) k high limit W hW hfit (by omega) hk hhi)
          have HMo := Lib.hid (fun W hW => refmore_any d (Pl.scanL (Pl.zipP d.keys d.vals) k.data.toList high.data.toList limit).length high limit A B C ca cb cc W hW hhi)
          rw [tell_all hlf] at HSx
          rw [tell_next hlf] at HNx
          rw [tell_prev hlf] at HPx
          rw [tell_last hlf] at HPy
          simp only [pairV, prCells] at HN HP0 HP1 HNx HPx HPy
          generalize (decide (((Pl.scanL (Pl.zipP d.keys d.vals) k.data.toList high.data.toList limit).length : Int) < limit) && !d.last && !Pl.ls high.data.toList d.high.data.toList) = mb at HSc HMo
          generalize Pl.scanL (Pl.zipP d.keys d.vals) k.data.toList high.data.toList limit = l at HSc HSx HMo hll
          generalize atO (Pl.zipP d.keys d.vals) (Pl.overAt d.keys k.data.toList : Nat) = o1 at HN HNx
          generalize atO (Pl.zipP d.keys d.vals) ((Pl.findAt d.keys k.data.toList : Nat) - 1 : Int) = o2 at HP0 HPx
          generalize atO (Pl.zipP d.keys d.vals) ((d.keys.length : Nat) - 1 : Int) = o3 at HP1 HPy
          generalize o1.getD Pl.zeroP = p1 at HN HNx
          generalize o1.isSome = b1 at HN HNx
          generalize o2.getD Pl.zeroP = p2 at HP0 HPx
          generalize o2.isSome = b2 at HP0 HPx
          generalize o3.getD Pl.zeroP = p3 at HP1 HPy
          generalize o3.isSome = b3 at HP1 HPy
          generalize Pl.zipP d.keys d.vals = r at HSc HPa HRp HNx HPx HPy HSx hll hzl
          have hll2 : l.length ≤ 9223372036854775807 := by omega
          have hrl2 : r.length ≤ 9223372036854775807 := by omega
          have HSm := Lib.hid (fun (ss : List PairD) A B c d W h k (hn : ss.length ≤ 9223372036854775807) => Ret.to (same06_any A B ss.length c ss.length d ss ss W h k hn) (congrArg Value.bool (decide_eq_true rfl)))
          clear hlf hlen hl2 hzl hll hfit
          obtain ⟨level, nlow, nhigh, last, next, keys, vals, kids⟩ := d
          simp only [ndCells] at HN HP0 HP1 HSc HPa HLe HRp HMo
          simp only [ndCells, List.nil_append] at hS HLi ⊢
          go_enter Try.func9, Try.ntmps9
          go_upto_region 1 with fail
          generalize w.alloc _ = W at hS ⊢
          obtain ⟨x0, x1, x2, x3, x4, x5, x6, x7, f0, f1, f2, f3, f4, f5, f6, f7⟩ := nd_facts (hS.out.has 0 _ _ rfl).1
          go_wp2_with fail
          refine (HLi.out _ (H00.out.up hS.out.below)).mono ?_
          rintro e wn ⟨rfl, hbn⟩
          clear x0 x1 x2 x3 x4 x5 x6 x7 f0 f1 f2 f3 f4 f5 f6 f7
          replace hS := Lib.hid (hS.out.call hbn)
          clear hbn
          obtain ⟨x0, x1, x2, x3, x4, x5, x6, x7, f0, f1, f2, f3, f4, f5, f6, f7⟩ := nd_facts (hS.out.has 0 _ _ rfl).1
          go_wp2_with fail
          refine (HN.out _ (H00.out.up hS.out.below)).mono ?_
          rintro e wn ⟨rfl, hbn⟩
          clear x0 x1 x2 x3 x4 x5 x6 x7 f0 f1 f2 f3 f4 f5 f6 f7
          have hZ := (hS.out.call hbn).alloc (.cells (#[.string p1.key, .int .u64 p1.val]) 48)
          simp only [List.cons_append, List.nil_append] at hZ
          clear hbn hS
          go_upto_region 4 with fail
          generalize wn.alloc _ = W at hZ ⊢
          generalize wn.heap.size = g1 at hZ ⊢
          have hS := Lib.hid hZ
          clear hZ
          obtain ⟨x0, x1, x2, x3, x4, x5, x6, x7, f0, f1, f2, f3, f4, f5, f6, f7⟩ := nd_facts (hS.out.has 0 _ _ rfl).1
          go_wp2_with fail
          refine (HP0.out _ (H00.out.up hS.out.below)).mono ?_
          rintro e wn ⟨rfl, hbn⟩
          clear x0 x1 x2 x3 x4 x5 x6 x7 f0 f1 f2 f3 f4 f5 f6 f7
          have hZ := (hS.out.call hbn).alloc (.cells (#[.string p2.key, .int .u64 p2.val]) 48)
          simp only [List.cons_append, List.nil_append] at hZ
          clear hbn hS
          go_upto_region 5 with fail
          generalize wn.alloc _ = W at hZ ⊢
          generalize wn.heap.size = g2 at hZ ⊢
          have hS := Lib.hid hZ
          clear hZ
          obtain ⟨x0, x1, x2, x3, x4, x5, x6, x7, f0, f1, f2, f3, f4, f5, f6, f7⟩ := nd_facts (hS.out.has 0 _ _ rfl).1
          go_wp2_with fail
          refine (HP1.out _ (H00.out.up hS.out.below)).mono ?_
          rintro e wn ⟨rfl, hbn⟩
          clear x0 x1 x2 x3 x4 x5 x6 x7 f0 f1 f2 f3 f4 f5 f6 f7
          have hZ := (hS.out.call hbn).alloc (.cells (#[.string p3.key, .int .u64 p3.val]) 48)
          simp only [List.cons_append, List.nil_append] at hZ
          clear hbn hS
          go_upto_region 6 with fail
          generalize wn.alloc _ = W at hZ ⊢
          generalize wn.heap.size = g3 at hZ ⊢
          have hS := Lib.hid hZ
          clear hZ
          obtain ⟨x0, x1, x2, x3, x4, x5, x6, x7, f0, f1, f2, f3, f4, f5, f6, f7⟩ := nd_facts (hS.out.has 0 _ _ rfl).1
          go_wp2_with fail
          refine (HSc.out _ (H00.out.up hS.out.below)).mono ?_
          rintro e wn ⟨As, rfl, hps, hbn⟩
          clear x0 x1 x2 x3 x4 x5 x6 x7 f0 f1 f2 f3 f4 f5 f6 f7
          have HQ1 := Lib.hid hps
          replace hS := Lib.hid (hS.out.call hbn)
          clear hbn hps
          obtain ⟨x0, x1, x2, x3, x4, x5, x6, x7, f0, f1, f2, f3, f4, f5, f6, f7⟩ := nd_facts (hS.out.has 0 _ _ rfl).1
          go_wp2_with fail
          refine (HPa.out _ (H00.out.up hS.out.below)).mono ?_
          rintro e wm ⟨Aa, caa, rfl, hown, hbn⟩
          clear x0 x1 x2 x3 x4 x5 x6 x7 f0 f1 f2 f3 f4 f5 f6 f7
          have HQ2 := Lib.hid (prs_of_own hown rfl)
          replace HQ1 := Lib.hid (HQ1.out.up hbn)
          replace hS := Lib.hid (hS.out.call hbn)
          clear hbn hown
          obtain ⟨x0, x1, x2, x3, x4, x5, x6, x7, f0, f1, f2, f3, f4, f5, f6, f7⟩ := nd_facts (hS.out.has 0 _ _ rfl).1
          go_wp2_with fail
          refine (HLe.out _ (H00.out.up hS.out.below)).mono ?_
          rintro e wq ⟨rfl, hbn⟩
          clear x0 x1 x2 x3 x4 x5 x6 x7 f0 f1 f2 f3 f4 f5 f6 f7
          replace HQ1 := Lib.hid (HQ1.out.up hbn)
          replace HQ2 := Lib.hid (HQ2.out.up hbn)
          replace hS := Lib.hid (hS.out.call hbn)
          clear hbn
          obtain ⟨x0, x1, x2, x3, x4, x5, x6, x7, f0, f1, f2, f3, f4, f5, f6, f7⟩ := nd_facts (hS.out.has 0 _ _ rfl).1
          go_wp2_with fail
          refine (HRp.out _ (H00.out.up hS.out.below)).mono ?_
          rintro e wa ⟨Ar, cr, rfl, hown, hbn⟩
          clear x0 x1 x2 x3 x4 x5 x6 x7 f0 f1 f2 f3 f4 f5 f6 f7
          have HQ3 := Lib.hid (prs_of_own hown rfl)
          replace HQ1 := Lib.hid (HQ1.out.up hbn)
          replace HQ2 := Lib.hid (HQ2.out.up hbn)
          replace hS := Lib.hid (hS.out.call hbn)
          clear hbn hown
          obtain ⟨x0, x1, x2, x3, x4, x5, x6, x7, f0, f1, f2, f3, f4, f5, f6, f7⟩ := nd_facts (hS.out.has 0 _ _ rfl).1
          go_wp2_with fail
          refine (HNx.out _ _ _ HQ3.out).mono ?_
          rintro e wn ⟨rfl, hbn⟩
          clear x0 x1 x2 x3 x4 x5 x6 x7 f0 f1 f2 f3 f4 f5 f6 f7
          replace HQ1 := Lib.hid (HQ1.out.up hbn)
          replace HQ2 := Lib.hid (HQ2.out.up hbn)
          replace HQ3 := Lib.hid (HQ3.out.up hbn)
          replace hS := Lib.hid (hS.out.call hbn)
          clear hbn
          have hbn := below_alloc wn (.cells (#[.string p1.key, .int .u64 p1.val]) 48)
          have hq1 := HQ1.out.up hbn
          have hq2 := HQ2.out.up hbn
          have hq3 := HQ3.out.up hbn
          have hZ := hS.out.alloc (.cells (#[.string p1.key, .int .u64 p1.val]) 48)
          simp only [List.cons_append, List.nil_append] at hZ
          clear hbn hS HQ1 HQ2 HQ3
          go_upto_region 12 with fail
          generalize wn.alloc _ = W at hZ hq1 hq2 hq3 ⊢
          generalize wn.heap.size = g4 at hZ ⊢
          have hS := Lib.hid hZ
          have HQ1 := Lib.hid hq1
          have HQ2 := Lib.hid hq2
          have HQ3 := Lib.hid hq3
          clear hZ hq1 hq2 hq3
          obtain ⟨x0, x1, x2, x3, x4, x5, x6, x7, f0, f1, f2, f3, f4, f5, f6, f7⟩ := nd_facts (hS.out.has 0 _ _ rfl).1
          go_wp2_with fail
          refine (HPx.out _ _ _ HQ3.out).mono ?_
          rintro e wn ⟨rfl, hbn⟩
          clear x0 x1 x2 x3 x4 x5 x6 x7 f0 f1 f2 f3 f4 f5 f6 f7
          replace HQ1 := Lib.hid (HQ1.out.up hbn)
          replace HQ2 := Lib.hid (HQ2.out.up hbn)
          replace HQ3 := Lib.hid (HQ3.out.up hbn)
          replace hS := Lib.hid (hS.out.call hbn)
          clear hbn
          have hbn := below_alloc wn (.cells (#[.string p2.key, .int .u64 p2.val]) 48)
          have hq1 := HQ1.out.up hbn
          have hq2 := HQ2.out.up hbn
          have hq3 := HQ3.out.up hbn
          have hZ := hS.out.alloc (.cells (#[.string p2.key, .int .u64 p2.val]) 48)
          simp only [List.cons_append, List.nil_append] at hZ
          clear hbn hS HQ1 HQ2 HQ3
          go_upto_region 13 with fail
          generalize wn.alloc _ = W at hZ hq1 hq2 hq3 ⊢
          generalize wn.heap.size = g5 at hZ ⊢
          have hS := Lib.hid hZ
          have HQ1 := Lib.hid hq1
          have HQ2 := Lib.hid hq2
          have HQ3 := Lib.hid hq3
          clear hZ hq1 hq2 hq3
          obtain ⟨x0, x1, x2, x3, x4, x5, x6, x7, f0, f1, f2, f3, f4, f5, f6, f7⟩ := nd_facts (hS.out.has 0 _ _ rfl).1
          go_wp2_with fail
          refine (HPy.out _ _ _ HQ3.out).mono ?_
          rintro e wn ⟨rfl, hbn⟩
          clear x0 x1 x2 x3 x4 x5 x6 x7 f0 f1 f2 f3 f4 f5 f6 f7
          replace HQ1 := Lib.hid (HQ1.out.up hbn)
          replace HQ2 := Lib.hid (HQ2.out.up hbn)
          replace HQ3 := Lib.hid (HQ3.out.up hbn)
          replace hS := Lib.hid (hS.out.call hbn)
          clear hbn
          have hbn := below_alloc wn (.cells (#[.string p3.key, .int .u64 p3.val]) 48)
          have hq1 := HQ1.out.up hbn
          have hq2 := HQ2.out.up hbn
          have hq3 := HQ3.out.up hbn
          have hZ := hS.out.alloc (.cells (#[.string p3.key, .int .u64 p3.val]) 48)
          simp only [List.cons_append, List.nil_append] at hZ
          clear hbn hS HQ1 HQ2 HQ3
          go_upto_region 14 with fail
          generalize wn.alloc _ = W at hZ hq1 hq2 hq3 ⊢
          generalize wn.heap.size = g6 at hZ ⊢
          have hS := Lib.hid hZ
          have HQ1 := Lib.hid hq1
          have HQ2 := Lib.hid hq2
          have HQ3 := Lib.hid hq3
          clear hZ hq1 hq2 hq3
          obtain ⟨x0, x1, x2, x3, x4, x5, x6, x7, f0, f1, f2, f3, f4, f5, f6, f7⟩ := nd_facts (hS.out.has 0 _ _ rfl).1
          go_wp2_with fail
          refine (HSx.out _ _ _ HQ3.out).mono ?_
          rintro e wb ⟨A5, c5, rfl, hown, hbn⟩
          clear x0 x1 x2 x3 x4 x5 x6 x7 f0 f1 f2 f3 f4 f5 f6 f7
          have HQ4 := Lib.hid (prs_of_own hown rfl)
          replace HQ1 := Lib.hid (HQ1.out.up hbn)
          replace HQ2 := Lib.hid (HQ2.out.up hbn)
          replace HQ3 := Lib.hid (HQ3.out.up hbn)
          replace hS := Lib.hid (hS.out.call hbn)
          clear hbn hown HQ3
          obtain ⟨x0, x1, x2, x3, x4, x5, x6, x7, f0, f1, f2, f3, f4, f5, f6, f7⟩ := nd_facts (hS.out.has 0 _ _ rfl).1
          obtain ⟨y0, y1, -, -⟩ := pr_facts (hS.out.has 1 _ _ rfl).1
          obtain ⟨y2, y3, -, -⟩ := pr_facts (hS.out.has 2 _ _ rfl).1
          obtain ⟨y4, y5, -, -⟩ := pr_facts (hS.out.has 3 _ _ rfl).1
          obtain ⟨z0, z1, -, -⟩ := pr_facts (hS.out.has 4 _ _ rfl).1
          obtain ⟨z2, z3, -, -⟩ := pr_facts (hS.out.has 5 _ _ rfl).1
          obtain ⟨z4, z5, -, -⟩ := pr_facts (hS.out.has 6 _ _ rfl).1
          go_wp2_with fail
          refine (HRp.out _ (H00.out.up hS.out.below)).mono ?_
          rintro e wc ⟨A6, c6, rfl, hown, hbn⟩
          clear x0 x1 x2 x3 x4 x5 x6 x7 f0 f1 f2 f3 f4 f5 f6 f7
          clear y0 y1 y2 y3 y4 y5 z0 z1 z2 z3 z4 z5
          have HQ3 := Lib.hid (prs_of_own hown rfl)
          replace HQ1 := Lib.hid (HQ1.out.up hbn)
          replace HQ2 := Lib.hid (HQ2.out.up hbn)
          replace HQ4 := Lib.hid (HQ4.out.up hbn)
          replace hS := Lib.hid (hS.out.call hbn)
          clear hbn hown
          go_wp2_with fail
          refine (HSm.out r _ _ _ _ _ HQ2.out HQ3.out hrl2).mono ?_
          rintro e wd ⟨rfl, hbn⟩
          replace HQ1 := Lib.hid (HQ1.out.up hbn)
          replace HQ4 := Lib.hid (HQ4.out.up hbn)
          replace hS := Lib.hid (hS.out.call hbn)
          clear hbn
          go_wp2_with fail
          refine (HSm.out l _ _ _ _ _ HQ1.out HQ4.out hll2).mono ?_
          rintro e we ⟨rfl, hbn⟩
          replace hS := Lib.hid (hS.out.call hbn)
          clear hbn
          obtain ⟨x0, x1, x2, x3, x4, x5, x6, x7, f0, f1, f2, f3, f4, f5, f6, f7⟩ := nd_facts (hS.out.has 0 _ _ rfl).1
          go_wp2_with fail
          refine (HMo.out _ (H00.out.up hS.out.below)).mono ?_
          rintro e wf ⟨rfl, hbn⟩
          clear x0 x1 x2 x3 x4 x5 x6 x7 f0 f1 f2 f3 f4 f5 f6 f7
          replace hS := Lib.hid (hS.out.call hbn)
          clear hbn
          go_wp2_with fail
          refine (lives11_any _).mono ?_
          rintro e w9 ⟨rfl, hb9⟩
          have HB9 := Lib.hid (hS.out.call hb9).below
          go_wp2_with fail
          go_ret
          exact ⟨rfl, HB9.out⟩

end Go.Proofs.Ytcoiadncennhpaa
