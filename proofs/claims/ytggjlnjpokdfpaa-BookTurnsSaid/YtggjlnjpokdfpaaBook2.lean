/- Contracts of package book: read, write, Do. -/
import Derived.Test.YtggjlnjpokdfpaaBook1
namespace Go.Proofs.Ytggjlnjpokdfpaa
open Go.RowKit

set_option maxRecDepth 100000 in
set_option maxHeartbeats 4000000 in
theorem pmmin_any (T : Nat → Prop) (g : Nat) (ks : List ByteArray) (vs : List Int) (A B : Option Addr) (ca cb : Nat) (w : World) (h : MapA T w g ks vs A ca B cb) (hv : ks.length = vs.length) (hl : ks.length ≤ 1000) :
    Calls Try.prog 95 #[.pointer (some ⟨g, 0, none⟩)] w (Ret (pairV (atO (Pl.zipP ks vs) 0)) w) := by
  have HA2 := Lib.hid (fun W hW => pmat_any T g ks vs 0 A B ca cb W hW hv hl)
  have HM := Lib.hid h
  unfold pairV
  clear h hv
  have hS := Lib.hid ((Sx.start0 w).alloc (.cells (prCells Pl.zeroP) 59))
  simp only [prCells, Pl.zeroP, List.nil_append] at hS
  go_enter Try.func95, Try.ntmps95
  go_upto_region 1 with fail
  generalize w.alloc _ = W at hS ⊢
  go_wp2_with fail
  refine (HA2.out _ (HM.out.up hS.out.below)).mono ?_
  rintro e wn ⟨rfl, hbn⟩
  replace hS := Lib.hid (hS.out.call hbn)
  clear hbn
  obtain ⟨y0, y1, q0, q1⟩ := pr_facts (hS.out.has 0 _ _ rfl).1
  simp only [prCells]
  have HZ := Lib.hid ((hS.out.setc 0 rfl 0 (.string ((atO (Pl.zipP ks vs) 0).getD Pl.zeroP).key)).setc 0 rfl 1 (.int .u64 ((atO (Pl.zipP ks vs) 0).getD Pl.zeroP).val)).below
  go_wp2_with fail
  exact bodyPost_ret (v := .tuple #[.agg #[.string ((atO (Pl.zipP ks vs) 0).getD Pl.zeroP).key, .int .u64 ((atO (Pl.zipP ks vs) 0).getD Pl.zeroP).val], .bool (atO (Pl.zipP ks vs) 0).isSome]) (by simp [results, Try.results95, go_sem, *]) rfl ⟨rfl, HZ.out⟩

set_option maxRecDepth 100000 in
set_option maxHeartbeats 16000000 in
theorem bkread_any (T : Nat → Prop) (g : Nat) (ks : List ByteArray) (vs : List Int) (o : OpD) (w : World) (h : MapAt T w g ks vs) (ho : OpOk o) (hl : ks.length ≤ 1000) :
    Calls Try.prog 85 #[.pointer (some ⟨g, 0, none⟩), .agg (opCells o)] w (BkRet T g (readD ks vs o) ks vs w) := by
  have hks : o.key.size ≤ maxLen := ho.key
  have hus : o.upto.size ≤ maxLen := ho.upto
  generalize hda : readD ks vs o = a
  unfold readD at hda
  have HD0 := Lib.hid hda
  have HB := Lib.hid (Bk.start h o)
  have HK := Lib.hid (And.intro hks hus)
  clear hda h ho hks hus
  obtain ⟨kind, key, upto, val, limit⟩ := o
  simp only [] at HD0 HK
  simp only [opCells, zeroA] at HB ⊢
  go_enter Try.func85, Try.ntmps85
  go_upto_region 1 with fail
  generalize (w.alloc _).alloc _ = W at HB ⊢
  obtain ⟨hlen, A, ca, Bb, cb, hM⟩ := HB.out.map
  have HM := Lib.hid hM
  have HLn := Lib.hid hlen
  clear hM hlen
  obtain ⟨x0, x1, x2, x3, x4⟩ := op5_facts HB.out.op
  obtain ⟨y0, y1, y2, y3, q0, q1, q2, q3⟩ := an_facts HB.out.res
  (try simp only [] at x0 x1 x2 x3 x4)
  rcases (show kind = 6 ∨ kind = 7 ∨ kind = 8 ∨ kind = 9 ∨ kind = 10 ∨ (kind ≠ 6 ∧ kind ≠ 7 ∧ kind ≠ 8 ∧ kind ≠ 9 ∧ kind ≠ 10) by omega) with rfl | rfl | rfl | rfl | rfl | hk
  · have hd := HD0.out
    rw [if_pos rfl] at hd
    have HX := Lib.hid (fun W hW => pmmin_any (fun q => T q ∨ q = w.heap.size ∨ q = w.heap.size + 1) g ks vs A Bb ca cb W hW HLn.out hl)
    have HAn := Lib.hid (fun W => ansof_any (atO (Pl.zipP ks vs) (0)) W)
    obtain ⟨ac, ak, av, hof⟩ := ofO_shape (atO (Pl.zipP ks vs) (0))
    rw [hof] at HAn hd
    subst hd
    clear hof HD0
    simp only [anCells, List.length_nil] at HAn
    simp only [pairV] at HX
    generalize atO (Pl.zipP ks vs) (0) = o9 at HX HAn
    go_wp2_with fail
    refine (HX.out _ HM.out).mono ?_
    rintro e wn ⟨rfl, hbn⟩
    clear x0 x1 x2 x3 x4 y0 y1 y2 y3 q0 q1 q2 q3
    replace HB := Lib.hid (HB.out.call hbn)
    clear hbn
    obtain ⟨x0, x1, x2, x3, x4⟩ := op5_facts HB.out.op
    obtain ⟨y0, y1, y2, y3, q0, q1, q2, q3⟩ := an_facts HB.out.res
    (try simp only [] at x0 x1 x2 x3 x4)
    clear HX HM
    go_wp2_with fail
    refine (HAn.out _).mono ?_
    rintro e wn ⟨rfl, hbn⟩
    clear x0 x1 x2 x3 x4 y0 y1 y2 y3 q0 q1 q2 q3
    replace HB := Lib.hid (HB.out.call hbn)
    clear hbn
    obtain ⟨x0, x1, x2, x3, x4⟩ := op5_facts HB.out.op
    obtain ⟨y0, y1, y2, y3, q0, q1, q2, q3⟩ := an_facts HB.out.res
    (try simp only [] at x0 x1 x2 x3 x4)
    have hZ := HB.out.fin ⟨ac, ak, av, []⟩ (own_nilP _ (w.heap.size + 2)) (Nat.le_refl _)
    simp only [set4, anCells, List.length_nil] at hZ
    have HZ := Lib.hid hZ
    clear hZ
    go_wp2_with fail
    exact bodyPost_ret (v := .agg #[.int .i64 ac, .string ak, .int .u64 av, .slice none 0 0]) (by simp [results, Try.results85, go_sem, *]) rfl HZ.out
  · have hd := HD0.out
    rw [if_neg (by omega), if_pos rfl] at hd
    have HX := Lib.hid (fun W hW => pmmax_any (fun q => T q ∨ q = w.heap.size ∨ q = w.heap.size + 1) g ks vs A Bb ca cb W hW HLn.out hl)
    have HAn := Lib.hid (fun W => ansof_any (atO (Pl.zipP ks vs) ((ks.length : Int) - 1)) W)
    obtain ⟨ac, ak, av, hof⟩ := ofO_shape (atO (Pl.zipP ks vs) ((ks.length : Int) - 1))
    rw [hof] at HAn hd
    subst hd
    clear hof HD0
    simp only [anCells, List.length_nil] at HAn
    simp only [pairV] at HX
    generalize atO (Pl.zipP ks vs) ((ks.length : Int) - 1) = o9 at HX HAn
    go_wp2_with fail
    refine (HX.out _ HM.out).mono ?_
    rintro e wn ⟨rfl, hbn⟩
    clear x0 x1 x2 x3 x4 y0 y1 y2 y3 q0 q1 q2 q3
    replace HB := Lib.hid (HB.out.call hbn)
    clear hbn
    obtain ⟨x0, x1, x2, x3, x4⟩ := op5_facts HB.out.op
    obtain ⟨y0, y1, y2, y3, q0, q1, q2, q3⟩ := an_facts HB.out.res
    (try simp only [] at x0 x1 x2 x3 x4)
    clear HX HM
    go_wp2_with fail
    refine (HAn.out _).mono ?_
    rintro e wn ⟨rfl, hbn⟩
    clear x0 x1 x2 x3 x4 y0 y1 y2 y3 q0 q1 q2 q3
    replace HB := Lib.hid (HB.out.call hbn)
    clear hbn
    obtain ⟨x0, x1, x2, x3, x4⟩ := op5_facts HB.out.op
    obtain ⟨y0, y1, y2, y3, q0, q1, q2, q3⟩ := an_facts HB.out.res
    (try simp only [] at x0 x1 x2 x3 x4)
    have hZ := HB.out.fin ⟨ac, ak, av, []⟩ (own_nilP _ (w.heap.size + 2)) (Nat.le_refl _)
    simp only [set4, anCells, List.length_nil] at hZ
    have HZ := Lib.hid hZ
    clear hZ
    go_wp2_with fail
    exact bodyPost_ret (v := .agg #[.int .i64 ac, .string ak, .int .u64 av, .slice none 0 0]) (by simp [results, Try.results85, go_sem, *]) rfl HZ.out
  · have hd := HD0.out
    rw [if_neg (by omega), if_neg (by omega), if_pos rfl] at hd
    have HX := Lib.hid (fun W hW => pmnext_any (fun q => T q ∨ q = w.heap.size ∨ q = w.heap.size + 1) g ks vs key A Bb ca cb W hW HLn.out HK.out.1 hl)
    have HAn := Lib.hid (fun W => ansof_any (atO (Pl.zipP ks vs) (nxI ks key)) W)
    obtain ⟨ac, ak, av, hof⟩ := ofO_shape (atO (Pl.zipP ks vs) (nxI ks key))
    rw [hof] at HAn hd
    subst hd
    clear hof HD0
    simp only [anCells, List.length_nil] at HAn
    simp only [pairV] at HX
    generalize atO (Pl.zipP ks vs) (nxI ks key) = o9 at HX HAn
    go_wp2_with fail
    refine (HX.out _ HM.out).mono ?_
    rintro e wn ⟨rfl, hbn⟩
    clear x0 x1 x2 x3 x4 y0 y1 y2 y3 q0 q1 q2 q3
    replace HB := Lib.hid (HB.out.call hbn)
    clear hbn
    obtain ⟨x0, x1, x2, x3, x4⟩ := op5_facts HB.out.op
    obtain ⟨y0, y1, y2, y3, q0, q1, q2, q3⟩ := an_facts HB.out.res
    (try simp only [] at x0 x1 x2 x3 x4)
    clear HX HM
    go_wp2_with fail
    refine (HAn.out _).mono ?_
    rintro e wn ⟨rfl, hbn⟩
    clear x0 x1 x2 x3 x4 y0 y1 y2 y3 q0 q1 q2 q3
    replace HB := Lib.hid (HB.out.call hbn)
    clear hbn
    obtain ⟨x0, x1, x2, x3, x4⟩ := op5_facts HB.out.op
    obtain ⟨y0, y1, y2, y3, q0, q1, q2, q3⟩ := an_facts HB.out.res
    (try simp only [] at x0 x1 x2 x3 x4)
    have hZ := HB.out.fin ⟨ac, ak, av, []⟩ (own_nilP _ (w.heap.size + 2)) (Nat.le_refl _)
    simp only [set4, anCells, List.length_nil] at hZ
    have HZ := Lib.hid hZ
    clear hZ
    go_wp2_with fail
    exact bodyPost_ret (v := .agg #[.int .i64 ac, .string ak, .int .u64 av, .slice none 0 0]) (by simp [results, Try.results85, go_sem, *]) rfl HZ.out
  · have hd := HD0.out
    rw [if_neg (by omega), if_neg (by omega), if_neg (by omega), if_pos rfl] at hd
    have HX := Lib.hid (fun W hW => pmprev_any (fun q => T q ∨ q = w.heap.size ∨ q = w.heap.size + 1) g ks vs key A Bb ca cb W hW HLn.out HK.out.1 hl)
    have HAn := Lib.hid (fun W => ansof_any (atO (Pl.zipP ks vs) ((Pl.findAt ks key.data.toList : Int) - 1)) W)
    obtain ⟨ac, ak, av, hof⟩ := ofO_shape (atO (Pl.zipP ks vs) ((Pl.findAt ks key.data.toList : Int) - 1))
    rw [hof] at HAn hd
    subst hd
    clear hof HD0
    simp only [anCells, List.length_nil] at HAn
    simp only [pairV] at HX
    generalize atO (Pl.zipP ks vs) ((Pl.findAt ks key.data.toList : Int) - 1) = o9 at HX HAn
    go_wp2_with fail
    refine (HX.out _ HM.out).mono ?_
    rintro e wn ⟨rfl, hbn⟩
    clear x0 x1 x2 x3 x4 y0 y1 y2 y3 q0 q1 q2 q3
    replace HB := Lib.hid (HB.out.call hbn)
    clear hbn
    obtain ⟨x0, x1, x2, x3, x4⟩ := op5_facts HB.out.op
    obtain ⟨y0, y1, y2, y3, q0, q1, q2, q3⟩ := an_facts HB.out.res
    (try simp only [] at x0 x1 x2 x3 x4)
    clear HX HM
    go_wp2_with fail
    refine (HAn.out _).mono ?_
    rintro e wn ⟨rfl, hbn⟩
    clear x0 x1 x2 x3 x4 y0 y1 y2 y3 q0 q1 q2 q3
    replace HB := Lib.hid (HB.out.call hbn)
    clear hbn
    obtain ⟨x0, x1, x2, x3, x4⟩ := op5_facts HB.out.op
    obtain ⟨y0, y1, y2, y3, q0, q1, q2, q3⟩ := an_facts HB.out.res
    (try simp only [] at x0 x1 x2 x3 x4)
    have hZ := HB.out.fin ⟨ac, ak, av, []⟩ (own_nilP _ (w.heap.size + 2)) (Nat.le_refl _)
    simp only [set4, anCells, List.length_nil] at hZ
    have HZ := Lib.hid hZ
    clear hZ
    go_wp2_with fail
    exact bodyPost_ret (v := .agg #[.int .i64 ac, .string ak, .int .u64 av, .slice none 0 0]) (by simp [results, Try.results85, go_sem, *]) rfl HZ.out
  · have hd := HD0.out
    rw [if_neg (by omega), if_neg (by omega), if_neg (by omega), if_neg (by omega), if_pos rfl] at hd
    have HX := Lib.hid (fun W hW => pmscan_any (fun q => T q ∨ q = w.heap.size ∨ q = w.heap.size + 1) g ks vs key upto limit A Bb ca cb W hW HLn.out HK.out.1 HK.out.2 hl)
    generalize scanP (Pl.zipP ks vs) (Pl.findAt ks key.data.toList) upto.data.toList limit = l at HX hd
    subst hd
    clear HD0
    go_wp2_with fail
    have HLT := Lib.hid HB.out.lt
    refine (HX.out _ HM.out).mono ?_
    rintro e wn ⟨As, cs, rfl, hown, hbn⟩
    clear x0 x1 x2 x3 x4 y0 y1 y2 y3 q0 q1 q2 q3
    replace HB := Lib.hid (HB.out.call hbn)
    clear hbn HX HM
    obtain ⟨x0, x1, x2, x3, x4⟩ := op5_facts HB.out.op
    obtain ⟨y0, y1, y2, y3, q0, q1, q2, q3⟩ := an_facts HB.out.res
    (try simp only [] at x0 x1 x2 x3 x4)
    have hZ := HB.out.fin ⟨1, ⟨#[]⟩, 0, l⟩ hown HLT.out
    simp only [set4, anCells] at hZ
    have HZ := Lib.hid hZ
    clear hZ hown
    go_wp2_with fail
    exact bodyPost_ret (v := .agg #[.int .i64 1, .string ⟨#[]⟩, .int .u64 0, .slice As l.length cs]) (by simp [results, Try.results85, go_sem, *]) rfl HZ.out
  · have k6 : (kind == (6 : Int)) = false := by rw [beq_eq_false_iff_ne]; exact hk.1
    have k7 : (kind == (7 : Int)) = false := by rw [beq_eq_false_iff_ne]; exact hk.2.1
    have k8 : (kind == (8 : Int)) = false := by rw [beq_eq_false_iff_ne]; exact hk.2.2.1
    have k9 : (kind == (9 : Int)) = false := by rw [beq_eq_false_iff_ne]; exact hk.2.2.2.1
    have k10 : (kind == (10 : Int)) = false := by rw [beq_eq_false_iff_ne]; exact hk.2.2.2.2
    have hd := HD0.out
    rw [if_neg hk.1, if_neg hk.2.1, if_neg hk.2.2.1, if_neg hk.2.2.2.1, if_neg hk.2.2.2.2] at hd
    clear hk HD0
    have HX := Lib.hid (fun W hW => pmget_any (fun q => T q ∨ q = w.heap.size ∨ q = w.heap.size + 1) g ks vs key A Bb ca cb W hW HLn.out HK.out.1 hl)
    generalize mGet ks vs key = q at HX hd
    obtain ⟨gv, gb⟩ := q
    simp only [] at HX
    cases gb
    · obtain rfl : ansV 2 0 = a := hd
      go_wp2_with fail
      refine (HX.out _ HM.out).mono ?_
      rintro e wn ⟨rfl, hbn⟩
      clear x0 x1 x2 x3 x4 y0 y1 y2 y3 q0 q1 q2 q3
      replace HB := Lib.hid (HB.out.call hbn)
      clear hbn
      obtain ⟨x0, x1, x2, x3, x4⟩ := op5_facts HB.out.op
      obtain ⟨y0, y1, y2, y3, q0, q1, q2, q3⟩ := an_facts HB.out.res
      (try simp only [] at x0 x1 x2 x3 x4)
      clear HX HM
      go_wp2_with fail
      refine (bkval_any _ _ _).mono ?_
      rintro e wn ⟨rfl, hbn⟩
      clear x0 x1 x2 x3 x4 y0 y1 y2 y3 q0 q1 q2 q3
      replace HB := Lib.hid (HB.out.call hbn)
      clear hbn
      obtain ⟨x0, x1, x2, x3, x4⟩ := op5_facts HB.out.op
      obtain ⟨y0, y1, y2, y3, q0, q1, q2, q3⟩ := an_facts HB.out.res
      (try simp only [] at x0 x1 x2 x3 x4)
      simp only [ansV]
      have hZ := HB.out.fin ⟨2, ⟨#[]⟩, 0, []⟩ (own_nilP _ (w.heap.size + 2)) (Nat.le_refl _)
      simp only [set4, anCells, List.length_nil] at hZ
      have HZ := Lib.hid hZ
      clear hZ
      go_wp2_with fail
      exact bodyPost_ret (v := .agg #[.int .i64 2, .string ⟨#[]⟩, .int .u64 0, .slice none 0 0]) (by simp [results, Try.results85, go_sem, *]) rfl HZ.out
    · obtain rfl : ansV 1 gv = a := hd
      go_wp2_with fail
      refine (HX.out _ HM.out).mono ?_
      rintro e wn ⟨rfl, hbn⟩
      clear x0 x1 x2 x3 x4 y0 y1 y2 y3 q0 q1 q2 q3
      replace HB := Lib.hid (HB.out.call hbn)
      clear hbn
      obtain ⟨x0, x1, x2, x3, x4⟩ := op5_facts HB.out.op
      obtain ⟨y0, y1, y2, y3, q0, q1, q2, q3⟩ := an_facts HB.out.res
      (try simp only [] at x0 x1 x2 x3 x4)
      clear HX HM
      go_wp2_with fail
      refine (bkval_any _ _ _).mono ?_
      rintro e wn ⟨rfl, hbn⟩
      clear x0 x1 x2 x3 x4 y0 y1 y2 y3 q0 q1 q2 q3
      replace HB := Lib.hid (HB.out.call hbn)
      clear hbn
      obtain ⟨x0, x1, x2, x3, x4⟩ := op5_facts HB.out.op
      obtain ⟨y0, y1, y2, y3, q0, q1, q2, q3⟩ := an_facts HB.out.res
      (try simp only [] at x0 x1 x2 x3 x4)
      simp only [ansV]
      have hZ := HB.out.fin ⟨1, ⟨#[]⟩, gv, []⟩ (own_nilP _ (w.heap.size + 2)) (Nat.le_refl _)
      simp only [set4, anCells, List.length_nil] at hZ
      have HZ := Lib.hid hZ
      clear hZ
      go_wp2_with fail
      exact bodyPost_ret (v := .agg #[.int .i64 1, .string ⟨#[]⟩, .int .u64 gv, .slice none 0 0]) (by simp [results, Try.results85, go_sem, *]) rfl HZ.out

set_option maxRecDepth 100000 in
set_option maxHeartbeats 16000000 in
theorem bkwrite_any (T : Nat → Prop) (g : Nat) (ks : List ByteArray) (vs : List Int) (o : OpD) (w : World) (h : MapAt T w g ks vs) (ho : OpOk o) (hl : ks.length ≤ 1000) (hT : ∀ t, T t → t < w.heap.size) (hkd : 2 ≤ o.kind ∧ o.kind ≤ 5) :
    Calls Try.prog 86 #[.pointer (some ⟨g, 0, none⟩), .agg (opCells o)] w (BkRet T g (writeD ks vs o).1 (writeD ks vs o).2.1 (writeD ks vs o).2.2 w) := by
  have hks : o.key.size ≤ maxLen := ho.key
  generalize hda : writeD ks vs o = dd
  obtain ⟨a, ks', vs'⟩ := dd
  unfold writeD at hda
  have HB := Lib.hid (Bk.start h o)
  have HK := Lib.hid hks
  have HTT := Lib.hid hT
  clear h ho hks hT
  obtain ⟨kind, key, upto, val, limit⟩ := o
  simp only [] at hda HK hkd
  have HD0 := Lib.hid hda
  clear hda
  simp only [opCells, zeroA] at HB ⊢
  go_enter Try.func86, Try.ntmps86
  go_upto_region 1 with fail
  generalize (w.alloc _).alloc _ = W at HB ⊢
  obtain ⟨hlen, A, ca, Bb, cb, hM⟩ := HB.out.map
  have HM := Lib.hid hM
  have HX := Lib.hid (fun W hW => pmget_any (fun q => T q ∨ q = w.heap.size ∨ q = w.heap.size + 1) g ks vs key A Bb ca cb W hW hlen HK.out hl)
  clear hM
  generalize hgm : mGet ks vs key = q at HX HD0
  obtain ⟨gv, gb⟩ := q
  have HGM := Lib.hid hgm
  clear hgm
  simp only [] at HX HD0
  obtain ⟨x0, x1, x2, x3, x4⟩ := op5_facts HB.out.op
  obtain ⟨y0, y1, y2, y3, q0, q1, q2, q3⟩ := an_facts HB.out.res
  (try simp only [] at x0 x1 x2 x3 x4)
  rcases (show kind = 2 ∨ kind = 3 ∨ kind = 4 ∨ kind = 5 by omega) with rfl | rfl | rfl | rfl
  · cases gb
    · have hd := HD0.out
      rw [if_pos rfl, if_neg Bool.false_ne_true] at hd
      injection hd with hd1 hd2
      injection hd2 with hd2 hd3
      subst hd1 hd2 hd3
      clear HD0
      go_wp2_with fail
      refine (HX.out _ HM.out).mono ?_
      rintro e wn ⟨rfl, hbn⟩
      clear x0 x1 x2 x3 x4 y0 y1 y2 y3 q0 q1 q2 q3
      replace HB := Lib.hid (HB.out.call hbn)
      clear hbn
      obtain ⟨x0, x1, x2, x3, x4⟩ := op5_facts HB.out.op
      obtain ⟨y0, y1, y2, y3, q0, q1, q2, q3⟩ := an_facts HB.out.res
      (try simp only [] at x0 x1 x2 x3 x4)
      clear HX HM
      go_wp2_with fail
      refine (pmput_any (fun q => T q ∨ q = w.heap.size ∨ q = w.heap.size + 1) g ks vs key (val : Int) _ HB.out.map HK.out hl (HB.out.hT HTT.out)).mono ?_
      rintro e wn ⟨rfl, hm, hof⟩
      clear x0 x1 x2 x3 x4 y0 y1 y2 y3 q0 q1 q2 q3
      replace HB := Lib.hid (HB.out.turn hm hof)
      clear hm hof
      obtain ⟨x0, x1, x2, x3, x4⟩ := op5_facts HB.out.op
      obtain ⟨y0, y1, y2, y3, q0, q1, q2, q3⟩ := an_facts HB.out.res
      (try simp only [] at x0 x1 x2 x3 x4)
      go_wp2_with fail
      refine (bkval_any _ _ _).mono ?_
      rintro e wn ⟨rfl, hbn⟩
      clear x0 x1 x2 x3 x4 y0 y1 y2 y3 q0 q1 q2 q3
      replace HB := Lib.hid (HB.out.call hbn)
      clear hbn
      obtain ⟨x0, x1, x2, x3, x4⟩ := op5_facts HB.out.op
      obtain ⟨y0, y1, y2, y3, q0, q1, q2, q3⟩ := an_facts HB.out.res
      (try simp only [] at x0 x1 x2 x3 x4)
      simp only [ansV]
      have hZ := HB.out.fin ⟨1, ⟨#[]⟩, 0, []⟩ (own_nilP _ (w.heap.size + 2)) (Nat.le_refl _)
      simp only [set4, anCells, List.length_nil] at hZ
      have HZ := Lib.hid hZ
      clear hZ
      go_wp2_with fail
      exact bodyPost_ret (v := .agg #[.int .i64 1, .string ⟨#[]⟩, .int .u64 0, .slice none 0 0]) (by simp [results, Try.results86, go_sem, *]) rfl HZ.out
    · have hd := HD0.out
      rw [if_pos rfl, if_pos rfl] at hd
      injection hd with hd1 hd2
      injection hd2 with hd2 hd3
      subst hd1 hd2 hd3
      clear HD0
      go_wp2_with fail
      refine (HX.out _ HM.out).mono ?_
      rintro e wn ⟨rfl, hbn⟩
      clear x0 x1 x2 x3 x4 y0 y1 y2 y3 q0 q1 q2 q3
      replace HB := Lib.hid (HB.out.call hbn)
      clear hbn
      obtain ⟨x0, x1, x2, x3, x4⟩ := op5_facts HB.out.op
      obtain ⟨y0, y1, y2, y3, q0, q1, q2, q3⟩ := an_facts HB.out.res
      (try simp only [] at x0 x1 x2 x3 x4)
      clear HX HM
      go_wp2_with fail
      refine (bkval_any _ _ _).mono ?_
      rintro e wn ⟨rfl, hbn⟩
      clear x0 x1 x2 x3 x4 y0 y1 y2 y3 q0 q1 q2 q3
      replace HB := Lib.hid (HB.out.call hbn)
      clear hbn
      obtain ⟨x0, x1, x2, x3, x4⟩ := op5_facts HB.out.op
      obtain ⟨y0, y1, y2, y3, q0, q1, q2, q3⟩ := an_facts HB.out.res
      (try simp only [] at x0 x1 x2 x3 x4)
      simp only [ansV]
      have hZ := HB.out.fin ⟨3, ⟨#[]⟩, gv, []⟩ (own_nilP _ (w.heap.size + 2)) (Nat.le_refl _)
      simp only [set4, anCells, List.length_nil] at hZ
      have HZ := Lib.hid hZ
      clear hZ
      go_wp2_with fail
      exact bodyPost_ret (v := .agg #[.int .i64 3, .string ⟨#[]⟩, .int .u64 gv, .slice none 0 0]) (by simp [results, Try.results86, go_sem, *]) rfl HZ.out
  · cases gb
    · have hd := HD0.out
      rw [if_neg (by omega), if_pos rfl, if_neg Bool.false_ne_true] at hd
      injection hd with hd1 hd2
      injection hd2 with hd2 hd3
      subst hd1 hd2 hd3
      clear HD0
      go_wp2_with fail
      refine (HX.out _ HM.out).mono ?_
      rintro e wn ⟨rfl, hbn⟩
      clear x0 x1 x2 x3 x4 y0 y1 y2 y3 q0 q1 q2 q3
      replace HB := Lib.hid (HB.out.call hbn)
      clear hbn
      obtain ⟨x0, x1, x2, x3, x4⟩ := op5_facts HB.out.op
      obtain ⟨y0, y1, y2, y3, q0, q1, q2, q3⟩ := an_facts HB.out.res
      (try simp only [] at x0 x1 x2 x3 x4)
      clear HX HM
      go_wp2_with fail
      refine (pmput_any (fun q => T q ∨ q = w.heap.size ∨ q = w.heap.size + 1) g ks vs key (val : Int) _ HB.out.map HK.out hl (HB.out.hT HTT.out)).mono ?_
      rintro e wn ⟨rfl, hm, hof⟩
      clear x0 x1 x2 x3 x4 y0 y1 y2 y3 q0 q1 q2 q3
      replace HB := Lib.hid (HB.out.turn hm hof)
      clear hm hof
      obtain ⟨x0, x1, x2, x3, x4⟩ := op5_facts HB.out.op
      obtain ⟨y0, y1, y2, y3, q0, q1, q2, q3⟩ := an_facts HB.out.res
      (try simp only [] at x0 x1 x2 x3 x4)
      go_wp2_with fail
      refine (bkval_any _ _ _).mono ?_
      rintro e wn ⟨rfl, hbn⟩
      clear x0 x1 x2 x3 x4 y0 y1 y2 y3 q0 q1 q2 q3
      replace HB := Lib.hid (HB.out.call hbn)
      clear hbn
      obtain ⟨x0, x1, x2, x3, x4⟩ := op5_facts HB.out.op
      obtain ⟨y0, y1, y2, y3, q0, q1, q2, q3⟩ := an_facts HB.out.res
      (try simp only [] at x0 x1 x2 x3 x4)
      simp only [ansV]
      have hZ := HB.out.fin ⟨1, ⟨#[]⟩, 0, []⟩ (own_nilP _ (w.heap.size + 2)) (Nat.le_refl _)
      simp only [set4, anCells, List.length_nil] at hZ
      have HZ := Lib.hid hZ
      clear hZ
      go_wp2_with fail
      exact bodyPost_ret (v := .agg #[.int .i64 1, .string ⟨#[]⟩, .int .u64 0, .slice none 0 0]) (by simp [results, Try.results86, go_sem, *]) rfl HZ.out
    · have hd := HD0.out
      rw [if_neg (by omega), if_pos rfl, if_pos rfl] at hd
      injection hd with hd1 hd2
      injection hd2 with hd2 hd3
      subst hd1 hd2 hd3
      clear HD0
      go_wp2_with fail
      refine (HX.out _ HM.out).mono ?_
      rintro e wn ⟨rfl, hbn⟩
      clear x0 x1 x2 x3 x4 y0 y1 y2 y3 q0 q1 q2 q3
      replace HB := Lib.hid (HB.out.call hbn)
      clear hbn
      obtain ⟨x0, x1, x2, x3, x4⟩ := op5_facts HB.out.op
      obtain ⟨y0, y1, y2, y3, q0, q1, q2, q3⟩ := an_facts HB.out.res
      (try simp only [] at x0 x1 x2 x3 x4)
      clear HX HM
      go_wp2_with fail
      refine (pmput_any (fun q => T q ∨ q = w.heap.size ∨ q = w.heap.size + 1) g ks vs key (val : Int) _ HB.out.map HK.out hl (HB.out.hT HTT.out)).mono ?_
      rintro e wn ⟨rfl, hm, hof⟩
      clear x0 x1 x2 x3 x4 y0 y1 y2 y3 q0 q1 q2 q3
      replace HB := Lib.hid (HB.out.turn hm hof)
      clear hm hof
      obtain ⟨x0, x1, x2, x3, x4⟩ := op5_facts HB.out.op
      obtain ⟨y0, y1, y2, y3, q0, q1, q2, q3⟩ := an_facts HB.out.res
      (try simp only [] at x0 x1 x2 x3 x4)
      go_wp2_with fail
      refine (bkval_any _ _ _).mono ?_
      rintro e wn ⟨rfl, hbn⟩
      clear x0 x1 x2 x3 x4 y0 y1 y2 y3 q0 q1 q2 q3
      replace HB := Lib.hid (HB.out.call hbn)
      clear hbn
      obtain ⟨x0, x1, x2, x3, x4⟩ := op5_facts HB.out.op
      obtain ⟨y0, y1, y2, y3, q0, q1, q2, q3⟩ := an_facts HB.out.res
      (try simp only [] at x0 x1 x2 x3 x4)
      simp only [ansV]
      have hZ := HB.out.fin ⟨3, ⟨#[]⟩, gv, []⟩ (own_nilP _ (w.heap.size + 2)) (Nat.le_refl _)
      simp only [set4, anCells, List.length_nil] at hZ
      have HZ := Lib.hid hZ
      clear hZ
      go_wp2_with fail
      exact bodyPost_ret (v := .agg #[.int .i64 3, .string ⟨#[]⟩, .int .u64 gv, .slice none 0 0]) (by simp [results, Try.results86, go_sem, *]) rfl HZ.out
  · cases gb
    · have hd := HD0.out
      rw [if_neg (by omega), if_neg (by omega), if_pos rfl] at hd
      injection hd with hd1 hd2
      injection hd2 with hd2 hd3
      subst hd1 hd2 hd3
      clear HD0
      go_wp2_with fail
      refine (HX.out _ HM.out).mono ?_
      rintro e wn ⟨rfl, hbn⟩
      clear x0 x1 x2 x3 x4 y0 y1 y2 y3 q0 q1 q2 q3
      replace HB := Lib.hid (HB.out.call hbn)
      clear hbn
      obtain ⟨x0, x1, x2, x3, x4⟩ := op5_facts HB.out.op
      obtain ⟨y0, y1, y2, y3, q0, q1, q2, q3⟩ := an_facts HB.out.res
      (try simp only [] at x0 x1 x2 x3 x4)
      clear HX HM
      go_wp2_with fail
      refine (bkval_any _ _ _).mono ?_
      rintro e wn ⟨rfl, hbn⟩
      clear x0 x1 x2 x3 x4 y0 y1 y2 y3 q0 q1 q2 q3
      replace HB := Lib.hid (HB.out.call hbn)
      clear hbn
      obtain ⟨x0, x1, x2, x3, x4⟩ := op5_facts HB.out.op
      obtain ⟨y0, y1, y2, y3, q0, q1, q2, q3⟩ := an_facts HB.out.res
      (try simp only [] at x0 x1 x2 x3 x4)
      simp only [ansV]
      have hZ := HB.out.fin ⟨2, ⟨#[]⟩, 0, []⟩ (own_nilP _ (w.heap.size + 2)) (Nat.le_refl _)
      simp only [set4, anCells, List.length_nil] at hZ
      have HZ := Lib.hid hZ
      clear hZ
      go_wp2_with fail
      exact bodyPost_ret (v := .agg #[.int .i64 2, .string ⟨#[]⟩, .int .u64 0, .slice none 0 0]) (by simp [results, Try.results86, go_sem, *]) rfl HZ.out
    · have hd := HD0.out
      rw [if_neg (by omega), if_neg (by omega), if_neg (by simp), if_neg (by omega)] at hd
      injection hd with hd1 hd2
      injection hd2 with hd2 hd3
      subst hd1 hd2 hd3
      clear HD0
      go_wp2_with fail
      refine (HX.out _ HM.out).mono ?_
      rintro e wn ⟨rfl, hbn⟩
      clear x0 x1 x2 x3 x4 y0 y1 y2 y3 q0 q1 q2 q3
      replace HB := Lib.hid (HB.out.call hbn)
      clear hbn
      obtain ⟨x0, x1, x2, x3, x4⟩ := op5_facts HB.out.op
      obtain ⟨y0, y1, y2, y3, q0, q1, q2, q3⟩ := an_facts HB.out.res
      (try simp only [] at x0 x1 x2 x3 x4)
      clear HX HM
      go_wp2_with fail
      refine (pmdel_any (fun q => T q ∨ q = w.heap.size ∨ q = w.heap.size + 1) g ks vs key _ HB.out.map HK.out hl (HB.out.hT HTT.out)).mono ?_
      rintro e wn ⟨rfl, hm, hof⟩
      clear x0 x1 x2 x3 x4 y0 y1 y2 y3 q0 q1 q2 q3
      replace HB := Lib.hid (HB.out.turn hm hof)
      clear hm hof
      obtain ⟨x0, x1, x2, x3, x4⟩ := op5_facts HB.out.op
      obtain ⟨y0, y1, y2, y3, q0, q1, q2, q3⟩ := an_facts HB.out.res
      (try simp only [] at x0 x1 x2 x3 x4)
      go_wp2_with fail
      refine (bkval_any _ _ _).mono ?_
      rintro e wn ⟨rfl, hbn⟩
      clear x0 x1 x2 x3 x4 y0 y1 y2 y3 q0 q1 q2 q3
      replace HB := Lib.hid (HB.out.call hbn)
      clear hbn
      obtain ⟨x0, x1, x2, x3, x4⟩ := op5_facts HB.out.op
      obtain ⟨y0, y1, y2, y3, q0, q1, q2, q3⟩ := an_facts HB.out.res
      (try simp only [] at x0 x1 x2 x3 x4)
      simp only [ansV]
      have hZ := HB.out.fin ⟨1, ⟨#[]⟩, gv, []⟩ (own_nilP _ (w.heap.size + 2)) (Nat.le_refl _)
      simp only [set4, anCells, List.length_nil] at hZ
      have HZ := Lib.hid hZ
      clear hZ
      go_wp2_with fail
      exact bodyPost_ret (v := .agg #[.int .i64 1, .string ⟨#[]⟩, .int .u64 gv, .slice none 0 0]) (by simp [results, Try.results86, go_sem, *]) rfl HZ.out
  · cases gb
    · have hd := HD0.out
      rw [if_neg (by omega), if_neg (by omega), if_pos rfl] at hd
      injection hd with hd1 hd2
      injection hd2 with hd2 hd3
      subst hd1 hd2 hd3
      clear HD0
      go_wp2_with fail
      refine (HX.out _ HM.out).mono ?_
      rintro e wn ⟨rfl, hbn⟩
      clear x0 x1 x2 x3 x4 y0 y1 y2 y3 q0 q1 q2 q3
      replace HB := Lib.hid (HB.out.call hbn)
      clear hbn
      obtain ⟨x0, x1, x2, x3, x4⟩ := op5_facts HB.out.op
      obtain ⟨y0, y1, y2, y3, q0, q1, q2, q3⟩ := an_facts HB.out.res
      (try simp only [] at x0 x1 x2 x3 x4)
      clear HX HM
      go_wp2_with fail
      refine (bkval_any _ _ _).mono ?_
      rintro e wn ⟨rfl, hbn⟩
      clear x0 x1 x2 x3 x4 y0 y1 y2 y3 q0 q1 q2 q3
      replace HB := Lib.hid (HB.out.call hbn)
      clear hbn
      obtain ⟨x0, x1, x2, x3, x4⟩ := op5_facts HB.out.op
      obtain ⟨y0, y1, y2, y3, q0, q1, q2, q3⟩ := an_facts HB.out.res
      (try simp only [] at x0 x1 x2 x3 x4)
      simp only [ansV]
      have hZ := HB.out.fin ⟨2, ⟨#[]⟩, 0, []⟩ (own_nilP _ (w.heap.size + 2)) (Nat.le_refl _)
      simp only [set4, anCells, List.length_nil] at hZ
      have HZ := Lib.hid hZ
      clear hZ
      go_wp2_with fail
      exact bodyPost_ret (v := .agg #[.int .i64 2, .string ⟨#[]⟩, .int .u64 0, .slice none 0 0]) (by simp [results, Try.results86, go_sem, *]) rfl HZ.out
    · by_cases hv : gv = (val : Int)
      · have hd := HD0.out
        rw [if_neg (by omega), if_neg (by omega), if_neg (by simp), if_neg (by simp [hv])] at hd
        injection hd with hd1 hd2
        injection hd2 with hd2 hd3
        subst hd1 hd2 hd3
        clear HD0
        subst hv
        have hvb : ((val : Int) != (val : Int)) = false := by simp
        go_wp2_with fail
        refine (HX.out _ HM.out).mono ?_
        rintro e wn ⟨rfl, hbn⟩
        clear x0 x1 x2 x3 x4 y0 y1 y2 y3 q0 q1 q2 q3
        replace HB := Lib.hid (HB.out.call hbn)
        clear hbn
        obtain ⟨x0, x1, x2, x3, x4⟩ := op5_facts HB.out.op
        obtain ⟨y0, y1, y2, y3, q0, q1, q2, q3⟩ := an_facts HB.out.res
        (try simp only [] at x0 x1 x2 x3 x4)
        clear HX HM
        go_wp2_with fail
        refine (pmdel_any (fun q => T q ∨ q = w.heap.size ∨ q = w.heap.size + 1) g ks vs key _ HB.out.map HK.out hl (HB.out.hT HTT.out)).mono ?_
        rintro e wn ⟨rfl, hm, hof⟩
        clear x0 x1 x2 x3 x4 y0 y1 y2 y3 q0 q1 q2 q3
        replace HB := Lib.hid (HB.out.turn hm hof)
        clear hm hof
        obtain ⟨x0, x1, x2, x3, x4⟩ := op5_facts HB.out.op
        obtain ⟨y0, y1, y2, y3, q0, q1, q2, q3⟩ := an_facts HB.out.res
        (try simp only [] at x0 x1 x2 x3 x4)
        go_wp2_with fail
        refine (bkval_any _ _ _).mono ?_
        rintro e wn ⟨rfl, hbn⟩
        clear x0 x1 x2 x3 x4 y0 y1 y2 y3 q0 q1 q2 q3
        replace HB := Lib.hid (HB.out.call hbn)
        clear hbn
        obtain ⟨x0, x1, x2, x3, x4⟩ := op5_facts HB.out.op
        obtain ⟨y0, y1, y2, y3, q0, q1, q2, q3⟩ := an_facts HB.out.res
        (try simp only [] at x0 x1 x2 x3 x4)
        simp only [ansV]
        have hZ := HB.out.fin ⟨1, ⟨#[]⟩, (val : Int), []⟩ (own_nilP _ (w.heap.size + 2)) (Nat.le_refl _)
        simp only [set4, anCells, List.length_nil] at hZ
        have HZ := Lib.hid hZ
        clear hZ
        go_wp2_with fail
        exact bodyPost_ret (v := .agg #[.int .i64 1, .string ⟨#[]⟩, .int .u64 (val : Int), .slice none 0 0]) (by simp [results, Try.results86, go_sem, *]) rfl HZ.out
      · have hd := HD0.out
        rw [if_neg (by omega), if_neg (by omega), if_neg (by simp), if_pos ⟨rfl, hv⟩] at hd
        injection hd with hd1 hd2
        injection hd2 with hd2 hd3
        subst hd1 hd2 hd3
        clear HD0
        have hvb : (gv != (val : Int)) = true := by simp [hv]
        clear hv
        go_wp2_with fail
        refine (HX.out _ HM.out).mono ?_
        rintro e wn ⟨rfl, hbn⟩
        clear x0 x1 x2 x3 x4 y0 y1 y2 y3 q0 q1 q2 q3
        replace HB := Lib.hid (HB.out.call hbn)
        clear hbn
        obtain ⟨x0, x1, x2, x3, x4⟩ := op5_facts HB.out.op
        obtain ⟨y0, y1, y2, y3, q0, q1, q2, q3⟩ := an_facts HB.out.res
        (try simp only [] at x0 x1 x2 x3 x4)
        clear HX HM
        go_wp2_with fail
        refine (bkval_any _ _ _).mono ?_
        rintro e wn ⟨rfl, hbn⟩
        clear x0 x1 x2 x3 x4 y0 y1 y2 y3 q0 q1 q2 q3
        replace HB := Lib.hid (HB.out.call hbn)
        clear hbn
        obtain ⟨x0, x1, x2, x3, x4⟩ := op5_facts HB.out.op
        obtain ⟨y0, y1, y2, y3, q0, q1, q2, q3⟩ := an_facts HB.out.res
        (try simp only [] at x0 x1 x2 x3 x4)
        simp only [ansV]
        have hZ := HB.out.fin ⟨4, ⟨#[]⟩, gv, []⟩ (own_nilP _ (w.heap.size + 2)) (Nat.le_refl _)
        simp only [set4, anCells, List.length_nil] at hZ
        have HZ := Lib.hid hZ
        clear hZ
        go_wp2_with fail
        exact bodyPost_ret (v := .agg #[.int .i64 4, .string ⟨#[]⟩, .int .u64 gv, .slice none 0 0]) (by simp [results, Try.results86, go_sem, *]) rfl HZ.out

theorem reads_kind {o : OpD} (h : opB o = true) (hr : readsB o = false) : 2 ≤ o.kind ∧ o.kind ≤ 5 := by
  have hk := opB_kind h
  unfold readsB at hr
  rw [h, Bool.true_and, decide_eq_false_iff_not] at hr
  omega
set_option maxRecDepth 100000 in
set_option maxHeartbeats 16000000 in
theorem bkdo_any (T : Nat → Prop) (g : Nat) (ks : List ByteArray) (vs : List Int) (o : OpD) (w : World) (h : MapAt T w g ks vs) (ho : OpOk o) (hl : ks.length ≤ 1000) (hT : ∀ t, T t → t < w.heap.size) :
    Calls Try.prog 57 #[.pointer (some ⟨g, 0, none⟩), .agg (opCells o)] w (BkRet T g (doD ks vs o).1 (doD ks vs o).2.1 (doD ks vs o).2.2 w) := by
  have HCh := Lib.hid (fun W => opcheck_any o W ho)
  have HRe := Lib.hid (fun W => opreads_any o W ho)
  have HRd := Lib.hid (fun T W hW => bkread_any T g ks vs o W hW ho hl)
  have HWr := Lib.hid (fun T W hW hT hk => bkwrite_any T g ks vs o W hW ho hl hT hk)
  have HRK := Lib.hid (fun (q : opB o = true) (q2 : readsB o = false) => reads_kind q q2)
  have HB := Lib.hid (Bk.start h o)
  have HTT := Lib.hid hT
  generalize hda : doD ks vs o = dd
  unfold doD at hda
  generalize readD ks vs o = rd at HRd hda
  generalize writeD ks vs o = wd at HWr hda
  generalize opB o = ob at HCh HRK hda
  generalize readsB o = rb at HRe HRK hda
  have HD0 := Lib.hid hda
  clear hda h ho hT
  obtain ⟨kind, key, upto, val, limit⟩ := o
  simp only [] at HRK
  simp only [opCells] at HCh HRe HRd HWr
  simp only [opCells, zeroA] at HB ⊢
  go_enter Try.func57, Try.ntmps57
  go_upto_region 1 with fail
  generalize (w.alloc _).alloc _ = W at HB ⊢
  obtain ⟨x0, x1, x2, x3, x4⟩ := op5_facts HB.out.op
  obtain ⟨y0, y1, y2, y3, q0, q1, q2, q3⟩ := an_facts HB.out.res
  (try simp only [] at x0 x1 x2 x3 x4)
  go_wp2_with fail
  refine (HCh.out _).mono ?_
  rintro e wn ⟨rfl, hbn⟩
  clear x0 x1 x2 x3 x4 y0 y1 y2 y3 q0 q1 q2 q3
  replace HB := Lib.hid (HB.out.call hbn)
  clear hbn
  obtain ⟨x0, x1, x2, x3, x4⟩ := op5_facts HB.out.op
  obtain ⟨y0, y1, y2, y3, q0, q1, q2, q3⟩ := an_facts HB.out.res
  (try simp only [] at x0 x1 x2 x3 x4)
  cases ob
  · have hd := HD0.out
    rw [if_neg Bool.false_ne_true] at hd
    obtain ⟨a, ks', vs'⟩ := dd
    injection hd with hd1 hd2
    injection hd2 with hd2 hd3
    subst hd1 hd2 hd3
    clear HD0
    simp only [Bool.false_eq_true, if_false]
    go_wp2_with fail
    refine (bkval_any _ _ _).mono ?_
    rintro e wn ⟨rfl, hbn⟩
    clear x0 x1 x2 x3 x4 y0 y1 y2 y3 q0 q1 q2 q3
    replace HB := Lib.hid (HB.out.call hbn)
    clear hbn
    obtain ⟨x0, x1, x2, x3, x4⟩ := op5_facts HB.out.op
    obtain ⟨y0, y1, y2, y3, q0, q1, q2, q3⟩ := an_facts HB.out.res
    (try simp only [] at x0 x1 x2 x3 x4)
    simp only [ansV]
    have hZ := HB.out.fin ⟨5, ⟨#[]⟩, 0, []⟩ (own_nilP _ (w.heap.size + 2)) (Nat.le_refl _)
    simp only [set4, anCells, List.length_nil] at hZ
    have HZ := Lib.hid hZ
    clear hZ
    go_wp2_with fail
    exact bodyPost_ret (v := .agg #[.int .i64 5, .string ⟨#[]⟩, .int .u64 0, .slice none 0 0]) (by simp [results, Try.results57, go_sem, *]) rfl HZ.out
  · have hd5 := HD0.out
    rw [if_pos rfl] at hd5
    replace HD0 := Lib.hid hd5
    clear hd5
    simp only [if_true]
    go_wp2_with fail
    refine (HRe.out _).mono ?_
    rintro e wn ⟨rfl, hbn⟩
    clear x0 x1 x2 x3 x4 y0 y1 y2 y3 q0 q1 q2 q3
    replace HB := Lib.hid (HB.out.call hbn)
    clear hbn
    obtain ⟨x0, x1, x2, x3, x4⟩ := op5_facts HB.out.op
    obtain ⟨y0, y1, y2, y3, q0, q1, q2, q3⟩ := an_facts HB.out.res
    (try simp only [] at x0 x1 x2 x3 x4)
    cases rb
    · obtain rfl : wd = dd := by have := HD0.out; rw [if_neg Bool.false_ne_true] at this; exact this
      clear HD0
      have HKD := Lib.hid (HRK.out (by trivial) (by trivial))
      obtain ⟨⟨ac, ak, av, ap⟩, ks', vs'⟩ := wd
      simp only [] at HWr
      go_wp2_with fail
      refine (HWr.out _ _ HB.out.map (HB.out.hT HTT.out) HKD.out).mono ?_
      rintro e wn ⟨A9, c9, rfl, hown, hm, hof⟩
      clear x0 x1 x2 x3 x4 y0 y1 y2 y3 q0 q1 q2 q3
      have HLT := Lib.hid HB.out.lt
      replace HB := Lib.hid (HB.out.turn hm hof)
      have HW := Lib.hid hown
      clear hm hof hown
      obtain ⟨x0, x1, x2, x3, x4⟩ := op5_facts HB.out.op
      obtain ⟨y0, y1, y2, y3, q0, q1, q2, q3⟩ := an_facts HB.out.res
      (try simp only [] at x0 x1 x2 x3 x4)
      have hZ := HB.out.fin ⟨ac, ak, av, ap⟩ HW.out HLT.out
      simp only [set4, anCells] at hZ ⊢
      have HZ := Lib.hid hZ
      clear hZ
      go_wp2_with fail
      exact bodyPost_ret (v := .agg #[.int .i64 ac, .string ak, .int .u64 av, .slice A9 ap.length c9]) (by simp [results, Try.results57, go_sem, *]) rfl HZ.out
    · have hd := HD0.out
      rw [if_pos rfl] at hd
      obtain ⟨a, ks', vs'⟩ := dd
      injection hd with hd1 hd2
      injection hd2 with hd2 hd3
      subst hd1 hd2 hd3
      clear HD0
      obtain ⟨ac, ak, av, ap⟩ := rd
      go_wp2_with fail
      refine (HRd.out _ _ HB.out.map).mono ?_
      rintro e wn ⟨A9, c9, rfl, hown, hm, hof⟩
      clear x0 x1 x2 x3 x4 y0 y1 y2 y3 q0 q1 q2 q3
      have HLT := Lib.hid HB.out.lt
      replace HB := Lib.hid (HB.out.turn hm hof)
      have HW := Lib.hid hown
      clear hm hof hown
      obtain ⟨x0, x1, x2, x3, x4⟩ := op5_facts HB.out.op
      obtain ⟨y0, y1, y2, y3, q0, q1, q2, q3⟩ := an_facts HB.out.res
      (try simp only [] at x0 x1 x2 x3 x4)
      have hZ := HB.out.fin ⟨ac, ak, av, ap⟩ HW.out HLT.out
      simp only [set4, anCells] at hZ ⊢
      have HZ := Lib.hid hZ
      clear hZ
      go_wp2_with fail
      exact bodyPost_ret (v := .agg #[.int .i64 ac, .string ak, .int .u64 av, .slice A9 ap.length c9]) (by simp [results, Try.results57, go_sem, *]) rfl HZ.out

set_option maxRecDepth 100000 in
set_option maxHeartbeats 4000000 in
theorem bkdo_nil (o : OpD) (w : World) : Calls Try.prog 57 #[.pointer none, .agg (opCells o)] w (Ret (.agg #[.int .i64 5, .string ⟨#[]⟩, .int .u64 0, .slice none 0 0]) w) := by
  have hS := Lib.hid (Sx.start2 w (.cells (opCells o) 85) (.cells zeroA 87))
  obtain ⟨kind, key, upto, val, limit⟩ := o
  simp only [opCells, zeroA] at hS ⊢
  go_enter Try.func57, Try.ntmps57
  go_upto_region 1 with fail
  generalize (w.alloc _).alloc _ = W at hS ⊢
  go_wp2_with fail
  refine (bkval_any _ _ _).mono ?_
  rintro e wn ⟨rfl, hbn⟩
  replace hS := Lib.hid (hS.out.call hbn)
  obtain ⟨y0, y1, y2, y3, q0, q1, q2, q3⟩ := an_facts (hS.out.has 1 _ _ rfl).1
  have hZ := res4_below w _ hS.out.below (w.heap.size + 1) (by omega) (.int .i64 5) (.string ⟨#[]⟩) (.int .u64 0) (.slice none 0 0)
  simp only [set4] at hZ
  have HZ := Lib.hid hZ
  clear hZ hbn
  go_wp2_with fail
  exact bodyPost_ret (v := .agg #[.int .i64 5, .string ⟨#[]⟩, .int .u64 0, .slice none 0 0]) (by simp [results, Try.results57, go_sem, *]) rfl ⟨rfl, HZ.out⟩

end Go.Proofs.Ytggjlnjpokdfpaa
