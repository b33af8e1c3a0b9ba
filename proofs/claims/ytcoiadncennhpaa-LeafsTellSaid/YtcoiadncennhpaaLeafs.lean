/- Contracts of package leafs: leaf; of package node: Find. -/
import Derived.Test.YtcoiadncennhpaaLeafPl
import Derived.Test.YtcoiadncennhpaaNodeDup
namespace Go.Proofs.Ytcoiadncennhpaa
open Go.RowKit

set_option maxRecDepth 100000 in
set_option maxHeartbeats 1000000 in
theorem leaf_any (d : Nd) (A B C : Option Addr) (ca cb cc : Nat) (w : World) (h : Lies w d A B C ca cb cc) : Calls Try.prog 83 #[.agg (ndCells d A B C ca cb cc)] w (Ret (.bool (leafB d)) w) := by
  have HB := below_alloc w (.cells (ndCells d A B C ca cb cc) 26)
  have hbx := Boxed.new w d A B C ca cb cc 26
  replace h := h.up HB
  have HC := Lib.hid (fun W hW => ndcheck_any d 64 A B C ca cb cc W hW)
  have hlb : leafB d = (decide (d.level = 0) && soundB d 64) := rfl
  have hck : ndChk d 64 = if soundB d 64 = true then 0 else 10 := if_neg (by omega)
  generalize soundB d 64 = s at hlb hck
  generalize leafB d = lb at hlb ⊢
  rw [hck] at HC
  have HL := Lib.hid hlb
  clear hlb hck
  obtain ⟨level, low, high, last, next, keys, vals, kids⟩ := d
  simp only [ndCells] at HB hbx h HC ⊢
  simp only [] at HL
  go_enter Try.func83, Try.ntmps83
  go_upto_region 1 with fail
  generalize w.alloc _ = W at HB hbx h ⊢
  obtain ⟨x0, x1, x2, x3, x4, x5, x6, x7⟩ := id hbx
  simp only [] at x0 x1 x2 x3 x4 x5 x6 x7
  by_cases hl : level = 0
  · subst hl
    cases s
    · have HC0 := Lib.hid (fun W hW => Ret.to (HC.out W hW) (congrArg (Value.int .i64) (if_neg Bool.false_ne_true)))
      go_wp2_with fail
      refine (HC0.out _ h).mono ?_
      rintro e wn ⟨rfl, hbn⟩
      have HB2 := Lib.hid (below_of HB hbn)
      clear hbn
      go_wp2_with fail
      go_ret
      exact ⟨ret_bool (by rw [HL.out]; rfl), HB2.out⟩
    · have HC0 := Lib.hid (fun W hW => Ret.to (HC.out W hW) (congrArg (Value.int .i64) (if_pos rfl)))
      go_wp2_with fail
      refine (HC0.out _ h).mono ?_
      rintro e wn ⟨rfl, hbn⟩
      have HB2 := Lib.hid (below_of HB hbn)
      clear hbn
      go_wp2_with fail
      go_ret
      exact ⟨ret_bool (by rw [HL.out]; rfl), HB2.out⟩
  · have hl2 : (level == (0 : Int)) = false := by rw [beq_eq_false_iff_ne]; exact hl
    have HLL := Lib.hid hl
    clear hl
    go_wp2_with fail
    go_ret
    exact ⟨ret_bool (by rw [HL.out, decide_eq_false HLL.out]; rfl), HB⟩

set_option maxRecDepth 100000 in
set_option maxHeartbeats 1000000 in
theorem nodefind_any (d : Nd) (k : ByteArray) (A B C : Option Addr) (ca cb cc : Nat) (w : World) (h : Lies w d A B C ca cb cc) (hk : k.size ≤ maxLen) :
    Calls Try.prog 36 #[.agg (ndCells d A B C ca cb cc), .string k] w (Ret (.tuple #[.int .u64 (findD d k).1, .bool (findD d k).2]) w) := by
  have HB := below_alloc w (.cells (ndCells d A B C ca cb cc) 26)
  have hbx := Boxed.new w d A B C ca cb cc 26
  have hsz : w.heap.size < (w.alloc (.cells (ndCells d A B C ca cb cc) 26)).heap.size := by simp
  replace h := h.up HB
  have HF := Lib.hid (fun W (hW : Lies W d A B C ca cb cc) => find_any A d.keys.length ca d.keys k W hW.keys hW.fit hk hW.la)
  have hfd : findD d k = if hasD d k = true ∧ atD d k < d.vals.length then (d.vals.getD (atD d k) 0, true) else (0, false) := rfl
  have hal := at_le d k
  rw [show Pl.findAt d.keys k.data.toList = atD d k from rfl, show Pl.findIs d.keys k.data.toList = hasD d k from rfl] at HF
  generalize hasD d k = hs at HF hfd
  generalize atD d k = i at HF hfd hal
  generalize findD d k = q at hfd ⊢
  have HQ := Lib.hid hfd
  clear hfd
  obtain ⟨level, low, high, last, next, keys, vals, kids⟩ := d
  simp only [ndCells] at HB hbx h hsz ⊢
  simp only [] at HF HQ hal
  go_enter Try.func36, Try.ntmps36
  go_upto_region 1 with fail
  generalize w.alloc _ = W at HB hbx h hsz ⊢
  obtain ⟨x0, x1, x2, x3, x4, x5, x6, x7⟩ := id hbx
  simp only [] at x0 x1 x2 x3 x4 x5 x6 x7
  go_wp2_with fail
  refine (HF.out _ h).mono ?_
  rintro e wn ⟨rfl, hbn⟩
  have HB2 := Lib.hid (below_of HB hbn)
  have hn := h.up hbn
  have hvl : vals.length ≤ 9223372036854775807 := h.lb
  have hkl : keys.length ≤ 9223372036854775807 := h.la
  clear x0 x1 x2 x3 x4 x5 x6 x7
  obtain ⟨x0, x1, x2, x3, x4, x5, x6, x7⟩ := id (hbx.up hbn hsz)
  simp only [] at x0 x1 x2 x3 x4 x5 x6 x7
  clear hbn
  cases hs
  · go_wp2_with fail
    go_ret2
    rw [HQ.out, if_neg (fun e => Bool.false_ne_true e.1)]
    exact ⟨rfl, HB2.out⟩
  · by_cases hi : i < vals.length
    · have hi2 : decide ((vals.length : Int) ≤ (i : Int)) = false := decide_eq_false (by omega)
      have hv0 : RdU wn B vals.length vals := hn.vals
      obtain ⟨b, off, rfl, hb, hcell⟩ := hv0.spot (by omega)
      have cj := hcell i hi
      have hgd : vals.getD i 0 = vals[i] := by rw [List.getD_eq_getElem?_getD, List.getElem?_eq_getElem hi]; rfl
      have HG := Lib.hid hgd
      clear hgd hcell
      have hi3 : (i : Int) < (vals.length : Int) := by omega
      go_wp2_with fail
      go_ret2
      rw [HQ.out, if_pos (by simp [hi]), HG.out]
      exact ⟨rfl, HB2.out⟩
    · have hi2 : decide ((vals.length : Int) ≤ (i : Int)) = true := decide_eq_true (by omega)
      go_wp2_with fail
      go_ret2
      rw [HQ.out, if_neg (fun e => hi e.2)]
      exact ⟨rfl, HB2.out⟩

end Go.Proofs.Ytcoiadncennhpaa
