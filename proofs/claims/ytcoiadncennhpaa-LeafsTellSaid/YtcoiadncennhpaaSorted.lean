/- Contracts of package sorted: what looks into a row of texts. -/
import Derived.Test.YtcoiadncennhpaaKey2
import Derived.Test.YtcoiadncennhpaaPlSorted
namespace Go.Proofs.Ytcoiadncennhpaa
open Go.RowKit

/-- All texts of a row are as long as a text may be. -/
def Fits (ss : List ByteArray) : Prop := ∀ (j : Nat) (hj : j < ss.length), ss[j].size ≤ maxLen


set_option maxHeartbeats 400000 in
theorem findclo_any (i : Int) (A : Option Addr) (n c : Nat) (ss : List ByteArray) (k : ByteArray) (pl pk : Addr) (w : World) (h : RdS w A n ss) (hf : Fits ss) (hk : k.size ≤ maxLen)
    (hl : w.cell? pl = some (.slice A n c)) (hc : w.cell? pk = some (.string k)) (h0 : 0 ≤ i) (hi : i < n) :
    Calls Try.prog 121 #[.int .i64 i, .pointer (some pl), .pointer (some pk)] w (Ret (.bool (Pl.pGe ss k.data.toList i.toNat)) w) := by
  obtain ⟨j, rfl⟩ := Int.eq_ofNat_of_zero_le h0
  have hlen := h.len
  have hjl : j < ss.length := by omega
  obtain ⟨b, off, rfl, hb, hcell⟩ := h.spot (by omega)
  have hcj := hcell j hjl
  have hfj := hf j hjl
  have Hp := Lib.hid (Pl.tx_eq ss j hjl)
  have HB := Below.refl w.heap.size w
  clear hcell hlen
  go_enter Try.func121, Try.ntmps121
  go_wp2_with fail
  go_region_with (go_at_call 98; refine (compare_any _ _ _ hfj hk).mono ?_; rintro e wn ⟨rfl, hbn⟩)
  all_goals
    go_wp2_with fail
    go_ret
    exact ⟨ret_bool (by rw [Int.toNat_natCast, Pl.pGe, Hp.out, Bool.eq_iff_iff]; simp [Pl.cmp_ge]), below_of (Below.drew HB) hbn⟩

set_option maxHeartbeats 400000 in
theorem overclo_any (i : Int) (A : Option Addr) (n c : Nat) (ss : List ByteArray) (k : ByteArray) (pl pk : Addr) (w : World) (h : RdS w A n ss) (hf : Fits ss) (hk : k.size ≤ maxLen)
    (hl : w.cell? pl = some (.slice A n c)) (hc : w.cell? pk = some (.string k)) (h0 : 0 ≤ i) (hi : i < n) :
    Calls Try.prog 120 #[.int .i64 i, .pointer (some pl), .pointer (some pk)] w (Ret (.bool (Pl.pGt ss k.data.toList i.toNat)) w) := by
  obtain ⟨j, rfl⟩ := Int.eq_ofNat_of_zero_le h0
  have hlen := h.len
  have hjl : j < ss.length := by omega
  obtain ⟨b, off, rfl, hb, hcell⟩ := h.spot (by omega)
  have hcj := hcell j hjl
  have hfj := hf j hjl
  have Hp := Lib.hid (Pl.tx_eq ss j hjl)
  have HB := Below.refl w.heap.size w
  clear hcell hlen
  go_enter Try.func120, Try.ntmps120
  go_wp2_with fail
  go_region_with (go_at_call 98; refine (compare_any _ _ _ hfj hk).mono ?_; rintro e wn ⟨rfl, hbn⟩)
  all_goals
    go_wp2_with fail
    go_ret
    exact ⟨ret_bool (by rw [Int.toNat_natCast, Pl.pGt, Hp.out, Bool.eq_iff_iff]; simp [Pl.cmp_gt]), below_of (Below.drew HB) hbn⟩

set_option maxHeartbeats 400000 in
theorem findclofirst_any (A : Option Addr) (n c : Nat) (ss : List ByteArray) (k : ByteArray) (pl pk : Addr) (w : World) (h : RdS w A n ss) (hf : Fits ss) (hk : k.size ≤ maxLen)
    (hl : w.cell? pl = some (.slice A n c)) (hc : w.cell? pk = some (.string k)) (hpl : pl.block < w.heap.size) (hpk : pk.block < w.heap.size) (hn : n ≤ 9223372036854775807) :
    Calls Try.prog 119 #[.int .i64 n, .func (Fn.func 121) #[] #[.pointer (some pl), .pointer (some pk)]] w (Ret (.int .i64 (Pl.firstOf (Pl.pGe ss k.data.toList) n : Nat)) w) := by
  go_enter Try.func119, Try.ntmps119
  go_wp2_with fail
  go_loopw [5, 6] (fun lo hi wr => ∃ low high : Nat, low ≤ high ∧ high ≤ n ∧ lo = .int .i64 low ∧ hi = .int .i64 high ∧ Hid (Pl.bs (Pl.pGe ss k.data.toList) (high - low) low high = Pl.firstOf (Pl.pGe ss k.data.toList) n) ∧ Below w.heap.size w wr)
    (fun lo hi _ => (intOf hi).toNat - (intOf lo).toNat)
  case atStart => exact ⟨0, n, Nat.zero_le _, Nat.le_refl _, rfl, rfl, rfl, Below.refl _ _⟩
  case round =>
    obtain ⟨low, high, hlh, hhn, rfl, rfl, hbs, hbel⟩ := hrel
    by_cases hlt : low < high
    · have hst : Pl.bs (Pl.pGe ss k.data.toList) (high - low) low high = if Pl.pGe ss k.data.toList (low + (high - low) / 2) = true then Pl.bs (Pl.pGe ss k.data.toList) (low + (high - low) / 2 - low) low (low + (high - low) / 2) else Pl.bs (Pl.pGe ss k.data.toList) (high - (low + (high - low) / 2 + 1)) (low + (high - low) / 2 + 1) high := by
        obtain ⟨f, hf⟩ : ∃ f, high - low = f + 1 := ⟨high - low - 1, by omega⟩
        rw [hf, Pl.bs, if_pos hlt]
        rw [← hf]
        rw [Pl.bs_fuel _ f (low + (high - low) / 2 - low) _ _ (by omega) (Nat.le_refl _), Pl.bs_fuel _ f (high - (low + (high - low) / 2 + 1)) _ _ (by omega) (Nat.le_refl _)]
      have Hst := Lib.hid hst
      clear hst
      have hcl := (hbel.cell hpl).trans hl
      have hck := (hbel.cell hpk).trans hc
      have em : (low : Int) + ((high : Int) - (low : Int)) / 2 = ((low + (high - low) / 2 : Nat) : Int) := by omega
      have Em := Lib.hid em
      clear em
      go_wp2_with fail
      rw [Em.out]
      refine (findclo_any _ A n c ss k pl pk _ (h.up hbel) hf hk hcl hck (by omega) (by omega)).mono ?_
      rintro e wn ⟨rfl, hbn⟩
      rw [Int.toNat_natCast]
      cases hp : Pl.pGe ss k.data.toList (low + (high - low) / 2)
      · have Hp := Lib.hid hp
        clear hp
        go_wp2_with fail
        go_roundw
        case rel => exact ⟨low + (high - low) / 2 + 1, high, by omega, by omega, by go_num, rfl, by rw [← hbs.out, Hst.out, Hp.out, if_neg Bool.false_ne_true]; exact rfl, below_of hbel hbn⟩
        case measure => simp [intOf]; omega
      · have Hp := Lib.hid hp
        clear hp
        go_wp2_with fail
        go_roundw
        case rel => exact ⟨low, low + (high - low) / 2, by omega, by omega, rfl, by go_num, by rw [← hbs.out, Hst.out, Hp.out, if_pos rfl]; exact rfl, below_of hbel hbn⟩
        case measure => simp [intOf]; omega
    · obtain rfl : low = high := by omega
      go_wp2_with fail
      go_ret
      refine ⟨ret_i64 ?_, hbel⟩
      rw [← hbs.out, Nat.sub_self, Pl.bs]

set_option maxHeartbeats 400000 in
theorem overclofirst_any (A : Option Addr) (n c : Nat) (ss : List ByteArray) (k : ByteArray) (pl pk : Addr) (w : World) (h : RdS w A n ss) (hf : Fits ss) (hk : k.size ≤ maxLen)
    (hl : w.cell? pl = some (.slice A n c)) (hc : w.cell? pk = some (.string k)) (hpl : pl.block < w.heap.size) (hpk : pk.block < w.heap.size) (hn : n ≤ 9223372036854775807) :
    Calls Try.prog 119 #[.int .i64 n, .func (Fn.func 120) #[] #[.pointer (some pl), .pointer (some pk)]] w (Ret (.int .i64 (Pl.firstOf (Pl.pGt ss k.data.toList) n : Nat)) w) := by
  go_enter Try.func119, Try.ntmps119
  go_wp2_with fail
  go_loopw [5, 6] (fun lo hi wr => ∃ low high : Nat, low ≤ high ∧ high ≤ n ∧ lo = .int .i64 low ∧ hi = .int .i64 high ∧ Hid (Pl.bs (Pl.pGt ss k.data.toList) (high - low) low high = Pl.firstOf (Pl.pGt ss k.data.toList) n) ∧ Below w.heap.size w wr)
    (fun lo hi _ => (intOf hi).toNat - (intOf lo).toNat)
  case atStart => exact ⟨0, n, Nat.zero_le _, Nat.le_refl _, rfl, rfl, rfl, Below.refl _ _⟩
  case round =>
    obtain ⟨low, high, hlh, hhn, rfl, rfl, hbs, hbel⟩ := hrel
    by_cases hlt : low < high
    · have hst : Pl.bs (Pl.pGt ss k.data.toList) (high - low) low high = if Pl.pGt ss k.data.toList (low + (high - low) / 2) = true then Pl.bs (Pl.pGt ss k.data.toList) (low + (high - low) / 2 - low) low (low + (high - low) / 2) else Pl.bs (Pl.pGt ss k.data.toList) (high - (low + (high - low) / 2 + 1)) (low + (high - low) / 2 + 1) high := by
        obtain ⟨f, hf⟩ : ∃ f, high - low = f + 1 := ⟨high - low - 1, by omega⟩
        rw [hf, Pl.bs, if_pos hlt]
        rw [← hf]
        rw [Pl.bs_fuel _ f (low + (high - low) / 2 - low) _ _ (by omega) (Nat.le_refl _), Pl.bs_fuel _ f (high - (low + (high - low) / 2 + 1)) _ _ (by omega) (Nat.le_refl _)]
      have Hst := Lib.hid hst
      clear hst
      have hcl := (hbel.cell hpl).trans hl
      have hck := (hbel.cell hpk).trans hc
      have em : (low : Int) + ((high : Int) - (low : Int)) / 2 = ((low + (high - low) / 2 : Nat) : Int) := by omega
      have Em := Lib.hid em
      clear em
      go_wp2_with fail
      rw [Em.out]
      refine (overclo_any _ A n c ss k pl pk _ (h.up hbel) hf hk hcl hck (by omega) (by omega)).mono ?_
      rintro e wn ⟨rfl, hbn⟩
      rw [Int.toNat_natCast]
      cases hp : Pl.pGt ss k.data.toList (low + (high - low) / 2)
      · have Hp := Lib.hid hp
        clear hp
        go_wp2_with fail
        go_roundw
        case rel => exact ⟨low + (high - low) / 2 + 1, high, by omega, by omega, by go_num, rfl, by rw [← hbs.out, Hst.out, Hp.out, if_neg Bool.false_ne_true]; exact rfl, below_of hbel hbn⟩
        case measure => simp [intOf]; omega
      · have Hp := Lib.hid hp
        clear hp
        go_wp2_with fail
        go_roundw
        case rel => exact ⟨low, low + (high - low) / 2, by omega, by omega, rfl, by go_num, by rw [← hbs.out, Hst.out, Hp.out, if_pos rfl]; exact rfl, below_of hbel hbn⟩
        case measure => simp [intOf]; omega
    · obtain rfl : low = high := by omega
      go_wp2_with fail
      go_ret
      refine ⟨ret_i64 ?_, hbel⟩
      rw [← hbs.out, Nat.sub_self, Pl.bs]

end Go.Proofs.Ytcoiadncennhpaa
