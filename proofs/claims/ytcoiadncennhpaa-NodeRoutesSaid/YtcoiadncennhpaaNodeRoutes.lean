/- The law NodeRoutes: the walk. -/
import Derived.Test.YtcoiadncennhpaaRoutes
namespace Go.Proofs.Ytcoiadncennhpaa
open Go.RowKit

theorem rt_over {d : Nd} {k : ByteArray} (hs : soundB d 64 = true) (hl : d.level ≠ 0) (hk : kidIs d (overI d k) = false) : insB d k = false := by
  unfold soundB at hs
  rw [if_neg hl] at hs
  simp only [Bool.and_eq_true] at hs
  obtain ⟨_, _, hr, _, hkb⟩ := hs
  unfold kidsB at hkb
  simp only [Bool.and_eq_true, decide_eq_true_iff, beq_iff_eq] at hkb
  obtain ⟨h1, h2, _, h4, _⟩ := hkb
  have hle := Pl.overAt_le d.keys k.data.toList
  unfold kidIs overI at hk
  rw [decide_eq_false_iff_not] at hk
  have h0 : Pl.overAt d.keys k.data.toList = 0 := by omega
  have hsp := (Pl.overAt_spec hr k.data.toList).2 0 (by omega) (by omega)
  have he : Pl.tx d.keys 0 = d.low.data.toList := by
    unfold Pl.tx
    rw [ByteArray.toList_eq, ByteArray.toList_eq] at h4
    exact h4
  unfold insB
  rw [he] at hsp
  rw [hsp]
  rfl

theorem rt_find {d : Nd} {k : ByteArray} (hs : soundB d 64 = true) (hl : d.level ≠ 0) (hk : kidIs d (findI d k) = false) : benB d k = false := by
  unfold soundB at hs
  rw [if_neg hl] at hs
  simp only [Bool.and_eq_true] at hs
  obtain ⟨_, _, hr, _, hkb⟩ := hs
  unfold kidsB at hkb
  simp only [Bool.and_eq_true, decide_eq_true_iff, beq_iff_eq] at hkb
  obtain ⟨h1, h2, _, h4, _⟩ := hkb
  have hle := Pl.findAt_le d.keys k.data.toList
  unfold kidIs findI at hk
  rw [decide_eq_false_iff_not] at hk
  have h0 : Pl.findAt d.keys k.data.toList = 0 := by omega
  have hsp := (Pl.findAt_spec hr k.data.toList).2 0 (by omega) (by omega)
  have he : Pl.tx d.keys 0 = d.low.data.toList := by
    unfold Pl.tx
    rw [ByteArray.toList_eq, ByteArray.toList_eq] at h4
    exact h4
  unfold benB
  rw [he] at hsp
  rw [hsp]
  rfl

set_option maxRecDepth 100000 in
set_option maxHeartbeats 400000 in
theorem noderoutes_any (d : Nd) (k : ByteArray) (A B C : Option Addr) (ca cb cc : Nat) (w : World) (h : Lies w d A B C ca cb cc) (hk : k.size ≤ maxLen) :
    Calls Try.prog 5 #[.agg (ndCells d A B C ca cb cc), .string k] w (Ret (.bool true) w) := by
  have hf64 : ¬ ((64 : Int) < 4 ∨ 64 < (64 : Int)) := by omega
  obtain ⟨level, low, high, last, next, keys, vals, kids⟩ := d
  have HB := below_alloc w (.cells (ndCells ⟨level, low, high, last, next, keys, vals, kids⟩ A B C ca cb cc) 26)
  have hbx := Boxed.new w ⟨level, low, high, last, next, keys, vals, kids⟩ A B C ca cb cc 26
  have hsz : w.heap.size < (w.alloc (.cells (ndCells ⟨level, low, high, last, next, keys, vals, kids⟩ A B C ca cb cc) 26)).heap.size := by simp
  have hlow : low.size ≤ maxLen := h.low
  have hhigh : high.size ≤ maxLen := h.high
  simp only [ndCells] at HB hbx hsz ⊢
  replace h := h.up HB
  go_enter Try.func5, Try.ntmps5
  go_wp2_with fail
  generalize w.alloc _ = W at HB hbx hsz h ⊢
  obtain ⟨b0, b1, b2, b3, b4, b5, b6, b7⟩ := id hbx
  simp only [] at b0 b1 b2 b3 b4 b5 b6 b7
  refine (lightN_any _ A B C ca cb cc _ h).mono ?_
  rintro e wn ⟨rfl, hbn⟩
  replace HB := below_of HB hbn
  replace hbx := hbx.up hbn hsz
  replace hsz := Nat.lt_of_lt_of_le hsz hbn.size
  replace h := h.up hbn
  clear hbn b0 b1 b2 b3 b4 b5 b6 b7
  obtain ⟨b0, b1, b2, b3, b4, b5, b6, b7⟩ := id hbx
  simp only [] at b0 b1 b2 b3 b4 b5 b6 b7
  cases hli : lightN ⟨level, low, high, last, next, keys, vals, kids⟩
  · clear hli
    go_wp2_with fail
    refine (lives10_any _).mono ?_
    rintro e wn ⟨rfl, hbn⟩
    go_wp2_with fail
    go_ret
    exact ⟨rfl, below_of HB hbn⟩
  · clear hli
    have hk' : k.size ≤ 9223372036854775807 := hk
    by_cases hk1 : 100 < k.size
    · have hk1' : decide ((100 : Int) < (k.size : Int)) = true := decide_eq_true (by omega)
      go_wp2_with fail
      refine (lives10_any _).mono ?_
      rintro e wn ⟨rfl, hbn⟩
      go_wp2_with fail
      go_ret
      exact ⟨rfl, below_of HB hbn⟩
    · have hk1' : decide ((100 : Int) < (k.size : Int)) = false := decide_eq_false (by omega)
      go_wp2_with fail
      refine (ndcheck_any _ 64 A B C ca cb cc _ h).mono ?_
      rintro e wn ⟨rfl, hbn⟩
      replace HB := below_of HB hbn
      replace hbx := hbx.up hbn hsz
      replace hsz := Nat.lt_of_lt_of_le hsz hbn.size
      replace h := h.up hbn
      clear hbn b0 b1 b2 b3 b4 b5 b6 b7
      obtain ⟨b0, b1, b2, b3, b4, b5, b6, b7⟩ := id hbx
      simp only [] at b0 b1 b2 b3 b4 b5 b6 b7
      have hck : ndChk ⟨level, low, high, last, next, keys, vals, kids⟩ 64 = if soundB ⟨level, low, high, last, next, keys, vals, kids⟩ 64 = true then 0 else 10 := if_neg hf64
      rw [hck]
      clear hck
      cases hso : soundB ⟨level, low, high, last, next, keys, vals, kids⟩ 64
      · rw [if_neg Bool.false_ne_true]
        clear hso
        go_wp2_with fail
        refine (lives10_any _).mono ?_
        rintro e wn ⟨rfl, hbn⟩
        go_wp2_with fail
        go_ret
        exact ⟨rfl, below_of HB hbn⟩
      · rw [if_pos rfl]
        have Hso := Lib.hid hso
        clear hso
        by_cases hl0 : level = 0
        · subst hl0
          go_wp2_with fail
          refine (lives10_any _).mono ?_
          rintro e wn ⟨rfl, hbn⟩
          go_wp2_with fail
          go_ret
          exact ⟨rfl, below_of HB hbn⟩
        · have hl0b : (level == (0 : Int)) = false := by simp [hl0]
          go_wp2_with fail
          have Ho := Lib.hid (rt_over (k := k) Hso.out hl0)
          have Hf := Lib.hid (rt_find (k := k) Hso.out hl0)
          refine (kidof_any _ A B C ca cb cc k _ h hk).mono ?_
          rintro e wn ⟨rfl, hbn⟩
          replace HB := below_of HB hbn
          replace hbx := hbx.up hbn hsz
          replace hsz := Nat.lt_of_lt_of_le hsz hbn.size
          replace h := h.up hbn
          clear hbn b0 b1 b2 b3 b4 b5 b6 b7
          obtain ⟨b0, b1, b2, b3, b4, b5, b6, b7⟩ := id hbx
          simp only [] at b0 b1 b2 b3 b4 b5 b6 b7
          generalize kidIs ⟨level, low, high, last, next, keys, vals, kids⟩ (overI ⟨level, low, high, last, next, keys, vals, kids⟩ k) = p at Ho ⊢
          generalize kidAt ⟨level, low, high, last, next, keys, vals, kids⟩ (overI ⟨level, low, high, last, next, keys, vals, kids⟩ k) = x
          go_wp2_with fail
          refine (kidbelow_any _ A B C ca cb cc k _ h hk).mono ?_
          rintro e wn ⟨rfl, hbn⟩
          replace HB := below_of HB hbn
          replace hbx := hbx.up hbn hsz
          replace hsz := Nat.lt_of_lt_of_le hsz hbn.size
          replace h := h.up hbn
          clear hbn b0 b1 b2 b3 b4 b5 b6 b7
          obtain ⟨b0, b1, b2, b3, b4, b5, b6, b7⟩ := id hbx
          simp only [] at b0 b1 b2 b3 b4 b5 b6 b7
          generalize kidIs ⟨level, low, high, last, next, keys, vals, kids⟩ (findI ⟨level, low, high, last, next, keys, vals, kids⟩ k) = q at Hf ⊢
          generalize kidAt ⟨level, low, high, last, next, keys, vals, kids⟩ (findI ⟨level, low, high, last, next, keys, vals, kids⟩ k) = y
          cases p
          · have Hi := Lib.hid (Ho.out rfl)
            clear Ho
            go_wp2_with fail
            refine (Ret.to (covers_any _ A B C ca cb cc k _ h hk) (congrArg Value.bool Hi.out)).mono ?_
            rintro e wn ⟨rfl, hbn⟩
            replace HB := below_of HB hbn
            replace hbx := hbx.up hbn hsz
            replace hsz := Nat.lt_of_lt_of_le hsz hbn.size
            replace h := h.up hbn
            clear hbn b0 b1 b2 b3 b4 b5 b6 b7
            obtain ⟨b0, b1, b2, b3, b4, b5, b6, b7⟩ := id hbx
            simp only [] at b0 b1 b2 b3 b4 b5 b6 b7
            cases q
            · have Hj := Lib.hid (Hf.out rfl)
              clear Hf
              go_wp2_with fail
              refine (Ret.to (beneathN_any _ A B C ca cb cc k _ h hk) (congrArg Value.bool Hj.out)).mono ?_
              rintro e wn ⟨rfl, hbn⟩
              replace HB := below_of HB hbn
              replace hbx := hbx.up hbn hsz
              replace hsz := Nat.lt_of_lt_of_le hsz hbn.size
              replace h := h.up hbn
              clear hbn b0 b1 b2 b3 b4 b5 b6 b7
              obtain ⟨b0, b1, b2, b3, b4, b5, b6, b7⟩ := id hbx
              simp only [] at b0 b1 b2 b3 b4 b5 b6 b7
              go_wp2_with fail
              refine (lives10_any _).mono ?_
              rintro e wn ⟨rfl, hbn⟩
              go_wp2_with fail
              go_ret
              exact ⟨rfl, below_of HB hbn⟩
            · go_wp2_with fail
              refine (lives10_any _).mono ?_
              rintro e wn ⟨rfl, hbn⟩
              go_wp2_with fail
              go_ret
              exact ⟨rfl, below_of HB hbn⟩
          · cases q
            · have Hj := Lib.hid (Hf.out rfl)
              clear Hf
              go_wp2_with fail
              refine (Ret.to (beneathN_any _ A B C ca cb cc k _ h hk) (congrArg Value.bool Hj.out)).mono ?_
              rintro e wn ⟨rfl, hbn⟩
              replace HB := below_of HB hbn
              replace hbx := hbx.up hbn hsz
              replace hsz := Nat.lt_of_lt_of_le hsz hbn.size
              replace h := h.up hbn
              clear hbn b0 b1 b2 b3 b4 b5 b6 b7
              obtain ⟨b0, b1, b2, b3, b4, b5, b6, b7⟩ := id hbx
              simp only [] at b0 b1 b2 b3 b4 b5 b6 b7
              go_wp2_with fail
              refine (lives10_any _).mono ?_
              rintro e wn ⟨rfl, hbn⟩
              go_wp2_with fail
              go_ret
              exact ⟨rfl, below_of HB hbn⟩
            · go_wp2_with fail
              refine (lives10_any _).mono ?_
              rintro e wn ⟨rfl, hbn⟩
              go_wp2_with fail
              go_ret
              exact ⟨rfl, below_of HB hbn⟩

theorem noderoutes_row (d : Nd) (A B C : Option Addr) (ca cb cc : Nat) (k : ByteArray) (w : World) (h : Lies w d A B C ca cb cc) (_ : Bnd d) (hk : k.size ≤ maxLen) :
    Calls Try.prog 5 #[.agg (ndCells d A B C ca cb cc), .string k] w (Ret (.bool true) w) := noderoutes_any d k A B C ca cb cc w h hk

end Go.Proofs.Ytcoiadncennhpaa
