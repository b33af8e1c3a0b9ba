/- Contracts of package node and of its reference: which nodes are sound. -/
import Derived.Test.YtcoiadncennhpaaNode
namespace Go.Proofs.Ytcoiadncennhpaa
open Go.RowKit

def goodB (k : ByteArray) : Bool := decide (1 ≤ k.size) && decide (k.size ≤ 64)
def cellB (n : Int) : Bool := decide (0 ≤ n) && decide (n < 8192)

theorem good_any (k : ByteArray) (w : World) (hk : k.size ≤ maxLen) : Calls Try.prog 134 #[.string k] w (Ret (.bool (goodB k)) w) := by
  have HB := Below.refl w.heap.size w
  have C := check_any k
  have hck : (chk k = 0 ∧ goodB k = true) ∨ (chk k = 2 ∧ goodB k = false) := by
    unfold chk goodB
    by_cases h : k.size < 1 ∨ 64 < k.size
    · right; rw [if_pos h]; simp; omega
    · left; rw [if_neg h]; simp; omega
  rcases hck with ⟨h1, h2⟩ | ⟨h1, h2⟩
  all_goals
    rw [h1] at C
    rw [h2]
    have C1 := Lib.hid C
    clear C h1 h2
    go_enter Try.func134, Try.ntmps134
    go_wp2_with fail
    refine (C1.out _ hk).mono ?_
    rintro e wn ⟨rfl, hbn⟩
    replace HB := below_of (show Below w.heap.size w _ from (by first | exact HB | exact below_drewN HB _ | exact Below.drew HB | exact below_of HB (below_alloc _ _) | exact below_of (below_drewN HB _) (below_alloc _ _))) hbn
    clear hbn
    go_wp2_with fail
    go_ret
    exact ⟨rfl, HB⟩
theorem cell_any (n : Int) (w : World) : Calls Try.prog 135 #[.int .i64 n] w (Ret (.bool (cellB n)) w) := by
  by_cases h : 0 ≤ n
  all_goals
    go_enter Try.func135, Try.ntmps135
    go_wp2_with fail
    go_ret
    refine ⟨ret_bool ?_, Below.refl _ _⟩
    simp [cellB, h]
    try omega
theorem refkey_any (k : ByteArray) (w : World) (hk : k.size ≤ maxLen) : Calls Try.prog 71 #[.string k] w (Ret (.bool (goodB k)) w) := by
  unfold maxLen at hk
  by_cases h : 1 ≤ k.size
  all_goals
    go_enter Try.func71, Try.ntmps71
    go_wp2_with fail
    go_ret
    refine ⟨ret_bool ?_, Below.refl _ _⟩
    simp [goodB, h]
    try omega
theorem refcell_any (n : Int) (w : World) : Calls Try.prog 72 #[.int .i64 n] w (Ret (.bool (cellB n)) w) := by
  by_cases h : 0 ≤ n
  all_goals
    go_enter Try.func72, Try.ntmps72
    go_wp2_with fail
    go_ret
    refine ⟨ret_bool ?_, Below.refl _ _⟩
    simp [cellB, h]
    try omega

/-- The range, and the link. -/
def borderB (d : Nd) : Bool := decide (0 ≤ d.level) && (decide (d.level < 14) && ((decide (d.low.size = 0) || goodB d.low) && (if d.last = true then (decide (d.high.size = 0) && decide (d.next = -1)) else (goodB d.high && (Pl.ls d.low.data.toList d.high.data.toList && cellB d.next)))))

theorem empty_iff (s : ByteArray) : s.toList.isEmpty = decide (s.size = 0) := by
  rw [ByteArray.toList_eq, Bool.eq_iff_iff, List.isEmpty_iff, decide_eq_true_iff]
  show s.data.toList = [] ↔ s.data.size = 0
  rw [← Array.length_toList, List.length_eq_zero_iff]

theorem empty_eq (s : ByteArray) (b : Bool) (h : decide (s.size = 0) = b) : s.toList.isEmpty = b := by rw [empty_iff, h]

/-- The second half of border. -/
def bord2 (low high : ByteArray) (last : Bool) (next : Int) : Bool := if last = true then (decide (high.size = 0) && decide (next = -1)) else (goodB high && (Pl.ls low.data.toList high.data.toList && cellB next))
theorem borderB_eq (level : Int) (low high : ByteArray) (last : Bool) (next : Int) (keys : List ByteArray) (vals kids : List Int) :
    borderB ⟨level, low, high, last, next, keys, vals, kids⟩ = (decide (0 ≤ level) && (decide (level < 14) && ((decide (low.size = 0) || goodB low) && bord2 low high last next))) := rfl

set_option maxHeartbeats 1000000 in
theorem border_any (d : Nd) (A B C : Option Addr) (ca cb cc : Nat) (w : World) (h : Lies w d A B C ca cb cc) :
    Calls Try.prog 115 #[.agg (ndCells d A B C ca cb cc)] w (Ret (.bool (borderB d)) w) := by
  obtain ⟨level, low, high, last, next, keys, vals, kids⟩ := d
  have HB := below_alloc w (.cells (ndCells ⟨level, low, high, last, next, keys, vals, kids⟩ A B C ca cb cc) 26)
  have hbx := Boxed.new w ⟨level, low, high, last, next, keys, vals, kids⟩ A B C ca cb cc 26
  have hsz : w.heap.size < (w.alloc (.cells (ndCells ⟨level, low, high, last, next, keys, vals, kids⟩ A B C ca cb cc) 26)).heap.size := by simp
  have hlow : low.size ≤ maxLen := h.low
  have hhigh : high.size ≤ maxLen := h.high
  simp only [ndCells] at HB hbx hsz ⊢
  have heq := borderB_eq level low high last next keys vals kids
  by_cases hl0 : 0 ≤ level
  · by_cases hl1 : level < 14
    · have he := empty_eq low _ rfl
      cases hlz : decide (low.size = 0)
      · rw [hlz] at he
        cases hgl : goodB low
        · have Hno : Hid (borderB ⟨level, low, high, last, next, keys, vals, kids⟩ = false) := show _ = _ by rw [heq, hlz, hgl]; simp
          have Hgl := Lib.hid hgl
          clear hlz heq hgl
          go_enter Try.func115, Try.ntmps115
          go_wp2_with fail
          generalize w.alloc _ = W at HB hbx hsz ⊢
          obtain ⟨b0, b1, b2, b3, b4, b5, b6, b7⟩ := id hbx
          simp only [] at b0 b1 b2 b3 b4 b5 b6 b7
          refine (good_any low _ hlow).mono ?_
          rintro e wn ⟨rfl, hbn⟩
          replace HB := below_of HB hbn
          replace hbx := hbx.up hbn hsz
          replace hsz := Nat.lt_of_lt_of_le hsz hbn.size
          clear hbn b0 b1 b2 b3 b4 b5 b6 b7
          obtain ⟨b0, b1, b2, b3, b4, b5, b6, b7⟩ := id hbx
          simp only [] at b0 b1 b2 b3 b4 b5 b6 b7
          rw [Hgl.out]
          go_wp2_with fail
          go_ret
          exact ⟨ret_bool Hno.out.symm, HB⟩
        · have hrest : Hid (borderB ⟨level, low, high, last, next, keys, vals, kids⟩ = bord2 low high last next) := show _ = _ by rw [heq, hlz, hgl]; simp [hl0, hl1]
          have Hgl := Lib.hid hgl
          clear hlz heq hgl
          go_enter Try.func115, Try.ntmps115
          go_wp2_with fail
          generalize w.alloc _ = W at HB hbx hsz ⊢
          obtain ⟨b0, b1, b2, b3, b4, b5, b6, b7⟩ := id hbx
          simp only [] at b0 b1 b2 b3 b4 b5 b6 b7
          refine (good_any low _ hlow).mono ?_
          rintro e wn ⟨rfl, hbn⟩
          replace HB := below_of HB hbn
          replace hbx := hbx.up hbn hsz
          replace hsz := Nat.lt_of_lt_of_le hsz hbn.size
          clear hbn b0 b1 b2 b3 b4 b5 b6 b7
          obtain ⟨b0, b1, b2, b3, b4, b5, b6, b7⟩ := id hbx
          simp only [] at b0 b1 b2 b3 b4 b5 b6 b7
          rw [Hgl.out]
          cases last
          · go_wp2_with fail
            refine (good_any high _ hhigh).mono ?_
            rintro e wn ⟨rfl, hbn⟩
            replace HB := below_of HB hbn
            replace hbx := hbx.up hbn hsz
            replace hsz := Nat.lt_of_lt_of_le hsz hbn.size
            clear hbn b0 b1 b2 b3 b4 b5 b6 b7
            obtain ⟨b0, b1, b2, b3, b4, b5, b6, b7⟩ := id hbx
            simp only [] at b0 b1 b2 b3 b4 b5 b6 b7
            cases hg : goodB high
            · have Hg := Lib.hid hg
              clear hg
              go_wp2_with fail
              go_ret
              exact ⟨ret_bool (by rw [hrest.out, bord2, Hg.out]; simp), HB⟩
            · have Hg := Lib.hid hg
              clear hg
              have hcmp := Pl.cmp_lt (a := low.data.toList) (b := high.data.toList)
              cases hls : Pl.ls low.data.toList high.data.toList
              · have c1 : ¬ Pl.cmp low.data.toList high.data.toList < 0 := by rw [hcmp, hls]; simp
                have Hls := Lib.hid hls
                clear hls hcmp
                go_wp2_with fail
                refine (compare_any low high _ hlow hhigh).mono ?_
                rintro e wn ⟨rfl, hbn⟩
                replace HB := below_of HB hbn
                replace hbx := hbx.up hbn hsz
                replace hsz := Nat.lt_of_lt_of_le hsz hbn.size
                clear hbn b0 b1 b2 b3 b4 b5 b6 b7
                obtain ⟨b0, b1, b2, b3, b4, b5, b6, b7⟩ := id hbx
                simp only [] at b0 b1 b2 b3 b4 b5 b6 b7
                go_wp2_with fail
                go_ret
                exact ⟨ret_bool (by rw [hrest.out, bord2, Hg.out, Hls.out]; simp), HB⟩
              · have c1 : Pl.cmp low.data.toList high.data.toList < 0 := hcmp.2 hls
                have Hls := Lib.hid hls
                clear hls hcmp
                go_wp2_with fail
                refine (compare_any low high _ hlow hhigh).mono ?_
                rintro e wn ⟨rfl, hbn⟩
                replace HB := below_of HB hbn
                replace hbx := hbx.up hbn hsz
                replace hsz := Nat.lt_of_lt_of_le hsz hbn.size
                clear hbn b0 b1 b2 b3 b4 b5 b6 b7
                obtain ⟨b0, b1, b2, b3, b4, b5, b6, b7⟩ := id hbx
                simp only [] at b0 b1 b2 b3 b4 b5 b6 b7
                go_wp2_with fail
                refine (cell_any next _).mono ?_
                rintro e wn ⟨rfl, hbn⟩
                replace HB := below_of HB hbn
                replace hbx := hbx.up hbn hsz
                replace hsz := Nat.lt_of_lt_of_le hsz hbn.size
                clear hbn b0 b1 b2 b3 b4 b5 b6 b7
                obtain ⟨b0, b1, b2, b3, b4, b5, b6, b7⟩ := id hbx
                simp only [] at b0 b1 b2 b3 b4 b5 b6 b7
                go_wp2_with fail
                go_ret
                exact ⟨ret_bool (by rw [hrest.out, bord2, Hg.out, Hls.out]; simp), HB⟩
          · have e2 := empty_eq high _ rfl
            cases hz : decide (high.size = 0)
            all_goals
              rw [hz] at e2
              have Hz := Lib.hid hz
              clear hz
              go_wp2_with fail
              all_goals
                go_ret
                refine ⟨ret_bool ?_, HB⟩
                rw [hrest.out, bord2, Hz.out]
                simp
                try rfl
      · rw [hlz] at he
        have hrest : Hid (borderB ⟨level, low, high, last, next, keys, vals, kids⟩ = bord2 low high last next) := show _ = _ by rw [heq, hlz]; simp [hl0, hl1]
        clear hlz heq
        go_enter Try.func115, Try.ntmps115
        go_upto_region 3 with fail
        generalize w.alloc _ = W at HB hbx hsz ⊢
        obtain ⟨b0, b1, b2, b3, b4, b5, b6, b7⟩ := id hbx
        simp only [] at b0 b1 b2 b3 b4 b5 b6 b7
        cases last
        · go_wp2_with fail
          refine (good_any high _ hhigh).mono ?_
          rintro e wn ⟨rfl, hbn⟩
          replace HB := below_of HB hbn
          replace hbx := hbx.up hbn hsz
          replace hsz := Nat.lt_of_lt_of_le hsz hbn.size
          clear hbn b0 b1 b2 b3 b4 b5 b6 b7
          obtain ⟨b0, b1, b2, b3, b4, b5, b6, b7⟩ := id hbx
          simp only [] at b0 b1 b2 b3 b4 b5 b6 b7
          cases hg : goodB high
          · have Hg := Lib.hid hg
            clear hg
            go_wp2_with fail
            go_ret
            exact ⟨ret_bool (by rw [hrest.out, bord2, Hg.out]; simp), HB⟩
          · have Hg := Lib.hid hg
            clear hg
            have hcmp := Pl.cmp_lt (a := low.data.toList) (b := high.data.toList)
            cases hls : Pl.ls low.data.toList high.data.toList
            · have c1 : ¬ Pl.cmp low.data.toList high.data.toList < 0 := by rw [hcmp, hls]; simp
              have Hls := Lib.hid hls
              clear hls hcmp
              go_wp2_with fail
              refine (compare_any low high _ hlow hhigh).mono ?_
              rintro e wn ⟨rfl, hbn⟩
              replace HB := below_of HB hbn
              replace hbx := hbx.up hbn hsz
              replace hsz := Nat.lt_of_lt_of_le hsz hbn.size
              clear hbn b0 b1 b2 b3 b4 b5 b6 b7
              obtain ⟨b0, b1, b2, b3, b4, b5, b6, b7⟩ := id hbx
              simp only [] at b0 b1 b2 b3 b4 b5 b6 b7
              go_wp2_with fail
              go_ret
              exact ⟨ret_bool (by rw [hrest.out, bord2, Hg.out, Hls.out]; simp), HB⟩
            · have c1 : Pl.cmp low.data.toList high.data.toList < 0 := hcmp.2 hls
              have Hls := Lib.hid hls
              clear hls hcmp
              go_wp2_with fail
              refine (compare_any low high _ hlow hhigh).mono ?_
              rintro e wn ⟨rfl, hbn⟩
              replace HB := below_of HB hbn
              replace hbx := hbx.up hbn hsz
              replace hsz := Nat.lt_of_lt_of_le hsz hbn.size
              clear hbn b0 b1 b2 b3 b4 b5 b6 b7
              obtain ⟨b0, b1, b2, b3, b4, b5, b6, b7⟩ := id hbx
              simp only [] at b0 b1 b2 b3 b4 b5 b6 b7
              go_wp2_with fail
              refine (cell_any next _).mono ?_
              rintro e wn ⟨rfl, hbn⟩
              replace HB := below_of HB hbn
              replace hbx := hbx.up hbn hsz
              replace hsz := Nat.lt_of_lt_of_le hsz hbn.size
              clear hbn b0 b1 b2 b3 b4 b5 b6 b7
              obtain ⟨b0, b1, b2, b3, b4, b5, b6, b7⟩ := id hbx
              simp only [] at b0 b1 b2 b3 b4 b5 b6 b7
              go_wp2_with fail
              go_ret
              exact ⟨ret_bool (by rw [hrest.out, bord2, Hg.out, Hls.out]; simp), HB⟩
        · have e2 := empty_eq high _ rfl
          cases hz : decide (high.size = 0)
          all_goals
            rw [hz] at e2
            have Hz := Lib.hid hz
            clear hz
            go_wp2_with fail
            all_goals
              go_ret
              refine ⟨ret_bool ?_, HB⟩
              rw [hrest.out, bord2, Hz.out]
              simp
              try rfl
    · have Hno : Hid (borderB ⟨level, low, high, last, next, keys, vals, kids⟩ = false) := show _ = _ by rw [heq]; simp; omega
      clear heq
      go_enter Try.func115, Try.ntmps115
      go_wp2_with fail
      go_ret
      exact ⟨ret_bool Hno.out.symm, HB⟩
  · have Hno : Hid (borderB ⟨level, low, high, last, next, keys, vals, kids⟩ = false) := show _ = _ by rw [heq]; simp; omega
    clear heq
    go_enter Try.func115, Try.ntmps115
    go_wp2_with fail
    go_ret
    exact ⟨ret_bool Hno.out.symm, HB⟩
end Go.Proofs.Ytcoiadncennhpaa
