/- Contracts of package node and of its reference: which nodes are sound, part two. -/
import Derived.Test.YtcoiadncennhpaaNode2
namespace Go.Proofs.Ytcoiadncennhpaa
open Go.RowKit

theorem low_ok (low : ByteArray) : (decide (low.size = 0) || goodB low) = decide (low.size ≤ 64) := by
  unfold goodB
  rw [Bool.eq_iff_iff]
  simp only [Bool.or_eq_true, Bool.and_eq_true, decide_eq_true_iff]
  omega

set_option maxHeartbeats 1000000 in
theorem refborder_any (d : Nd) (A B C : Option Addr) (ca cb cc : Nat) (w : World) (h : Lies w d A B C ca cb cc) :
    Calls Try.prog 68 #[.agg (ndCells d A B C ca cb cc)] w (Ret (.bool (borderB d)) w) := by
  obtain ⟨level, low, high, last, next, keys, vals, kids⟩ := d
  have HB := below_alloc w (.cells (ndCells ⟨level, low, high, last, next, keys, vals, kids⟩ A B C ca cb cc) 26)
  have hbx := Boxed.new w ⟨level, low, high, last, next, keys, vals, kids⟩ A B C ca cb cc 26
  have hsz : w.heap.size < (w.alloc (.cells (ndCells ⟨level, low, high, last, next, keys, vals, kids⟩ A B C ca cb cc) 26)).heap.size := by simp
  have hlow : low.size ≤ maxLen := h.low
  have hhigh : high.size ≤ maxLen := h.high
  simp only [ndCells] at HB hbx hsz ⊢
  have heq := borderB_eq level low high last next keys vals kids
  rw [low_ok] at heq
  have hlow' : low.size ≤ 9223372036854775807 := hlow
  by_cases hok : 0 ≤ level ∧ level < 14 ∧ low.size ≤ 64
  · obtain ⟨hl0, hl1, hl2⟩ := hok
    have hrest : Hid (borderB ⟨level, low, high, last, next, keys, vals, kids⟩ = bord2 low high last next) := show _ = _ by rw [heq]; simp [hl0, hl1, hl2]
    clear heq
    go_enter Try.func68, Try.ntmps68
    go_upto_region 3 with fail
    generalize w.alloc _ = W at HB hbx hsz ⊢
    obtain ⟨b0, b1, b2, b3, b4, b5, b6, b7⟩ := id hbx
    simp only [] at b0 b1 b2 b3 b4 b5 b6 b7
    cases last
    · go_wp2_with fail
      refine (refkey_any high _ hhigh).mono ?_
      rintro e wn ⟨rfl, hbn⟩
      replace HB := below_of HB hbn
      replace hbx := hbx.up hbn hsz
      replace hsz := Nat.lt_of_lt_of_le hsz hbn.size
      clear hbn b0 b1 b2 b3 b4 b5 b6 b7
      obtain ⟨b0, b1, b2, b3, b4, b5, b6, b7⟩ := id hbx
      simp only [] at b0 b1 b2 b3 b4 b5 b6 b7
      cases hg : goodB high
      · have Hg := Lib.hid hg
        clear hg
        go_wp2_with fail
        go_ret
        exact ⟨ret_bool (by rw [hrest.out, bord2, Hg.out]; simp), HB⟩
      · have Hg := Lib.hid hg
        clear hg
        go_wp2_with fail
        refine (refless_any low high _ hlow hhigh).mono ?_
        rintro e wn ⟨rfl, hbn⟩
        replace HB := below_of HB hbn
        replace hbx := hbx.up hbn hsz
        replace hsz := Nat.lt_of_lt_of_le hsz hbn.size
        clear hbn b0 b1 b2 b3 b4 b5 b6 b7
        obtain ⟨b0, b1, b2, b3, b4, b5, b6, b7⟩ := id hbx
        simp only [] at b0 b1 b2 b3 b4 b5 b6 b7
        cases hls : Pl.ls low.data.toList high.data.toList
        · have Hls := Lib.hid hls
          clear hls
          go_wp2_with fail
          go_ret
          exact ⟨ret_bool (by rw [hrest.out, bord2, Hg.out, Hls.out]; simp), HB⟩
        · have Hls := Lib.hid hls
          clear hls
          go_wp2_with fail
          refine (refcell_any next _).mono ?_
          rintro e wn ⟨rfl, hbn⟩
          replace HB := below_of HB hbn
          replace hbx := hbx.up hbn hsz
          replace hsz := Nat.lt_of_lt_of_le hsz hbn.size
          clear hbn b0 b1 b2 b3 b4 b5 b6 b7
          obtain ⟨b0, b1, b2, b3, b4, b5, b6, b7⟩ := id hbx
          simp only [] at b0 b1 b2 b3 b4 b5 b6 b7
          go_wp2_with fail
          go_ret
          exact ⟨ret_bool (by rw [hrest.out, bord2, Hg.out, Hls.out]; simp), HB⟩
    · have e2 := empty_eq high _ rfl
      cases hz : decide (high.size = 0)
      all_goals
        rw [hz] at e2
        have Hz := Lib.hid hz
        clear hz
        go_wp2_with fail
        all_goals
          go_ret
          refine ⟨ret_bool ?_, HB⟩
          rw [hrest.out, bord2, Hz.out]
          simp
          try rfl
  · have Hno : Hid (borderB ⟨level, low, high, last, next, keys, vals, kids⟩ = false) := show _ = _ by rw [heq]; simp; omega
    clear heq
    rcases (show level < 0 ∨ (0 ≤ level ∧ 13 < level) ∨ (0 ≤ level ∧ level ≤ 13 ∧ 64 < low.size) from by omega) with c1 | ⟨c1, c2⟩ | ⟨c1, c2, c3⟩
    all_goals
      go_enter Try.func68, Try.ntmps68
      go_wp2_with fail
      go_ret
      exact ⟨ret_bool Hno.out.symm, HB⟩

/-- Does the range have a text? -/
def insB (d : Nd) (k : ByteArray) : Bool := !Pl.ls k.data.toList d.low.data.toList && (d.last || Pl.ls k.data.toList d.high.data.toList)

theorem covers_any (d : Nd) (A B C : Option Addr) (ca cb cc : Nat) (k : ByteArray) (w : World) (h : Lies w d A B C ca cb cc) (hk : k.size ≤ maxLen) :
    Calls Try.prog 26 #[.agg (ndCells d A B C ca cb cc), .string k] w (Ret (.bool (insB d k)) w) := by
  obtain ⟨level, low, high, last, next, keys, vals, kids⟩ := d
  have HB := below_alloc w (.cells (ndCells ⟨level, low, high, last, next, keys, vals, kids⟩ A B C ca cb cc) 26)
  have hbx := Boxed.new w ⟨level, low, high, last, next, keys, vals, kids⟩ A B C ca cb cc 26
  have hsz : w.heap.size < (w.alloc (.cells (ndCells ⟨level, low, high, last, next, keys, vals, kids⟩ A B C ca cb cc) 26)).heap.size := by simp
  have hlow : low.size ≤ maxLen := h.low
  have hhigh : high.size ≤ maxLen := h.high
  simp only [ndCells] at HB hbx hsz ⊢
  have hi := Lib.hid (fun W => inside_any low high last k W hlow hhigh hk)
  go_enter Try.func26, Try.ntmps26
  go_wp2_with fail
  generalize w.alloc _ = W at HB hbx hsz ⊢
  obtain ⟨b0, b1, b2, b3, b4, b5, b6, b7⟩ := id hbx
  simp only [] at b0 b1 b2 b3 b4 b5 b6 b7
  refine (hi.out _).mono ?_
  rintro e wn ⟨rfl, hbn⟩
  replace HB := below_of HB hbn
  replace hbx := hbx.up hbn hsz
  replace hsz := Nat.lt_of_lt_of_le hsz hbn.size
  clear hbn b0 b1 b2 b3 b4 b5 b6 b7
  obtain ⟨b0, b1, b2, b3, b4, b5, b6, b7⟩ := id hbx
  simp only [] at b0 b1 b2 b3 b4 b5 b6 b7
  go_wp2_with fail
  go_ret
  exact ⟨rfl, HB⟩

/-- A leaf's entries. -/
def valsB (d : Nd) : Bool := decide (d.vals.length = d.keys.length) && (decide (d.kids.length = 0) && d.keys.all goodB)

set_option maxHeartbeats 1000000 in
theorem vals_any (d : Nd) (A B C : Option Addr) (ca cb cc : Nat) (w : World) (h : Lies w d A B C ca cb cc) :
    Calls Try.prog 117 #[.agg (ndCells d A B C ca cb cc)] w (Ret (.bool (valsB d)) w) := by
  have hk0 := h.keys
  have hfit := h.fit
  have hla := h.la
  have hlb := h.lb
  have hlc := h.lc
  obtain ⟨level, low, high, last, next, keys, vals, kids⟩ := d
  have HB := below_alloc w (.cells (ndCells ⟨level, low, high, last, next, keys, vals, kids⟩ A B C ca cb cc) 26)
  have hbx := Boxed.new w ⟨level, low, high, last, next, keys, vals, kids⟩ A B C ca cb cc 26
  have hsz : w.heap.size < (w.alloc (.cells (ndCells ⟨level, low, high, last, next, keys, vals, kids⟩ A B C ca cb cc) 26)).heap.size := by simp
  have hlow : low.size ≤ maxLen := h.low
  have hhigh : high.size ≤ maxLen := h.high
  simp only [ndCells] at HB hbx hsz ⊢
  have hk := hk0.up HB
  clear hk0 h
  simp only [] at hk hfit hla hlb hlc
  have heq : valsB ⟨level, low, high, last, next, keys, vals, kids⟩ = (decide (vals.length = keys.length) && (decide (kids.length = 0) && keys.all goodB)) := rfl
  by_cases c1 : vals.length = keys.length
  · have t1 : ((vals.length : Int) != (keys.length : Int)) = false := by rw [bne_eq_false_iff_eq]; omega
    by_cases c2 : kids.length = 0
    · have hall : valsB ⟨level, low, high, last, next, keys, vals, kids⟩ = keys.all goodB := by rw [heq]; simp [c1, c2]
      have Hall := Lib.hid hall
      have c2' : ¬ (0 : Int) < (kids.length : Int) := by omega
      clear heq hall c1 c2
      go_enter Try.func117, Try.ntmps117
      go_wp2_with fail
      generalize w.alloc _ = W at HB hbx hsz hk ⊢
      go_loopw [4, 21] (fun _ i wr => ∃ j : Nat, j ≤ keys.length ∧ i = .int .i64 j ∧ Hid (∀ (q : Nat) (hq : q < keys.length), q < j → goodB keys[q] = true) ∧ Below W.heap.size W wr) (fun _ i _ => keys.length - (intOf i).toNat)
      case atStart => exact ⟨0, Nat.zero_le _, rfl, fun q _ hq => absurd hq (Nat.not_lt_zero _), Below.refl _ _⟩
      case round =>
        obtain ⟨j, hj, rfl, hpre, hbel⟩ := hrel
        by_cases hlt : j < keys.length
        · obtain ⟨b, off, rfl, hbB, hc⟩ := (hk.up hbel).spot (by omega)
          have hcj := hc j hlt
          have hmj := hfit j hlt
          clear hc
          go_wp2_with fail
          refine (good_any _ _ hmj).mono ?_
          rintro e wn ⟨rfl, hbn⟩
          cases hg : goodB keys[j]
          · have Hg := Lib.hid hg
            clear hg
            go_wp2_with fail
            go_ret
            refine ⟨ret_bool ?_, below_of HB (below_of hbel hbn)⟩
            rw [Hall.out]
            symm
            rw [List.all_eq_false]
            exact ⟨_, List.getElem_mem hlt, by rw [Hg.out]; exact Bool.false_ne_true⟩
          · have Hg := Lib.hid hg
            clear hg
            go_wp2_with fail
            go_roundw
            case rel =>
              refine ⟨j + 1, by omega, by go_num, fun q hq hqj => ?_, below_of hbel hbn⟩
              rcases Nat.lt_succ_iff_lt_or_eq.1 hqj with g | rfl
              · exact hpre.out q hq g
              · exact Hg.out
            case measure => simp [intOf]; omega
        · go_wp2_with fail
          go_ret
          refine ⟨ret_bool ?_, below_of HB hbel⟩
          rw [Hall.out]
          symm
          rw [List.all_eq_true]
          intro s hs
          obtain ⟨q, hq, rfl⟩ := List.getElem_of_mem hs
          exact hpre.out q hq (by omega)
    · have Hno : Hid (valsB ⟨level, low, high, last, next, keys, vals, kids⟩ = false) := show _ = _ by rw [heq, decide_eq_false c2]; simp
      have c2' : (0 : Int) < (kids.length : Int) := by omega
      clear heq c1 c2
      go_enter Try.func117, Try.ntmps117
      go_wp2_with fail
      go_ret
      exact ⟨ret_bool Hno.out.symm, HB⟩
  · have Hno : Hid (valsB ⟨level, low, high, last, next, keys, vals, kids⟩ = false) := show _ = _ by rw [heq]; simp [c1]
    have t1 : ((vals.length : Int) != (keys.length : Int)) = true := by rw [bne_iff_ne]; omega
    clear heq c1
    go_enter Try.func117, Try.ntmps117
    go_wp2_with fail
    go_ret
    exact ⟨ret_bool Hno.out.symm, HB⟩

/-- How many entries a node should have, at least. -/
def leastB (level fan : Int) : Int := if 0 < level then max ((fan + 3) / 4) 2 else (fan + 3) / 4

theorem least_any (level fan : Int) (w : World) (h : 4 ≤ fan) (h2 : fan ≤ 64) : Calls Try.prog 19 #[.int .i64 level, .int .i64 fan] w (Ret (.int .i64 (leastB level fan)) w) := by
  by_cases h3 : 0 < fan % 4
  all_goals
    by_cases h4 : 0 < level
  all_goals
    by_cases h5 : 4 < fan
  all_goals
    have hle : Hid (leastB level fan = leastB level fan) := rfl
    go_enter Try.func19, Try.ntmps19
    go_wp2_with fail
    all_goals
      go_ret
      refine ⟨ret_i64 ?_, Below.refl _ _⟩
      simp only [leastB, h4, if_true, if_false]
      omega

theorem refleast_any (level fan : Int) (w : World) (h : 4 ≤ fan) (h2 : fan ≤ 64) : Calls Try.prog 20 #[.int .i64 level, .int .i64 fan] w (Ret (.int .i64 (leastB level fan)) w) := by
  go_enter Try.func20, Try.ntmps20
  go_wp2_with fail
  go_loop [5] (fun i => ∃ k : Nat, (k : Int) ≤ (fan + 3) / 4 ∧ i = .int .i64 k) (fun i => 64 - (intOf i).toNat)
  case atStart => exact ⟨0, by omega, rfl⟩
  case round =>
    obtain ⟨k, hk, rfl⟩ := hrel
    by_cases hlt : 4 * (k : Int) < fan
    · go_wp2_with fail
      go_round
      case rel => exact ⟨k + 1, by omega, by go_num⟩
      case measure => simp [intOf]; omega
    · have hke : (k : Int) = (fan + 3) / 4 := by omega
      have Hke := Lib.hid hke
      clear hke
      by_cases h4 : 0 < level
      all_goals
        by_cases h5 : (k : Int) < 2
      all_goals
        go_wp2_with fail
        go_ret
        refine ⟨ret_i64 ?_, Below.refl _ _⟩
        have := Hke.out
        simp only [leastB, h4, if_true, if_false]
        omega
end Go.Proofs.Ytcoiadncennhpaa
