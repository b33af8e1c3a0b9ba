/- Contracts of package inner and of its reference: sound, cell, Place. -/
import Derived.Test.YtcoiadncennhpaaInPl
namespace Go.Proofs.Ytcoiadncennhpaa
open Go.RowKit

set_option maxRecDepth 100000 in
set_option maxHeartbeats 1000000 in
theorem insound_any (d : Nd) (A B C : Option Addr) (ca cb cc : Nat) (w : World) (h : Lies w d A B C ca cb cc) : Calls Try.prog 94 #[.agg (ndCells d A B C ca cb cc)] w (Ret (.bool (innerB d)) w) := by
  have HB := below_alloc w (.cells (ndCells d A B C ca cb cc) 26)
  have hbx := Boxed.new w d A B C ca cb cc 26
  replace h := h.up HB
  have HC := Lib.hid (fun W hW => ndcheck_any d 64 A B C ca cb cc W hW)
  have hlb : innerB d = (decide (0 < d.level) && soundB d 64) := rfl
  have hck : ndChk d 64 = if soundB d 64 = true then 0 else 10 := if_neg (by omega)
  generalize soundB d 64 = s at hlb hck HC
  generalize innerB d = lb at hlb ⊢
  rw [hck] at HC
  have HL := Lib.hid hlb
  clear hlb hck
  obtain ⟨level, low, high, last, next, keys, vals, kids⟩ := d
  simp only [ndCells] at HB hbx h HC ⊢
  simp only [] at HL
  go_enter Try.func94, Try.ntmps94
  go_upto_region 1 with fail
  generalize w.alloc _ = W at HB hbx h ⊢
  obtain ⟨x0, x1, x2, x3, x4, x5, x6, x7⟩ := id hbx
  simp only [] at x0 x1 x2 x3 x4 x5 x6 x7
  by_cases hl : 0 < level
  · have hl2 : decide (0 < level) = true := decide_eq_true hl
    cases s
    all_goals
      have HC0 := HC
      clear HC
      have HLL := Lib.hid hl2
      clear hl2
      try simp only [if_true, if_false, Bool.false_eq_true] at HC0
      go_wp2_with fail
      refine (HC0.out _ h).mono ?_
      rintro e wn ⟨rfl, hbn⟩
      have HB2 := Lib.hid (below_of HB hbn)
      clear hbn
      go_wp2_with fail
      go_ret
      exact ⟨ret_bool (by rw [HL.out, HLL.out]; rfl), HB2.out⟩
  · have hl2 : decide (0 < level) = false := decide_eq_false hl
    have HLL := Lib.hid hl2
    go_wp2_with fail
    go_ret
    exact ⟨ret_bool (by rw [HL.out, HLL.out]; rfl), HB⟩

set_option maxRecDepth 100000 in
set_option maxHeartbeats 1000000 in
theorem refinner_any (d : Nd) (A B C : Option Addr) (ca cb cc : Nat) (w : World) (h : Lies w d A B C ca cb cc) : Calls Try.prog 95 #[.agg (ndCells d A B C ca cb cc)] w (Ret (.bool (innerB d)) w) := by
  have HB := below_alloc w (.cells (ndCells d A B C ca cb cc) 26)
  have hbx := Boxed.new w d A B C ca cb cc 26
  replace h := h.up HB
  have HC := Lib.hid (fun W hW => refsound_any d 64 A B C ca cb cc W hW)
  have hlb : innerB d = (decide (0 < d.level) && soundB d 64) := rfl
  have hck : ndChk d 64 = if soundB d 64 = true then 0 else 10 := if_neg (by omega)
  generalize soundB d 64 = s at hlb hck HC
  generalize innerB d = lb at hlb ⊢
  skip
  have HL := Lib.hid hlb
  clear hlb hck
  obtain ⟨level, low, high, last, next, keys, vals, kids⟩ := d
  simp only [ndCells] at HB hbx h HC ⊢
  simp only [] at HL
  go_enter Try.func95, Try.ntmps95
  go_upto_region 1 with fail
  generalize w.alloc _ = W at HB hbx h ⊢
  obtain ⟨x0, x1, x2, x3, x4, x5, x6, x7⟩ := id hbx
  simp only [] at x0 x1 x2 x3 x4 x5 x6 x7
  by_cases hl : 0 < level
  · have hl2 : decide (0 < level) = true := decide_eq_true hl
    cases s
    all_goals
      have HC0 := HC
      clear HC
      have HLL := Lib.hid hl2
      clear hl2
      try simp only [if_true, if_false, Bool.false_eq_true] at HC0
      go_wp2_with fail
      refine (HC0.out _ h).mono ?_
      rintro e wn ⟨rfl, hbn⟩
      have HB2 := Lib.hid (below_of HB hbn)
      clear hbn
      go_wp2_with fail
      go_ret
      exact ⟨ret_bool (by rw [HL.out, HLL.out]; rfl), HB2.out⟩
  · have hl2 : decide (0 < level) = false := decide_eq_false hl
    have HLL := Lib.hid hl2
    go_wp2_with fail
    go_ret
    exact ⟨ret_bool (by rw [HL.out, HLL.out]; rfl), HB⟩


theorem incell_any (n : Int) (w : World) : Calls Try.prog 108 #[.int .i64 n] w (Ret (.bool (cellB n)) w) := by
  by_cases h : 0 ≤ n
  all_goals
    go_enter Try.func108, Try.ntmps108
    go_wp2_with fail
    go_ret
    refine ⟨ret_bool ?_, Below.refl _ _⟩
    simp [cellB, h]
    try omega

/-- In a loop up to i, none yet. -/
theorem place_no {d : Nd} {k : Int} (h : ∀ (q : Nat) (hq : q < d.kids.length), d.kids[q] ≠ k) : placeB d k = false ∧ placeI d k = 0 := by
  have h1 : placeB d k = false := by
    unfold placeB
    rw [Bool.and_eq_false_iff, decide_eq_false_iff_not]
    right
    intro hm
    obtain ⟨q, hq, e⟩ := List.getElem_of_mem hm
    exact h q hq e
  exact ⟨h1, if_neg (by rw [h1]; exact Bool.false_ne_true)⟩
theorem place_out {d : Nd} {k : Int} (h : innerB d = false) : placeB d k = false ∧ placeI d k = 0 := by
  have h1 : placeB d k = false := by unfold placeB; rw [h]; rfl
  exact ⟨h1, if_neg (by rw [h1]; exact Bool.false_ne_true)⟩
theorem place_yes {d : Nd} {k : Int} {i : Nat} (h0 : innerB d = true) (hi : i < d.kids.length) (h : ∀ (q : Nat) (hq : q < d.kids.length), q < i → d.kids[q] ≠ k) (e : d.kids[i] = k) : placeB d k = true ∧ placeI d k = i := by
  have h1 : placeB d k = true := by
    unfold placeB
    rw [h0, Bool.true_and, decide_eq_true_iff, ← e]
    exact List.getElem_mem hi
  refine ⟨h1, ?_⟩
  unfold placeI
  rw [if_pos h1]
  exact idxK_at _ _ _ hi (fun q hq => h q _ hq) e

set_option maxRecDepth 100000 in
set_option maxHeartbeats 1000000 in
theorem place_any (d : Nd) (k : Int) (A B C : Option Addr) (ca cb cc : Nat) (w : World) (h : Lies w d A B C ca cb cc) :
    Calls Try.prog 59 #[.agg (ndCells d A B C ca cb cc), .int .i64 k] w (Ret (.tuple #[.int .i64 (placeI d k : Nat), .bool (placeB d k)]) w) := by
  have HC := Lib.hid (fun W hW => insound_any d A B C ca cb cc W hW)
  have HN := Lib.hid (fun (q : ∀ (q : Nat) (hq : q < d.kids.length), d.kids[q] ≠ k) => place_no q)
  have HO := Lib.hid (place_out (d := d) (k := k))
  have HY := Lib.hid (fun (h0 : innerB d = true) (i : Nat) (hi : i < d.kids.length) (h : ∀ (q : Nat) (hq : q < d.kids.length), q < i → d.kids[q] ≠ k) (e : d.kids[i] = k) => place_yes h0 hi h e)
  generalize placeB d k = pb at HN HO HY ⊢
  generalize placeI d k = pi at HN HO HY ⊢
  generalize innerB d = ib at HC HO HY
  obtain ⟨level, low, high, last, next, keys, vals, kids⟩ := d
  have HB := below_alloc w (.cells (ndCells ⟨level, low, high, last, next, keys, vals, kids⟩ A B C ca cb cc) 26)
  have hbx := Boxed.new w ⟨level, low, high, last, next, keys, vals, kids⟩ A B C ca cb cc 26
  have hsz : w.heap.size < (w.alloc (.cells (ndCells ⟨level, low, high, last, next, keys, vals, kids⟩ A B C ca cb cc) 26)).heap.size := by simp
  replace h := h.up HB
  simp only [ndCells] at HB hbx hsz h HC ⊢
  simp only [] at HN HY
  go_enter Try.func59, Try.ntmps59
  go_upto_region 1 with fail
  generalize w.alloc _ = W at HB hbx hsz h ⊢
  obtain ⟨x0, x1, x2, x3, x4, x5, x6, x7⟩ := id hbx
  simp only [] at x0 x1 x2 x3 x4 x5 x6 x7
  go_wp2_with fail
  refine (HC.out _ h).mono ?_
  rintro e wn ⟨rfl, hbn⟩
  replace HB := below_of HB hbn
  replace hbx := hbx.up hbn hsz
  replace hsz := Nat.lt_of_lt_of_le hsz hbn.size
  replace h := h.up hbn
  clear hbn x0 x1 x2 x3 x4 x5 x6 x7
  obtain ⟨x0, x1, x2, x3, x4, x5, x6, x7⟩ := id hbx
  simp only [] at x0 x1 x2 x3 x4 x5 x6 x7
  cases ib
  · obtain ⟨rfl, rfl⟩ := HO.out rfl
    go_wp2_with fail
    go_ret2
    exact ⟨rfl, HB⟩
  · have hk : RdI _ C kids.length kids := h.kids
    have hlc : kids.length ≤ 9223372036854775807 := h.lc
    go_wp2_with fail
    go_loop [6, 13] (fun _ i => ∃ j : Nat, j ≤ kids.length ∧ i = .int .i64 j ∧ Hid (∀ (q : Nat) (hq : q < kids.length), q < j → kids[q] ≠ k)) (fun _ i => kids.length - (intOf i).toNat)
    case atStart => exact ⟨0, Nat.zero_le _, rfl, fun q _ hq => absurd hq (Nat.not_lt_zero _)⟩
    case round =>
      obtain ⟨j, hj, rfl, hpre⟩ := hrel
      by_cases hlt : j < kids.length
      · obtain ⟨b, off, rfl, hbB, hc⟩ := hk.spot (by omega)
        have hcj := hc j hlt
        clear hc
        by_cases hs : kids[j] = k
        · obtain ⟨rfl, rfl⟩ := HY.out (by trivial) j hlt hpre.out hs
          have hs2 : (kids[pi] == k) = true := beq_iff_eq.2 hs
          clear hs
          generalize kids[pi] = kj at hcj hs2
          go_wp2_with fail
          go_ret2
          exact ⟨rfl, HB⟩
        · have hs2 : (kids[j] == k) = false := by simpa using hs
          have HS := Lib.hid hs
          clear hs
          generalize hkj : kids[j] = kj at hcj hs2
          have HKJ := Lib.hid hkj
          clear hkj
          go_wp2_with fail
          go_round
          case rel =>
            refine ⟨j + 1, by omega, by go_num, fun q hq hqj => ?_⟩
            rcases Nat.lt_succ_iff_lt_or_eq.1 hqj with g | rfl
            · exact hpre.out q hq g
            · exact HS.out
          case measure => simp [intOf]; omega
      · obtain ⟨rfl, rfl⟩ := HN.out (fun q hq => hpre.out q hq (by omega))
        have hlt2 : ¬ (j : Int) < (kids.length : Int) := by omega
        go_wp2_with fail
        go_ret2
        exact ⟨rfl, HB⟩

set_option maxRecDepth 100000 in
set_option maxHeartbeats 2000000 in
theorem refplace_any (d : Nd) (k : Int) (A B C : Option Addr) (ca cb cc : Nat) (w : World) (h : Lies w d A B C ca cb cc) :
    Calls Try.prog 60 #[.agg (ndCells d A B C ca cb cc), .int .i64 k] w (Ret (.tuple #[.int .i64 (placeI d k : Nat), .bool (placeB d k)]) w) := by
  have HC := Lib.hid (fun W hW => refinner_any d A B C ca cb cc W hW)
  have HN := Lib.hid (fun (q : ∀ (q : Nat) (hq : q < d.kids.length), d.kids[q] ≠ k) => place_no q)
  have HO := Lib.hid (place_out (d := d) (k := k))
  have HY := Lib.hid (fun (h0 : innerB d = true) (i : Nat) (hi : i < d.kids.length) (h : ∀ (q : Nat) (hq : q < d.kids.length), q < i → d.kids[q] ≠ k) (e : d.kids[i] = k) => place_yes h0 hi h e)
  generalize placeB d k = pb at HN HO HY ⊢
  generalize placeI d k = pi at HN HO HY ⊢
  generalize innerB d = ib at HC HO HY
  obtain ⟨level, low, high, last, next, keys, vals, kids⟩ := d
  have HB := below_alloc w (.cells (ndCells ⟨level, low, high, last, next, keys, vals, kids⟩ A B C ca cb cc) 26)
  have hbx := Boxed.new w ⟨level, low, high, last, next, keys, vals, kids⟩ A B C ca cb cc 26
  have hsz : w.heap.size < (w.alloc (.cells (ndCells ⟨level, low, high, last, next, keys, vals, kids⟩ A B C ca cb cc) 26)).heap.size := by simp
  replace h := h.up HB
  simp only [ndCells] at HB hbx hsz h HC ⊢
  simp only [] at HN HY
  have hlc : kids.length ≤ 9223372036854775807 := h.lc
  go_enter Try.func60, Try.ntmps60
  go_upto_region 1 with fail
  generalize w.alloc _ = W at HB hbx hsz h ⊢
  go_wp2_with fail
  go_loopw [6] (fun i wr => ∃ j : Nat, j ≤ kids.length ∧ i = .int .i64 j ∧ Hid ((∀ (q : Nat) (hq : q < kids.length), q < j → kids[q] ≠ k) ∧ (0 < j → ib = true)) ∧ Hid (Below W.heap.size W wr)) (fun i _ => kids.length - (intOf i).toNat)
  case atStart => exact ⟨0, Nat.zero_le _, rfl, ⟨fun q _ hq => absurd hq (Nat.not_lt_zero _), fun h => absurd h (Nat.lt_irrefl _)⟩, Below.refl _ _⟩
  case round =>
    obtain ⟨j, hj, rfl, hpre, hbel⟩ := hrel
    obtain ⟨x0, x1, x2, x3, x4, x5, x6, x7⟩ := id (hbx.up hbel.out hsz)
    simp only [] at x0 x1 x2 x3 x4 x5 x6 x7
    by_cases hlt : j < kids.length
    · have hlt2 : (j : Int) < (kids.length : Int) := by omega
      go_wp2_with fail
      refine (HC.out _ (h.up hbel.out)).mono ?_
      rintro e wn ⟨rfl, hbn⟩
      replace hbel := Lib.hid (below_of hbel.out hbn)
      clear hbn x0 x1 x2 x3 x4 x5 x6 x7
      obtain ⟨x0, x1, x2, x3, x4, x5, x6, x7⟩ := id (hbx.up hbel.out hsz)
      simp only [] at x0 x1 x2 x3 x4 x5 x6 x7
      cases ib
      · obtain ⟨rfl, rfl⟩ := HO.out rfl
        have hHB := Lib.hid (below_of HB hbel.out)
        clear hlt2 HC HN HY
        go_wp2_with fail
        go_ret2
        exact ⟨rfl, hHB.out⟩
      · have hHB := Lib.hid (below_of HB hbel.out)
        have hk : RdI _ C kids.length kids := h.kids.up hbel.out
        obtain ⟨b, off, rfl, hbB, hc⟩ := hk.spot (by omega)
        have hcj := hc j hlt
        clear hc
        by_cases hs : kids[j] = k
        · obtain ⟨rfl, rfl⟩ := HY.out (by trivial) j hlt hpre.out.1 hs
          have hs2 : (kids[pi] == k) = true := beq_iff_eq.2 hs
          clear hs
          generalize kids[pi] = kj at hcj hs2
          go_wp2_with fail
          go_ret2
          exact ⟨rfl, hHB.out⟩
        · have hs2 : (kids[j] == k) = false := by simpa using hs
          have HS := Lib.hid hs
          clear hs
          generalize hkj : kids[j] = kj at hcj hs2
          have HKJ := Lib.hid hkj
          clear hkj
          go_wp2_with fail
          go_roundw
          case rel =>
            refine ⟨j + 1, by omega, by go_num, ⟨fun q hq hqj => ?_, fun _ => (by trivial)⟩, hbel⟩
            rcases Nat.lt_succ_iff_lt_or_eq.1 hqj with g | rfl
            · exact hpre.out.1 q hq g
            · exact HS.out
          case measure => simp [intOf]; omega
    · obtain ⟨rfl, rfl⟩ := HN.out (fun q hq => hpre.out.1 q hq (by omega))
      have hlt2 : ¬ (j : Int) < (kids.length : Int) := by omega
      have hHB := Lib.hid (below_of HB hbel.out)
      go_wp2_with fail
      go_ret2
      exact ⟨rfl, hHB.out⟩

end Go.Proofs.Ytcoiadncennhpaa
