/- Inner nodes whose entries change: plain. -/
import Derived.Test.YtcoiadncennhpaaLeafWith
namespace Go.Proofs.Ytcoiadncennhpaa
open Go.RowKit

/-- Where a number is in a row, first. -/
def idxK : List Int → Int → Nat
  | [], _ => 0
  | x :: xs, k => if x = k then 0 else idxK xs k + 1
theorem idxK_at : ∀ (xs : List Int) (k : Int) (i : Nat) (hi : i < xs.length), (∀ q (hq : q < i), xs[q]'(Nat.lt_trans hq hi) ≠ k) → xs[i] = k → idxK xs k = i
  | [], _, _, hi, _, _ => absurd hi (Nat.not_lt_zero _)
  | x :: xs, k, 0, _, _, e => if_pos e
  | x :: xs, k, i + 1, hi, h, e => by
    have h0 : x ≠ k := h 0 (Nat.succ_pos _)
    unfold idxK
    rw [if_neg h0, idxK_at xs k i (Nat.lt_of_succ_lt_succ hi) (fun q hq => h (q + 1) (Nat.succ_lt_succ hq)) e]

def innerB (d : Nd) : Bool := decide (0 < d.level) && soundB d 64
def placeB (d : Nd) (k : Int) : Bool := innerB d && decide (k ∈ d.kids)
def placeI (d : Nd) (k : Int) : Nat := if placeB d k = true then idxK d.kids k else 0
def mayP (d : Nd) (low : ByteArray) (kid : Int) : Bool := goodB low && (cellB kid && (!hasD d low && (!placeB d kid && insB d low)))
def postN (d : Nd) (low : ByteArray) (kid : Int) : Nd := ⟨d.level, d.low, d.high, d.last, d.next, ins d.keys (atD d low) low, d.vals, ins d.kids (atD d low) kid⟩
def postB (d : Nd) (low : ByteArray) (kid fan : Int) : Bool := innerB d && (decide (4 ≤ fan ∧ fan ≤ 64) && (decide ((d.keys.length : Int) < fan) && mayP d low kid))
def postD (d : Nd) (low : ByteArray) (kid fan : Int) : Bool × Nd := if postB d low kid fan = true then (true, postN d low kid) else (false, zeroN)
def dropN (d : Nd) (i : Int) : Nd := ⟨d.level, d.low, d.high, d.last, d.next, d.keys.eraseIdx i.toNat, d.vals, d.kids.eraseIdx i.toNat⟩
def inB (d : Nd) (i : Int) : Bool := innerB d && (decide (1 ≤ i) && decide (i < (d.keys.length : Int)))
def dropD (d : Nd) (i : Int) : Bool × Nd := if inB d i = true then (true, dropN d i) else (false, zeroN)
def turnN (d : Nd) (i : Int) (low : ByteArray) : Nd := ⟨d.level, d.low, d.high, d.last, d.next, d.keys.set i.toNat low, d.vals, d.kids⟩
def turnD (d : Nd) (i : Int) (low : ByteArray) : Bool × Nd := if (inB d i && innerB (turnN d i low)) = true then (true, turnN d i low) else (false, zeroN)
def overN (level left : Int) (low : ByteArray) (right : Int) : Nd := ⟨level, ByteArray.empty, ByteArray.empty, true, -1, [⟨#[]⟩, low], [], [left, right]⟩
def overD (level left : Int) (low : ByteArray) (right : Int) : Bool × Nd := if innerB (overN level left low right) = true then (true, overN level left low right) else (false, zeroN)

/-- What an inner node's entries are. -/
structure KidsP (d : Nd) : Prop where
  len : d.kids.length = d.keys.length
  ne : d.kids.length ≠ 0
  vals : d.vals.length = 0
  head : d.keys[0]? = some d.low
  cells : ∀ k ∈ d.kids, cellB k = true
  nodup : d.kids.Nodup
  good : ∀ s ∈ d.keys.tail, goodB s = true
theorem kidsB_iff (d : Nd) : kidsB d = true ↔ KidsP d := by
  unfold kidsB kidOk
  simp only [Bool.and_eq_true, Bool.or_eq_true, Bool.not_eq_true', decide_eq_true_iff, decide_eq_false_iff_not, List.all_eq_true, List.mem_range, txt_eq]
  constructor
  · rintro ⟨h1, h2, h3, h4, h5⟩
    have hk : 0 < d.keys.length := by omega
    refine ⟨h1, h2, h3, ?_, fun k hk => ?_, ?_, fun s hs => ?_⟩
    · rw [List.getD_eq_getElem?_getD, List.getElem?_eq_getElem hk] at h4
      rw [List.getElem?_eq_getElem hk, ← h4]; rfl
    · obtain ⟨i, hi, rfl⟩ := List.getElem_of_mem hk
      have := (h5 i hi).1
      rwa [getD_at _ _ _ hi] at this
    · rw [List.Nodup, List.pairwise_iff_getElem]
      intro i j hi hj hij e
      have := (h5 j hj).2.1
      rw [getD_at _ _ _ hj] at this
      refine this ?_
      rw [← e]
      have hit : i < (d.kids.take j).length := by rw [List.length_take]; omega
      have := List.getElem_mem hit
      rwa [List.getElem_take] at this
    · obtain ⟨i, hi, rfl⟩ := List.getElem_of_mem hs
      rw [List.length_tail] at hi
      have := (h5 (i + 1) (by omega)).2.2
      rw [getD_at _ _ _ (by omega)] at this
      rw [List.getElem_tail]
      rcases this with e | e
      · omega
      · exact e
  · rintro ⟨h1, h2, h3, h4, h5, h6, h7⟩
    have hk : 0 < d.keys.length := by omega
    refine ⟨h1, h2, h3, ?_, fun i hi => ⟨?_, ?_, ?_⟩⟩
    · rw [List.getD_eq_getElem?_getD, h4]; rfl
    · rw [getD_at _ _ _ hi]; exact h5 _ (List.getElem_mem hi)
    · rw [getD_at _ _ _ hi]
      intro hm
      obtain ⟨q, hq, e⟩ := List.getElem_of_mem hm
      rw [List.length_take] at hq
      rw [List.getElem_take] at e
      rw [List.Nodup, List.pairwise_iff_getElem] at h6
      exact h6 q i (by omega) hi (by omega) e
    · by_cases h0 : i = 0
      · exact .inl h0
      · right
        have hi2 : i - 1 < d.keys.tail.length := by rw [List.length_tail]; omega
        have := h7 _ (List.getElem_mem hi2)
        rw [List.getElem_tail] at this
        rw [getD_at _ _ _ (by omega)]
        have e : i - 1 + 1 = i := by omega
        simpa [e] using this

/-- A sound inner node. -/
structure InP (d : Nd) (fan : Int) : Prop where
  lev : 0 < d.level
  bord : borderB d = true
  fan : (d.keys.length : Int) ≤ fan
  up : Pl.rises d.keys = true
  ins : ∀ s ∈ d.keys, insB d s = true
  kp : KidsP d
theorem inP_iff (d : Nd) (fan : Int) : (0 < d.level ∧ soundB d fan = true) ↔ InP d fan := by
  unfold soundB
  constructor
  · rintro ⟨h0, h⟩
    rw [if_neg (show ¬ d.level = 0 by omega)] at h
    simp only [Bool.and_eq_true, decide_eq_true_iff, List.all_eq_true, kidsB_iff] at h
    obtain ⟨h1, h2, h3, h4, h5⟩ := h
    exact ⟨h0, h1, h2, h3, h4, h5⟩
  · rintro ⟨h0, h1, h2, h3, h4, h5⟩
    refine ⟨h0, ?_⟩
    rw [if_neg (show ¬ d.level = 0 by omega)]
    simp only [Bool.and_eq_true, decide_eq_true_iff, List.all_eq_true, kidsB_iff]
    exact ⟨h1, h2, h3, h4, h5⟩
theorem innerB_iff (d : Nd) : innerB d = true ↔ InP d 64 := by
  rw [← inP_iff, innerB, Bool.and_eq_true, decide_eq_true_iff]
theorem InP.wide {d : Nd} {f g : Int} (h : InP d f) (hl : (d.keys.length : Int) ≤ g) : InP d g := ⟨h.lev, h.bord, hl, h.up, h.ins, h.kp⟩

theorem ins_succ {α : Type} (a : α) (t : List α) (m : Nat) (x : α) : ins (a :: t) (m + 1) x = a :: ins t m x := rfl
theorem ins_perm {α : Type} (xs : List α) (k : Nat) (x : α) : List.Perm (ins xs k x) (x :: xs) := by
  unfold ins
  have := List.perm_middle (a := x) (l₁ := xs.take k) (l₂ := xs.drop k)
  rwa [List.take_append_drop] at this
theorem ins_lt {α : Type} (xs : List α) (k q : Nat) (x : α) (hq : q < k) : (ins xs k x)[q]? = xs[q]? ∨ xs.length ≤ q := by
  unfold ins
  by_cases hl : q < xs.length
  · left
    rw [List.getElem?_append_left (by rw [List.length_take]; omega), List.getElem?_take_of_lt hq]
  · right; omega
theorem at_pos {d : Nd} {low : ByteArray} {fan : Int} (h : InP d fan) (hn : hasD d low = false) (hi : insB d low = true) : 1 ≤ atD d low := by
  refine Nat.one_le_iff_ne_zero.2 fun e => ?_
  have hk : 0 < d.keys.length := by have := h.kp.len; have := h.kp.ne; omega
  obtain ⟨h1, h2⟩ := Pl.findAt_spec h.up low.data.toList
  have h0 := h2 0 (by rw [show Pl.findAt d.keys low.data.toList = 0 from e]; exact Nat.le_refl _) hk
  have hl := h.kp.head
  rw [List.getElem?_eq_getElem hk] at hl
  injection hl with hl
  unfold insB at hi
  rw [Bool.and_eq_true, Bool.not_eq_true', ← hl] at hi
  rw [Pl.tx_eq d.keys 0 hk] at h0
  have e2 := Pl.ls_total _ _ h0 hi.1
  have := (Pl.findIs_iff h.up low.data.toList).2 ⟨0, hk, by rw [Pl.tx_eq d.keys 0 hk]; exact e2⟩
  rw [show Pl.findIs d.keys low.data.toList = hasD d low from rfl, hn] at this
  cases this

/-- Post of a sound inner node. -/
theorem post_in {d : Nd} {low : ByteArray} {kid fan : Int} (h : InP d 64) (hp : postB d low kid fan = true) (hfan : fan ≤ 64) : InP (postN d low kid) fan ∧ placeB (postN d low kid) kid = true ∧ placeI (postN d low kid) kid = atD d low ∧ 1 ≤ atD d low ∧ atD d low < (postN d low kid).keys.length ∧ dropN (postN d low kid) (atD d low : Nat) = d := by
  unfold postB mayP at hp
  simp only [Bool.and_eq_true, Bool.not_eq_true', decide_eq_true_iff] at hp
  obtain ⟨h0, hf, hlen, hg, hc, hn, hm, hi⟩ := hp
  have hpos := at_pos h hn hi
  have hle := at_le d low
  have hkl : (ins d.keys (atD d low) low).length = d.keys.length + 1 := ins_len _ _ _ hle
  have hle2 : atD d low ≤ d.kids.length := by rw [h.kp.len]; exact hle
  have hkl2 : (ins d.kids (atD d low) kid).length = d.kids.length + 1 := ins_len _ _ _ hle2
  have hnm : kid ∉ d.kids := by
    unfold placeB at hm
    rw [h0, Bool.true_and, decide_eq_false_iff_not] at hm
    exact hm
  have hin : InP (postN d low kid) fan := by
    refine ⟨h.lev, h.bord, ?_, ups_ins h.up hn, fun s hs => ?_, ⟨?_, ?_, h.kp.vals, ?_, fun k hk => ?_, ?_, fun s hs => ?_⟩⟩
    · show ((ins d.keys (atD d low) low).length : Int) ≤ fan
      rw [hkl]; omega
    · rcases ins_mem (show s ∈ ins d.keys (atD d low) low from hs) with rfl | hq
      · exact hi
      · exact h.ins s hq
    · show (ins d.kids (atD d low) kid).length = (ins d.keys (atD d low) low).length
      rw [hkl, hkl2, h.kp.len]
    · show (ins d.kids (atD d low) kid).length ≠ 0
      omega
    · show (ins d.keys (atD d low) low)[0]? = some d.low
      rcases ins_lt d.keys (atD d low) 0 low hpos with e | e
      · rw [e]; exact h.kp.head
      · have := h.kp.len; have := h.kp.ne; omega
    · rcases ins_mem (show k ∈ ins d.kids (atD d low) kid from hk) with rfl | hq
      · exact hc
      · exact h.kp.cells k hq
    · show (ins d.kids (atD d low) kid).Nodup
      rw [(ins_perm _ _ _).nodup_iff, List.nodup_cons]
      exact ⟨hnm, h.kp.nodup⟩
    · have hs' : s ∈ (ins d.keys (atD d low) low).tail := hs
      obtain ⟨m, hmm⟩ : ∃ m, atD d low = m + 1 := ⟨atD d low - 1, by omega⟩
      rw [hmm] at hs'
      have hgd := h.kp.good
      generalize d.keys = ks at hs' hgd
      cases ks with
      | nil =>
        rw [show (ins ([] : List ByteArray) (m + 1) low).tail = [] from rfl] at hs'
        cases hs'
      | cons a t =>
        rw [ins_succ] at hs'
        rcases ins_mem (show s ∈ ins t m low from hs') with rfl | hq
        · exact hg
        · exact hgd s hq
  have hmem : placeB (postN d low kid) kid = true := by
    unfold placeB
    rw [Bool.and_eq_true, decide_eq_true_iff, innerB_iff]
    refine ⟨hin.wide (by have := hin.fan; omega), ?_⟩
    show kid ∈ ins d.kids (atD d low) kid
    exact (ins_perm _ _ _).mem_iff.2 (List.mem_cons_self ..)
  refine ⟨hin, hmem, ?_, hpos, ?_, ?_⟩
  · unfold placeI
    rw [if_pos hmem]
    have hil : atD d low < (ins d.kids (atD d low) kid).length := by omega
    refine idxK_at (ins d.kids (atD d low) kid) kid _ hil (fun q hq e => ?_) ?_
    · have hql : q < d.kids.length := by omega
      rcases ins_lt d.kids (atD d low) q kid hq with e2 | e2
      · rw [List.getElem?_eq_getElem (Nat.lt_trans hq hil), List.getElem?_eq_getElem hql, e] at e2
        injection e2 with e2
        exact hnm (e2 ▸ List.getElem_mem hql)
      · omega
    · have := ins_at d.kids (atD d low) kid hle2
      rw [List.getElem?_eq_getElem hil] at this
      injection this
  · show atD d low < (ins d.keys (atD d low) low).length
    omega
  · unfold dropN
    rw [Int.toNat_natCast]
    show (⟨d.level, d.low, d.high, d.last, d.next, (ins d.keys (atD d low) low).eraseIdx (atD d low), d.vals, (ins d.kids (atD d low) kid).eraseIdx (atD d low)⟩ : Nd) = d
    rw [ins_cut _ _ _ hle, ins_cut _ _ _ hle2]

theorem tail_erase {α : Type} (l : List α) (i : Nat) : (l.eraseIdx (i + 1)).tail = l.tail.eraseIdx i := by
  cases l <;> rfl
/-- Drop of a sound inner node. -/
theorem drop_in {d : Nd} {i fan : Int} (h : InP d fan) (h1 : 1 ≤ i) (h2 : i < (d.keys.length : Int)) : InP (dropN d i) fan ∧ (dropN d i).kids.length + 1 = d.kids.length := by
  obtain ⟨m, rfl⟩ : ∃ m : Nat, i = ((m + 1 : Nat) : Int) := ⟨i.toNat - 1, by omega⟩
  unfold dropN
  rw [Int.toNat_natCast]
  have hl := h.kp.len
  have e1 : (d.keys.eraseIdx (m + 1)).length = d.keys.length - 1 := List.length_eraseIdx_of_lt (by omega)
  have e2 : (d.kids.eraseIdx (m + 1)).length = d.kids.length - 1 := List.length_eraseIdx_of_lt (by omega)
  have hs : List.Sublist (d.keys.eraseIdx (m + 1)) d.keys := List.eraseIdx_sublist _ _
  have hs2 : List.Sublist (d.kids.eraseIdx (m + 1)) d.kids := List.eraseIdx_sublist _ _
  refine ⟨⟨h.lev, h.bord, ?_, (Pl.rises_up _).2 (((Pl.rises_up _).1 h.up).sub hs), fun s hm => h.ins s (hs.subset hm), ⟨?_, ?_, h.kp.vals, ?_, fun k hk => h.kp.cells k (hs2.subset hk), ?_, fun s hm => ?_⟩⟩, ?_⟩
  · show ((d.keys.eraseIdx (m + 1)).length : Int) ≤ fan
    have := h.fan; omega
  · show (d.kids.eraseIdx (m + 1)).length = (d.keys.eraseIdx (m + 1)).length
    omega
  · show (d.kids.eraseIdx (m + 1)).length ≠ 0
    omega
  · show (d.keys.eraseIdx (m + 1))[0]? = some d.low
    rw [List.getElem?_eraseIdx_of_lt (by omega)]
    exact h.kp.head
  · show (d.kids.eraseIdx (m + 1)).Nodup
    exact h.kp.nodup.sublist hs2
  · have hm' : s ∈ (d.keys.eraseIdx (m + 1)).tail := hm
    rw [tail_erase] at hm'
    exact h.kp.good s ((List.eraseIdx_sublist _ _).subset hm')
  · show (d.kids.eraseIdx (m + 1)).length + 1 = d.kids.length
    omega
/-- Turn, and back. -/
theorem turn_back (d : Nd) (i : Int) (low : ByteArray) (h1 : 1 ≤ i) (h2 : i < (d.keys.length : Int)) : turnN (turnN d i low) i (d.keys.getD i.toNat ByteArray.empty) = d := by
  unfold turnN
  have hlt : i.toNat < d.keys.length := by omega
  show (⟨d.level, d.low, d.high, d.last, d.next, (d.keys.set i.toNat low).set i.toNat (d.keys.getD i.toNat ByteArray.empty), d.vals, d.kids⟩ : Nd) = d
  rw [List.set_set, getD_at _ _ _ hlt, List.set_getElem_self]

end Go.Proofs.Ytcoiadncennhpaa
