/- A row that is built one by one with one more where it has its place, or without one. No program. -/
import Derived.Test.YtcoiadncennhpaaInPl
import Derived.Test.YtcoiadncennhpaaRoutes
namespace Go.Proofs.Ytcoiadncennhpaa
open Go.RowKit

/-- What has been built of a row after so many. -/
def putR {α : Type} (xs : List α) (at_ : Nat) (x : α) (i : Nat) : List α := if at_ < i then ins (xs.take i) at_ x else xs.take i
theorem putR_zero {α : Type} (xs : List α) (at_ : Nat) (x : α) : putR xs at_ x 0 = [] := by unfold putR; rw [if_neg (Nat.not_lt_zero _)]; rfl
theorem take_one {α : Type} (xs : List α) (i : Nat) (h : i < xs.length) : xs.take (i + 1) = xs.take i ++ [xs[i]] := by rw [List.take_add_one, List.getElem?_eq_getElem h]; rfl
theorem putR_here {α : Type} (xs : List α) (x : α) (i : Nat) (h : i < xs.length) : (putR xs i x i ++ [x]) ++ [xs[i]] = putR xs i x (i + 1) := by
  unfold putR
  rw [if_neg (Nat.lt_irrefl _), if_pos (Nat.lt_succ_self _), take_one xs i h]
  unfold ins
  have hl : (xs.take i).length = i := by rw [List.length_take]; omega
  have e1 : (xs.take i ++ [xs[i]]).take i = xs.take i := by rw [List.take_append_of_le_length (by omega), List.take_take, Nat.min_self]
  have e2 : (xs.take i ++ [xs[i]]).drop i = [xs[i]] := by rw [List.drop_append_of_le_length (by omega), List.drop_of_length_le (by omega), List.nil_append]
  rw [e1, e2, List.append_assoc]
  rfl
theorem putR_else {α : Type} (xs : List α) (x : α) (at_ i : Nat) (h : i < xs.length) (hn : at_ ≠ i) : putR xs at_ x i ++ [xs[i]] = putR xs at_ x (i + 1) := by
  unfold putR
  have hl : (xs.take i).length = i := by rw [List.length_take]; omega
  rcases Nat.lt_or_ge at_ i with g | g
  · rw [if_pos g, if_pos (by omega), take_one xs i h]
    unfold ins
    rw [List.take_append_of_le_length (by omega), List.drop_append_of_le_length (by omega), List.append_assoc]
    rfl
  · rw [if_neg (by omega), if_neg (by omega), take_one xs i h]
theorem putR_end {α : Type} (xs : List α) (x : α) (at_ : Nat) (h : at_ < xs.length) : putR xs at_ x xs.length = ins xs at_ x := by
  unfold putR
  rw [if_pos h, List.take_length]
theorem putR_last {α : Type} (xs : List α) (x : α) (at_ : Nat) (h : at_ = xs.length) : putR xs at_ x xs.length ++ [x] = ins xs at_ x := by
  unfold putR ins
  rw [if_neg (by omega), List.take_length, h, List.take_length, List.drop_length]
theorem putR_len {α : Type} (xs : List α) (x : α) (at_ i : Nat) (h : i ≤ xs.length) : (putR xs at_ x i).length ≤ i + 1 := by
  unfold putR ins
  split
  · rw [List.length_append, List.length_cons, List.length_take, List.length_drop, List.length_take]; omega
  · rw [List.length_take]; omega

/-- A row without one, so far. -/
def cutR {α : Type} (xs : List α) (at_ : Nat) (i : Nat) : List α := (xs.take i).eraseIdx at_
theorem cutR_zero {α : Type} (xs : List α) (at_ : Nat) : cutR xs at_ 0 = [] := by unfold cutR; rfl
theorem cutR_here {α : Type} (xs : List α) (i : Nat) (h : i < xs.length) : cutR xs i i = cutR xs i (i + 1) := by
  unfold cutR
  have hl : (xs.take i).length = i := by rw [List.length_take]; omega
  rw [take_one xs i h, List.eraseIdx_of_length_le (by omega), List.eraseIdx_append_of_length_le (by omega), hl, Nat.sub_self]
  simp
theorem cutR_else {α : Type} (xs : List α) (at_ i : Nat) (h : i < xs.length) (hn : at_ ≠ i) : cutR xs at_ i ++ [xs[i]] = cutR xs at_ (i + 1) := by
  unfold cutR
  have hl : (xs.take i).length = i := by rw [List.length_take]; omega
  rw [take_one xs i h]
  rcases Nat.lt_or_ge at_ i with g | g
  · rw [List.eraseIdx_append_of_lt_length (by omega)]
  · rw [List.eraseIdx_of_length_le (by omega), List.eraseIdx_of_length_le (by rw [List.length_append, hl]; simp only [List.length_singleton]; omega)]
theorem cutR_end {α : Type} (xs : List α) (at_ : Nat) : cutR xs at_ xs.length = xs.eraseIdx at_ := by unfold cutR; rw [List.take_length]
theorem cutR_len {α : Type} (xs : List α) (at_ i : Nat) : (cutR xs at_ i).length ≤ i := by
  unfold cutR
  exact Nat.le_trans (List.length_eraseIdx_le _ _) (by rw [List.length_take]; omega)

/-- Where a text is less than one of a row that rises and has it not: from its place on. -/
theorem less_from {ss : List ByteArray} {k : ByteArray} (h : Pl.rises ss = true) (hn : ∀ q (hq : q < ss.length), ss[q] ≠ k) (i : Nat) (hi : i < ss.length) : Pl.ls k.data.toList ss[i].data.toList = decide (Pl.findAt ss k.data.toList ≤ i) := by
  obtain ⟨s1, s2⟩ := Pl.findAt_spec h k.data.toList
  rcases Nat.lt_or_ge i (Pl.findAt ss k.data.toList) with g | g
  · have := s1 i g
    rw [Pl.tx_eq _ _ hi] at this
    rw [decide_eq_false (by omega)]
    exact Pl.ls_asymm _ _ this
  · have h2 := s2 i g hi
    rw [Pl.tx_eq _ _ hi] at h2
    rw [decide_eq_true g]
    cases h3 : Pl.ls k.data.toList ss[i].data.toList
    · have e := Pl.ls_total _ _ h3 h2
      refine absurd ?_ (hn i hi)
      exact ByteArray.ext (Array.toList_inj.1 e.symm)
    · rfl

theorem has_no {d : Nd} {low : ByteArray} (hr : Pl.rises d.keys = true) (hn : ∀ q (hq : q < d.keys.length), d.keys[q] ≠ low) : hasD d low = false := by
  cases h : hasD d low
  · rfl
  · obtain ⟨i, hi, e⟩ := (Pl.findIs_iff hr _).1 h
    rw [Pl.tx_eq _ _ hi] at e
    exact absurd (ByteArray.ext (Array.toList_inj.1 e)) (hn i hi)
theorem has_yes {d : Nd} {low : ByteArray} {j : Nat} (hr : Pl.rises d.keys = true) (hj : j < d.keys.length) (e : d.keys[j] = low) : hasD d low = true :=
  (Pl.findIs_iff hr _).2 ⟨j, hj, by rw [Pl.tx_eq _ _ hj, e]⟩
theorem place_none {d : Nd} {kid : Int} (hn : ∀ q (hq : q < d.kids.length), d.kids[q] ≠ kid) : placeB d kid = false := by
  unfold placeB
  rw [decide_eq_false, Bool.and_false]
  intro h
  obtain ⟨q, hq, e⟩ := List.getElem_of_mem h
  exact hn q hq e
theorem place_some {d : Nd} {kid : Int} {j : Nat} (h : innerB d = true) (hj : j < d.kids.length) (e : d.kids[j] = kid) : placeB d kid = true := by
  unfold placeB
  rw [h, Bool.true_and, decide_eq_true_iff, ← e]
  exact List.getElem_mem hj

end Go.Proofs.Ytcoiadncennhpaa
