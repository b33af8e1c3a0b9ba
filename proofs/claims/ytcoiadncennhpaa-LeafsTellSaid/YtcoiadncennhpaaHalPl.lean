/- Nodes that become two, and two that become one: plain. -/
import Derived.Test.YtcoiadncennhpaaInPl
import Derived.Test.YtcoiadncennhpaaRoutes
namespace Go.Proofs.Ytcoiadncennhpaa
open Go.RowKit

/-- How many of so many go to the left. -/
def cutN (m : Nat) : Nat := m - m / 2
/-- The border of a node that is parted. -/
def bordS (d : Nd) : ByteArray :=
  if 0 < d.level then d.keys.getD (cutN d.keys.length) ByteArray.empty
  else if Pl.ls (d.keys.getD (cutN d.keys.length - 1) ByteArray.empty).data.toList (d.keys.getD (cutN d.keys.length) ByteArray.empty).data.toList = true then
    (d.keys.getD (cutN d.keys.length) ByteArray.empty).extract 0 (Pl.shr (d.keys.getD (cutN d.keys.length - 1) ByteArray.empty).data.toList (d.keys.getD (cutN d.keys.length) ByteArray.empty).data.toList + 1)
  else ⟨#[]⟩
def partL (d : Nd) (cell : Int) : Nd := ⟨d.level, d.low, bordS d, false, cell, d.keys.take (cutN d.keys.length), d.vals.take (cutN d.keys.length), d.kids.take (cutN d.keys.length)⟩
def partR (d : Nd) : Nd := ⟨d.level, bordS d, d.high, d.last, d.next, d.keys.drop (cutN d.keys.length), d.vals.drop (cutN d.keys.length), d.kids.drop (cutN d.keys.length)⟩
def splitB (d : Nd) (cell : Int) : Bool := soundB d 64 && (decide (2 ≤ d.keys.length) && cellB cell)
def splitD (d : Nd) (cell : Int) : Bool × Nd × Nd := if splitB d cell = true then (true, partL d cell, partR d) else (false, zeroN, zeroN)
def burstB (d : Nd) (low : ByteArray) (kid cell : Int) : Bool := innerB d && (!hasD d low && (cellB cell && (cellB kid && (goodB low && (insB d low && !decide (kid ∈ d.kids))))))
def burstD (d : Nd) (low : ByteArray) (kid cell : Int) : Bool × Nd × Nd := if burstB d low kid cell = true then (true, partL (postN d low kid) cell, partR (postN d low kid)) else (false, zeroN, zeroN)
def apartB (a b : Nd) : Bool := b.kids.all fun k => !decide (k ∈ a.kids)
def neighB (a b : Nd) : Bool := soundB a 64 && (soundB b 64 && (decide (a.level = b.level) && (!a.last && (decide (a.high = b.low) && apartB a b))))
def bothN (a b : Nd) : Nd := ⟨a.level, a.low, b.high, b.last, b.next, a.keys ++ b.keys, a.vals ++ b.vals, a.kids ++ b.kids⟩
def mergeB (a b : Nd) (fan : Int) : Bool := neighB a b && (decide (4 ≤ fan ∧ fan ≤ 64) && decide ((a.keys.length : Int) + b.keys.length ≤ fan))
def mergeD (a b : Nd) (fan : Int) : Bool × Nd := if mergeB a b fan = true then (true, bothN a b) else (false, zeroN)
def evenB (a b : Nd) : Bool := neighB a b && decide (2 ≤ a.keys.length + b.keys.length)
def evenD (a b : Nd) : Bool × Nd × Nd := if evenB a b = true then (true, partL (bothN a b) a.next, partR (bothN a b)) else (false, zeroN, zeroN)

theorem cutN_mid {m : Nat} (h : 2 ≤ m) : 1 ≤ cutN m ∧ cutN m < m := by unfold cutN; omega
theorem cutN_le (m : Nat) : cutN m ≤ m := by unfold cutN; omega

/-- A node that is sound, whatever its fan. -/
structure SndP (d : Nd) : Prop where
  bord : borderB d = true
  up : Pl.rises d.keys = true
  ins : ∀ s ∈ d.keys, insB d s = true
  rest : (d.level = 0 ∧ d.vals.length = d.keys.length ∧ d.kids.length = 0 ∧ ∀ s ∈ d.keys, goodB s = true) ∨ (0 < d.level ∧ KidsP d)
theorem border_level {d : Nd} (h : borderB d = true) : 0 ≤ d.level ∧ d.level < 14 := by
  unfold borderB at h
  simp only [Bool.and_eq_true, decide_eq_true_iff] at h
  exact ⟨h.1, h.2.1⟩
theorem snd_iff (d : Nd) (fan : Int) : soundB d fan = true ↔ SndP d ∧ (d.keys.length : Int) ≤ fan := by
  by_cases hl : d.level = 0
  · unfold soundB
    rw [if_pos hl]
    unfold valsB
    simp only [Bool.and_eq_true, decide_eq_true_iff, List.all_eq_true]
    constructor
    · rintro ⟨h1, h2, h3, h4, h5, h6, h7⟩; exact ⟨⟨h1, h3, h4, .inl ⟨hl, h5, h6, h7⟩⟩, h2⟩
    · rintro ⟨⟨h1, h3, h4, h⟩, h2⟩
      rcases h with ⟨_, h5, h6, h7⟩ | ⟨h, _⟩
      · exact ⟨h1, h2, h3, h4, h5, h6, h7⟩
      · omega
  · constructor
    · intro h
      have hb : borderB d = true := by unfold soundB at h; rw [Bool.and_eq_true] at h; exact h.1
      have h0 := border_level hb
      have hp := (inP_iff d fan).1 ⟨by omega, h⟩
      exact ⟨⟨hp.bord, hp.up, hp.ins, .inr ⟨hp.lev, hp.kp⟩⟩, hp.fan⟩
    · rintro ⟨⟨h1, h3, h4, h⟩, h2⟩
      rcases h with ⟨h, _⟩ | ⟨h, hk⟩
      · exact absurd h hl
      · exact ((inP_iff d fan).2 ⟨h, h1, h2, h3, h4, hk⟩).2

theorem ins_split {d : Nd} {k : ByteArray} : insB d k = true ↔ Pl.ls k.data.toList d.low.data.toList = false ∧ (d.last = true ∨ Pl.ls k.data.toList d.high.data.toList = true) := by
  unfold insB
  rw [Bool.and_eq_true, Bool.not_eq_true', Bool.or_eq_true]
theorem key_at {ss : List ByteArray} {i : Nat} (h : i < ss.length) : ss.getD i ByteArray.empty ∈ ss := by rw [getD_at _ _ _ h]; exact List.getElem_mem h
theorem key_lt {ss : List ByteArray} {i j : Nat} (h : Pl.rises ss = true) (hij : i < j) (hj : j < ss.length) : Pl.ls (ss.getD i ByteArray.empty).data.toList (ss.getD j ByteArray.empty).data.toList = true := Pl.rises_lt h i j hij hj
theorem key_le {ss : List ByteArray} {i j : Nat} (h : Pl.rises ss = true) (hij : i ≤ j) (hj : j < ss.length) : Pl.ls (ss.getD j ByteArray.empty).data.toList (ss.getD i ByteArray.empty).data.toList = false := by
  rcases Nat.lt_or_eq_of_le hij with g | rfl
  · exact Pl.ls_asymm _ _ (key_lt h g hj)
  · exact Pl.ls_irrefl _

/-- The border lies between the two halves. -/
structure BordP (d : Nd) : Prop where
  good : goodB (bordS d) = true
  left : Pl.ls (d.keys.getD (cutN d.keys.length - 1) ByteArray.empty).data.toList (bordS d).data.toList = true
  right : Pl.ls (d.keys.getD (cutN d.keys.length) ByteArray.empty).data.toList (bordS d).data.toList = false
theorem bord_p {d : Nd} (h : SndP d) (hm : 2 ≤ d.keys.length) : BordP d := by
  have hc := cutN_mid hm
  have hlt : Pl.ls (d.keys.getD (cutN d.keys.length - 1) ByteArray.empty).data.toList (d.keys.getD (cutN d.keys.length) ByteArray.empty).data.toList = true := key_lt h.up (by omega) hc.2
  suffices hh : goodB (bordS d) = true ∧ Pl.ls (d.keys.getD (cutN d.keys.length - 1) ByteArray.empty).data.toList (bordS d).data.toList = true ∧ Pl.ls (d.keys.getD (cutN d.keys.length) ByteArray.empty).data.toList (bordS d).data.toList = false from ⟨hh.1, hh.2.1, hh.2.2⟩
  rcases h.rest with ⟨hl, _, _, hg⟩ | ⟨hl, hk⟩
  · have e : bordS d = (d.keys.getD (cutN d.keys.length) ByteArray.empty).extract 0 (Pl.shr (d.keys.getD (cutN d.keys.length - 1) ByteArray.empty).data.toList (d.keys.getD (cutN d.keys.length) ByteArray.empty).data.toList + 1) := by
      unfold bordS
      rw [if_neg (by omega), if_pos hlt]
    have hs := Pl.shr_lt hlt
    have hgd := hg _ (key_at hc.2)
    generalize d.keys.getD (cutN d.keys.length - 1) ByteArray.empty = x at hlt e hs ⊢
    generalize d.keys.getD (cutN d.keys.length) ByteArray.empty = y at hlt e hs hgd ⊢
    have hys : y.data.toList.length = y.size := by simp
    unfold goodB at hgd
    simp only [Bool.and_eq_true, decide_eq_true_iff] at hgd
    refine ⟨?_, ?_, ?_⟩
    · rw [e]
      unfold goodB
      rw [pre_size _ _ (by omega)]
      simp only [Bool.and_eq_true, decide_eq_true_iff]
      omega
    · rw [e, pre_list]; exact Pl.ls_take_more _ _ hlt
    · rw [e, pre_list]; exact Pl.take_le _ _
  · have e : bordS d = d.keys.getD (cutN d.keys.length) ByteArray.empty := by unfold bordS; rw [if_pos hl]
    rw [← e] at hlt
    refine ⟨?_, hlt, ?_⟩
    · rw [e]
      refine hk.good _ ?_
      have : cutN d.keys.length - 1 < d.keys.tail.length := by rw [List.length_tail]; omega
      have hm := List.getElem_mem this
      rw [List.getElem_tail] at hm
      rw [getD_at _ _ _ hc.2]
      have e2 : cutN d.keys.length - 1 + 1 = cutN d.keys.length := by omega
      simpa [e2] using hm
    · rw [e]; exact Pl.ls_irrefl _

theorem take_lt {ss : List ByteArray} {n : Nat} {s : ByteArray} (h : s ∈ ss.take n) : ∃ i, i < n ∧ i < ss.length ∧ ss.getD i ByteArray.empty = s := by
  obtain ⟨i, hi, rfl⟩ := List.getElem_of_mem h
  rw [List.length_take] at hi
  refine ⟨i, by omega, by omega, ?_⟩
  rw [getD_at _ _ _ (by omega), List.getElem_take]
theorem drop_ge {ss : List ByteArray} {n : Nat} {s : ByteArray} (h : s ∈ ss.drop n) : ∃ i, n ≤ i ∧ i < ss.length ∧ ss.getD i ByteArray.empty = s := by
  obtain ⟨i, hi, rfl⟩ := List.getElem_of_mem h
  rw [List.length_drop] at hi
  refine ⟨n + i, by omega, by omega, ?_⟩
  rw [getD_at _ _ _ (by omega), List.getElem_drop]

/-- Both parts of a sound node are sound. -/
theorem part_snd {d : Nd} {cell : Int} (h : SndP d) (hm : 2 ≤ d.keys.length) (hc : cellB cell = true) : SndP (partL d cell) ∧ SndP (partR d) := by
  have hb := bord_p h hm
  have hcm := cutN_mid hm
  have hbd := h.bord
  unfold borderB at hbd
  simp only [Bool.and_eq_true, Bool.or_eq_true, decide_eq_true_iff] at hbd
  obtain ⟨b1, b2, b3, b4⟩ := hbd
  have hlow : Pl.ls d.low.data.toList (bordS d).data.toList = true := by
    have := (ins_split.1 (h.ins _ (key_at (show cutN d.keys.length - 1 < d.keys.length by omega)))).1
    exact Pl.ls_of_le_ls this hb.left
  have hL : ∀ s ∈ d.keys.take (cutN d.keys.length), Pl.ls s.data.toList (bordS d).data.toList = true := by
    intro s hs
    obtain ⟨i, hi, hil, rfl⟩ := take_lt hs
    exact Pl.ls_of_le_ls (key_le h.up (show i ≤ cutN d.keys.length - 1 by omega) (by omega)) hb.left
  have hR : ∀ s ∈ d.keys.drop (cutN d.keys.length), Pl.ls s.data.toList (bordS d).data.toList = false := by
    intro s hs
    obtain ⟨i, hi, hil, rfl⟩ := drop_ge hs
    exact Pl.le_trans' hb.right (key_le h.up hi hil)
  have s1 : List.Sublist (d.keys.take (cutN d.keys.length)) d.keys := List.take_sublist _ _
  have s2 : List.Sublist (d.keys.drop (cutN d.keys.length)) d.keys := List.drop_sublist _ _
  constructor
  · refine ⟨?_, (Pl.rises_up _).2 (((Pl.rises_up _).1 h.up).sub s1), fun s hs => ?_, ?_⟩
    · unfold borderB partL
      simp only [Bool.and_eq_true, Bool.or_eq_true, decide_eq_true_iff, Bool.false_eq_true, if_false]
      exact ⟨b1, b2, b3, hb.good, hlow, hc⟩
    · have hs' : s ∈ d.keys.take (cutN d.keys.length) := hs
      exact ins_split.2 ⟨(ins_split.1 (h.ins s (s1.subset hs'))).1, .inr (hL s hs')⟩
    · rcases h.rest with ⟨hl, hv, hk, hg⟩ | ⟨hl, hk⟩
      · refine .inl ⟨hl, ?_, ?_, fun s hs => hg s (s1.subset hs)⟩
        · show (d.vals.take _).length = (d.keys.take _).length
          rw [List.length_take, List.length_take, hv]
        · show (d.kids.take _).length = 0
          rw [List.length_take]; omega
      · have hkl := hk.len
        refine .inr ⟨hl, ?_, ?_, ?_, ?_, fun k hm => hk.cells k (List.mem_of_mem_take hm), ?_, fun s hs => ?_⟩
        · show (d.kids.take _).length = (d.keys.take _).length
          rw [List.length_take, List.length_take, hk.len]
        · show (d.kids.take _).length ≠ 0
          rw [List.length_take]; omega
        · show (d.vals.take _).length = 0
          rw [List.length_take]; have := hk.vals; omega
        · show (d.keys.take _)[0]? = some d.low
          rw [List.getElem?_take_of_lt (by omega)]; exact hk.head
        · exact hk.nodup.sublist (List.take_sublist _ _)
        · have hs' : s ∈ (d.keys.take (cutN d.keys.length)).tail := hs
          refine hk.good s ?_
          exact ((List.take_sublist _ _).tail).subset hs'
  · refine ⟨?_, (Pl.rises_up _).2 (((Pl.rises_up _).1 h.up).sub s2), fun s hs => ?_, ?_⟩
    · have hgd : (bordS d).size = 0 ∨ goodB (bordS d) = true := .inr hb.good
      unfold borderB partR
      simp only [Bool.and_eq_true, Bool.or_eq_true, decide_eq_true_iff]
      refine ⟨b1, b2, hgd, ?_⟩
      cases hla : d.last
      · rw [hla] at b4
        simp only [Bool.false_eq_true, if_false, Bool.and_eq_true] at b4 ⊢
        refine ⟨b4.1, ?_, b4.2.2⟩
        have := (ins_split.1 (h.ins _ (key_at hcm.2))).2
        rw [hla] at this
        rcases this with e | e
        · cases e
        · exact Pl.ls_of_le_ls hb.right e
      · rw [hla] at b4; exact b4
    · have hs' : s ∈ d.keys.drop (cutN d.keys.length) := hs
      exact ins_split.2 ⟨hR s hs', (ins_split.1 (h.ins s (s2.subset hs'))).2⟩
    · rcases h.rest with ⟨hl, hv, hk, hg⟩ | ⟨hl, hk⟩
      · refine .inl ⟨hl, ?_, ?_, fun s hs => hg s (s2.subset hs)⟩
        · show (d.vals.drop _).length = (d.keys.drop _).length
          rw [List.length_drop, List.length_drop, hv]
        · show (d.kids.drop _).length = 0
          rw [List.length_drop]; omega
      · have hkl := hk.len
        have e : bordS d = d.keys.getD (cutN d.keys.length) ByteArray.empty := by unfold bordS; rw [if_pos hl]
        refine .inr ⟨hl, ?_, ?_, ?_, ?_, fun k hm => hk.cells k (List.mem_of_mem_drop hm), ?_, fun s hs => ?_⟩
        · show (d.kids.drop _).length = (d.keys.drop _).length
          rw [List.length_drop, List.length_drop, hk.len]
        · show (d.kids.drop _).length ≠ 0
          rw [List.length_drop]; omega
        · show (d.vals.drop _).length = 0
          rw [List.length_drop]; have := hk.vals; omega
        · show (d.keys.drop _)[0]? = some (bordS d)
          rw [List.getElem?_drop, e, Nat.add_zero, getD_at _ _ _ hcm.2, List.getElem?_eq_getElem hcm.2]
        · exact hk.nodup.sublist (List.drop_sublist _ _)
        · have hs' : s ∈ (d.keys.drop (cutN d.keys.length)).tail := hs
          refine hk.good s ?_
          rw [List.tail_drop] at hs'
          obtain ⟨i, hi, hil, rfl⟩ := drop_ge hs'
          have : i - 1 < d.keys.tail.length := by rw [List.length_tail]; omega
          have hm := List.getElem_mem this
          rw [List.getElem_tail] at hm
          rw [getD_at _ _ _ hil]
          have e2 : i - 1 + 1 = i := by omega
          simpa [e2] using hm

/-- The two parts are one again. -/
theorem part_both (d : Nd) (cell : Int) : bothN (partL d cell) (partR d) = d := by
  unfold bothN partL partR
  simp only [List.take_append_drop]
theorem part_lens (d : Nd) (cell : Int) : (partL d cell).keys.length = cutN d.keys.length ∧ (partR d).keys.length = d.keys.length / 2 := by
  unfold partL partR cutN
  simp only [List.length_take, List.length_drop]
  omega
theorem part_neigh {d : Nd} {cell : Int} (h : SndP d) (hm : 2 ≤ d.keys.length) (hm2 : d.keys.length ≤ 128) (hc : cellB cell = true) : soundB (partL d cell) 64 = true ∧ soundB (partR d) 64 = true ∧ neighB (partL d cell) (partR d) = true := by
  obtain ⟨h1, h2⟩ := part_snd h hm hc
  obtain ⟨l1, l2⟩ := part_lens d cell
  have hcl : cutN d.keys.length ≤ 64 := by unfold cutN; omega
  have k1 := (snd_iff _ 64).2 ⟨h1, by omega⟩
  have k2 := (snd_iff _ 64).2 ⟨h2, by omega⟩
  refine ⟨k1, k2, ?_⟩
  unfold neighB
  rw [k1, k2]
  simp only [Bool.and_eq_true, decide_eq_true_iff, Bool.true_and]
  refine ⟨rfl, rfl, rfl, ?_⟩
  unfold apartB
  rw [List.all_eq_true]
  intro k hk
  rw [Bool.not_eq_true', decide_eq_false_iff_not]
  intro hk2
  have hk' : k ∈ d.kids.drop (cutN d.keys.length) := hk
  have hk2' : k ∈ d.kids.take (cutN d.keys.length) := hk2
  rcases h.rest with ⟨_, _, h0, _⟩ | ⟨_, hkp⟩
  · rw [List.eq_nil_of_length_eq_zero h0] at hk2'
    simp at hk2'
  · have hnd := hkp.nodup
    rw [← List.take_append_drop (cutN d.keys.length) d.kids, List.nodup_append] at hnd
    exact hnd.2.2 k hk2' k hk' rfl

/-- Split, Merge and Even of a sound node. -/
theorem split_law {d : Nd} {cell : Int} (hp : splitB d cell = true) : soundB (partL d cell) 64 = true ∧ soundB (partR d) 64 = true ∧ mergeD (partL d cell) (partR d) 64 = (true, d) ∧ evenD (partL d cell) (partR d) = (true, partL d cell, partR d) := by
  unfold splitB at hp
  simp only [Bool.and_eq_true, decide_eq_true_iff] at hp
  obtain ⟨hs, hm, hc⟩ := hp
  have hsd := (snd_iff _ _).1 hs
  obtain ⟨h1, h2, h3⟩ := part_neigh hsd.1 hm (by omega) hc
  obtain ⟨l1, l2⟩ := part_lens d cell
  have hcl : cutN d.keys.length + d.keys.length / 2 = d.keys.length := by unfold cutN; omega
  refine ⟨h1, h2, ?_, ?_⟩
  · unfold mergeD
    rw [if_pos, part_both]
    unfold mergeB
    rw [h3, l1, l2]
    simp only [Bool.and_eq_true, decide_eq_true_iff]
    exact ⟨trivial, ⟨by decide, by decide⟩, by omega⟩
  · unfold evenD
    rw [if_pos, part_both]
    · rfl
    · unfold evenB
      rw [h3, l1, l2]
      simp only [Bool.and_eq_true, decide_eq_true_iff]
      exact ⟨trivial, by omega⟩

/-- Post, whatever the room. -/
theorem post_snd {d : Nd} {low : ByteArray} {kid cell : Int} (hp : burstB d low kid cell = true) : InP (postN d low kid) 65 ∧ 1 ≤ atD d low ∧ atD d low < (postN d low kid).keys.length ∧ (postN d low kid).keys.length = d.keys.length + 1 ∧ (postN d low kid).keys[atD d low]? = some low ∧ (postN d low kid).kids[atD d low]? = some kid ∧ d.keys.length ≤ 64 := by
  unfold burstB at hp
  simp only [Bool.and_eq_true, Bool.not_eq_true', decide_eq_false_iff_not] at hp
  obtain ⟨h0, hn, hcl, hc, hg, hi, hnm⟩ := hp
  have h := (innerB_iff d).1 h0
  have hf := h.fan
  have hpos := at_pos h hn hi
  have hle := at_le d low
  have hkl : (ins d.keys (atD d low) low).length = d.keys.length + 1 := ins_len _ _ _ hle
  have hle2 : atD d low ≤ d.kids.length := by rw [h.kp.len]; exact hle
  have hkl2 : (ins d.kids (atD d low) kid).length = d.kids.length + 1 := ins_len _ _ _ hle2
  refine ⟨?_, hpos, by show atD d low < (ins d.keys (atD d low) low).length; omega, hkl, ins_at _ _ _ hle, ins_at _ _ _ hle2, by omega⟩
  refine ⟨h.lev, h.bord, ?_, ups_ins h.up hn, fun s hs => ?_, ⟨?_, ?_, h.kp.vals, ?_, fun k hk => ?_, ?_, fun s hs => ?_⟩⟩
  · show ((ins d.keys (atD d low) low).length : Int) ≤ 65
    rw [hkl]; omega
  · rcases ins_mem (show s ∈ ins d.keys (atD d low) low from hs) with rfl | hq
    · exact hi
    · exact h.ins s hq
  · show (ins d.kids (atD d low) kid).length = (ins d.keys (atD d low) low).length
    rw [hkl, hkl2, h.kp.len]
  · show (ins d.kids (atD d low) kid).length ≠ 0
    omega
  · show (ins d.keys (atD d low) low)[0]? = some d.low
    rcases ins_lt d.keys (atD d low) 0 low hpos with e | e
    · rw [e]; exact h.kp.head
    · have := h.kp.len; have := h.kp.ne; omega
  · rcases ins_mem (show k ∈ ins d.kids (atD d low) kid from hk) with rfl | hq
    · exact hc
    · exact h.kp.cells k hq
  · show (ins d.kids (atD d low) kid).Nodup
    rw [(ins_perm _ _ _).nodup_iff, List.nodup_cons]
    exact ⟨hnm, h.kp.nodup⟩
  · have hs' : s ∈ (ins d.keys (atD d low) low).tail := hs
    obtain ⟨m, hmm⟩ : ∃ m, atD d low = m + 1 := ⟨atD d low - 1, by omega⟩
    rw [hmm] at hs'
    have hgd := h.kp.good
    generalize d.keys = ks at hs' hgd
    cases ks with
    | nil =>
      rw [show (ins ([] : List ByteArray) (m + 1) low).tail = [] from rfl] at hs'
      cases hs'
    | cons a t =>
      rw [ins_succ] at hs'
      rcases ins_mem (show s ∈ ins t m low from hs') with rfl | hq
      · exact hg
      · exact hgd s hq

/-- Where a key is in a row that rises, the last one not greater is it. -/
theorem over_there {ss : List ByteArray} {k : ByteArray} {i : Nat} (h : Pl.rises ss = true) (hi : ss[i]? = some k) : Pl.overAt ss k.data.toList = i + 1 := by
  obtain ⟨hil, e⟩ := List.getElem?_eq_some_iff.1 hi
  obtain ⟨s1, s2⟩ := Pl.overAt_spec h k.data.toList
  have hle := Pl.overAt_le ss k.data.toList
  have hx : Pl.tx ss i = k.data.toList := by rw [Pl.tx_eq _ _ hil, e]
  rcases Nat.lt_trichotomy (Pl.overAt ss k.data.toList) (i + 1) with g | g | g
  · have := s2 i (by omega) hil
    rw [hx, Pl.ls_irrefl] at this; cases this
  · exact g
  · have h1 := s1 (i + 1) g
    have h2 := Pl.rises_lt h i (i + 1) (Nat.lt_succ_self _) (by omega)
    rw [hx, h1] at h2; cases h2

theorem kid_there {d : Nd} {k : ByteArray} {kid : Int} {i : Nat} (h : Pl.rises d.keys = true) (hi : d.keys[i]? = some k) (hk : d.kids[i]? = some kid) : kidAt d (overI d k) = kid ∧ kidIs d (overI d k) = true := by
  obtain ⟨hkl, e⟩ := List.getElem?_eq_some_iff.1 hk
  have ho : overI d k = (i : Int) := by unfold overI; rw [over_there h hi]; omega
  unfold kidAt kidIs
  rw [ho, if_pos (by omega), Int.toNat_natCast, getD_at _ _ _ hkl, e]
  exact ⟨rfl, by simp; omega⟩

/-- Burst of a sound inner node. -/
theorem burst_law {d : Nd} {low : ByteArray} {kid cell : Int} (hp : burstB d low kid cell = true) : soundB (partL (postN d low kid) cell) 64 = true ∧ soundB (partR (postN d low kid)) 64 = true ∧
    (postN d low kid).keys.length = d.keys.length + 1 ∧ 2 ≤ (postN d low kid).keys.length ∧
    (insB (partL (postN d low kid) cell) low = true → kidAt (partL (postN d low kid) cell) (overI (partL (postN d low kid) cell) low) = kid ∧ kidIs (partL (postN d low kid) cell) (overI (partL (postN d low kid) cell) low) = true) ∧
    (insB (partR (postN d low kid)) low = true → kidAt (partR (postN d low kid)) (overI (partR (postN d low kid)) low) = kid ∧ kidIs (partR (postN d low kid)) (overI (partR (postN d low kid)) low) = true) := by
  obtain ⟨h1, h2, h3, h4, h5, h6, h7⟩ := post_snd hp
  have hc : cellB cell = true := by
    unfold burstB at hp
    simp only [Bool.and_eq_true] at hp
    exact hp.2.2.1
  generalize postN d low kid = p at *
  generalize atD d low = i at *
  have hsd : SndP p := ⟨h1.bord, h1.up, h1.ins, .inr ⟨h1.lev, h1.kp⟩⟩
  have hm : 2 ≤ p.keys.length := by omega
  obtain ⟨k1, k2, _⟩ := part_neigh hsd hm (by omega) hc
  have e : bordS p = p.keys.getD (cutN p.keys.length) ByteArray.empty := by unfold bordS; rw [if_pos h1.lev]
  have hcm := cutN_mid hm
  have hlow : p.keys.getD i ByteArray.empty = low := by rw [List.getD_eq_getElem?_getD, h5]; rfl
  refine ⟨k1, k2, h4, hm, fun hi => ?_, fun hi => ?_⟩
  · have hlt : i < cutN p.keys.length := by
      rcases Nat.lt_or_ge i (cutN p.keys.length) with g | g
      · exact g
      · have := (ins_split.1 hi).2
        rcases this with e2 | e2
        · cases e2
        · have e3 : Pl.ls low.data.toList (bordS p).data.toList = true := e2
          rw [e, ← hlow, key_le hsd.up g h3] at e3; cases e3
    have hu : Pl.rises (partL p cell).keys = true := (Pl.rises_up _).2 (((Pl.rises_up _).1 hsd.up).sub (List.take_sublist _ _))
    refine kid_there (i := i) hu ?_ ?_
    · show (p.keys.take _)[i]? = some low
      rw [List.getElem?_take_of_lt hlt, h5]
    · show (p.kids.take _)[i]? = some kid
      rw [List.getElem?_take_of_lt hlt, h6]
  · have hge : cutN p.keys.length ≤ i := by
      rcases Nat.lt_or_ge i (cutN p.keys.length) with g | g
      · have e3 : Pl.ls low.data.toList (bordS p).data.toList = false := (ins_split.1 hi).1
        rw [e, ← hlow, key_lt hsd.up g hcm.2] at e3; cases e3
      · exact g
    have hu : Pl.rises (partR p).keys = true := (Pl.rises_up _).2 (((Pl.rises_up _).1 hsd.up).sub (List.drop_sublist _ _))
    refine kid_there (i := i - cutN p.keys.length) hu ?_ ?_
    · show (p.keys.drop _)[_]? = some low
      rw [List.getElem?_drop, show cutN p.keys.length + (i - cutN p.keys.length) = i by omega, h5]
    · show (p.kids.drop _)[_]? = some kid
      rw [List.getElem?_drop, show cutN p.keys.length + (i - cutN p.keys.length) = i by omega, h6]

end Go.Proofs.Ytcoiadncennhpaa
