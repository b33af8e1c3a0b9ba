/- Leaves that change by one key: plain. -/
import Derived.Test.YtcoiadncennhpaaRefSame
import Derived.Test.YtcoiadncennhpaaNodeLaw
namespace Go.Proofs.Ytcoiadncennhpaa
open Go.RowKit

theorem ins_mem {α : Type} {xs : List α} {k : Nat} {x y : α} (h : y ∈ ins xs k x) : y = x ∨ y ∈ xs := by
  unfold ins at h
  rw [List.mem_append, List.mem_cons] at h
  rcases h with h | h | h
  · exact .inr (List.mem_of_mem_take h)
  · exact .inl h
  · exact .inr (List.mem_of_mem_drop h)
theorem ins_len {α : Type} (xs : List α) (k : Nat) (x : α) (h : k ≤ xs.length) : (ins xs k x).length = xs.length + 1 := by
  unfold ins
  rw [List.length_append, List.length_cons, List.length_take, List.length_drop]
  omega
theorem ins_at {α : Type} (xs : List α) (k : Nat) (x : α) (h : k ≤ xs.length) : (ins xs k x)[k]? = some x := by
  unfold ins
  rw [List.getElem?_append_right (by rw [List.length_take]; omega), List.length_take, Nat.min_eq_left h, Nat.sub_self]
  rfl
theorem ins_cut {α : Type} (xs : List α) (k : Nat) (x : α) (h : k ≤ xs.length) : (ins xs k x).eraseIdx k = xs := by
  unfold ins
  rw [List.eraseIdx_append_of_length_le (by rw [List.length_take]; omega), List.length_take, Nat.min_eq_left h, Nat.sub_self, List.eraseIdx_cons_zero, List.take_append_drop]
theorem ups_ins {ss : List ByteArray} {k : ByteArray} (h : Pl.rises ss = true) (hi : Pl.findIs ss k.data.toList = false) : Pl.rises (ins ss (Pl.findAt ss k.data.toList) k) = true := by
  obtain ⟨h1, h2⟩ := Pl.findAt_spec h k.data.toList
  have h3 : ∀ i, Pl.findAt ss k.data.toList ≤ i → i < ss.length → Pl.ls k.data.toList (Pl.tx ss i) = true := by
    intro i hge hlt
    cases hh : Pl.ls k.data.toList (Pl.tx ss i) with
    | true => rfl
    | false =>
      have e := Pl.ls_total _ _ (h2 i hge hlt) hh
      have := (Pl.findIs_iff h k.data.toList).2 ⟨i, hlt, e⟩
      rw [hi] at this; cases this
  have hup := (Pl.rises_up ss).1 h
  rw [Pl.rises_up]
  unfold ins Pl.Up
  rw [List.pairwise_append, List.pairwise_cons]
  have hd : ∀ s ∈ ss.drop (Pl.findAt ss k.data.toList), Pl.ls k.data.toList s.data.toList = true := by
    intro s hs
    obtain ⟨j, hj, rfl⟩ := List.getElem_of_mem hs
    rw [List.length_drop] at hj
    have := h3 (Pl.findAt ss k.data.toList + j) (by omega) (by omega)
    rw [Pl.tx_eq ss _ (by omega)] at this
    rwa [List.getElem_drop]
  have ht : ∀ s ∈ ss.take (Pl.findAt ss k.data.toList), Pl.ls s.data.toList k.data.toList = true := by
    intro s hs
    obtain ⟨j, hj, rfl⟩ := List.getElem_of_mem hs
    rw [List.length_take] at hj
    have := h1 j (by omega)
    rw [Pl.tx_eq ss _ (by omega)] at this
    rwa [List.getElem_take]
  refine ⟨hup.sub (List.take_sublist _ _), ⟨hd, hup.sub (List.drop_sublist _ _)⟩, ?_⟩
  intro s hs t hts
  rw [List.mem_cons] at hts
  rcases hts with rfl | hts
  · exact ht s hs
  · exact Pl.ls_trans _ _ _ (ht s hs) (hd t hts)
/-- In a row that rises a text is found where it is. -/
theorem find_there {ss : List ByteArray} {k : List UInt8} {i : Nat} (h : Pl.rises ss = true) (hi : i < ss.length) (e : Pl.tx ss i = k) : Pl.findIs ss k = true ∧ Pl.findAt ss k = i := by
  have h1 := (Pl.findIs_iff h k).2 ⟨i, hi, e⟩
  refine ⟨h1, ?_⟩
  obtain ⟨s1, s2⟩ := Pl.findAt_spec h k
  unfold Pl.findIs at h1
  rw [Bool.and_eq_true, decide_eq_true_iff, beq_iff_eq] at h1
  rcases Nat.lt_trichotomy (Pl.findAt ss k) i with g | g | g
  · have := Pl.rises_lt h _ _ g hi
    rw [e, h1.2, Pl.ls_irrefl] at this; cases this
  · exact g
  · have := s1 i g
    rw [e, Pl.ls_irrefl] at this; cases this

/-- Where a text is in a node, or would be; whether it is there. -/
def atD (d : Nd) (k : ByteArray) : Nat := Pl.findAt d.keys k.data.toList
def hasD (d : Nd) (k : ByteArray) : Bool := Pl.findIs d.keys k.data.toList
def leafB (d : Nd) : Bool := decide (d.level = 0) && soundB d 64
def mayB (d : Nd) (k : ByteArray) (fan : Int) : Bool := leafB d && (decide (4 ≤ fan ∧ fan ≤ 64) && (goodB k && insB d k))
def zeroN : Nd := ⟨0, ⟨#[]⟩, ⟨#[]⟩, false, 0, [], [], []⟩
def setD (d : Nd) (k : ByteArray) (v : Int) : Nd := ⟨d.level, d.low, d.high, d.last, d.next, d.keys, d.vals.set (atD d k) v, d.kids⟩
def addD (d : Nd) (k : ByteArray) (v : Int) : Nd := ⟨d.level, d.low, d.high, d.last, d.next, ins d.keys (atD d k) k, ins d.vals (atD d k) v, d.kids⟩
def cutD (d : Nd) (k : ByteArray) : Nd := ⟨d.level, d.low, d.high, d.last, d.next, d.keys.eraseIdx (atD d k), d.vals.eraseIdx (atD d k), d.kids⟩
def putD (d : Nd) (k : ByteArray) (v : Int) : Nd := if hasD d k = true then setD d k v else addD d k v
def withD (d : Nd) (k : ByteArray) (v : Int) (fan : Int) : Bool × Nd := if mayB d k fan = true then (if ((putD d k v).keys.length : Int) ≤ fan then (true, putD d k v) else (false, zeroN)) else (false, zeroN)
def withoutD (d : Nd) (k : ByteArray) : Bool × Nd := if (leafB d && hasD d k) = true then (true, cutD d k) else (false, zeroN)
def findD (d : Nd) (k : ByteArray) : Int × Bool := if hasD d k = true ∧ atD d k < d.vals.length then (d.vals.getD (atD d k) 0, true) else (0, false)

theorem leafB_iff (d : Nd) : leafB d = true ↔ d.level = 0 ∧ borderB d = true ∧ d.keys.length ≤ 64 ∧ Pl.rises d.keys = true ∧ (∀ s ∈ d.keys, insB d s = true) ∧ d.vals.length = d.keys.length ∧ d.kids.length = 0 ∧ ∀ s ∈ d.keys, goodB s = true := by
  unfold leafB soundB
  by_cases hl : d.level = 0
  · rw [if_pos hl]
    unfold valsB
    simp only [Bool.and_eq_true, decide_eq_true_iff, List.all_eq_true]
    constructor
    · rintro ⟨h1, h2, h3, h4, h5, h6, h7, h8⟩; exact ⟨h1, h2, by omega, h4, h5, h6, h7, h8⟩
    · rintro ⟨h1, h2, h3, h4, h5, h6, h7, h8⟩; exact ⟨h1, h2, by omega, h4, h5, h6, h7, h8⟩
  · simp [hl]
theorem leaf_sound {d : Nd} {fan : Int} (h : leafB d = true) (hf : (d.keys.length : Int) ≤ fan) : soundB d fan = true := by
  have h' := (leafB_iff d).1 h
  unfold soundB
  rw [if_pos h'.1]
  unfold valsB
  simp only [Bool.and_eq_true, decide_eq_true_iff, List.all_eq_true]
  exact ⟨h'.2.1, hf, h'.2.2.2.1, h'.2.2.2.2.1, h'.2.2.2.2.2.1, h'.2.2.2.2.2.2.1, h'.2.2.2.2.2.2.2⟩
theorem sound_leaf {d : Nd} {fan : Int} (h : soundB d fan = true) (hl : d.level = 0) (hf : fan ≤ 64) : leafB d = true := by
  rw [leafB_iff]
  unfold soundB at h
  rw [if_pos hl] at h
  unfold valsB at h
  simp only [Bool.and_eq_true, decide_eq_true_iff, List.all_eq_true] at h
  obtain ⟨h2, h3, h4, h5, h6, h7, h8⟩ := h
  exact ⟨hl, h2, by omega, h4, h5, h6, h7, h8⟩
theorem at_lt {d : Nd} {k : ByteArray} (h : hasD d k = true) : atD d k < d.keys.length ∧ Pl.tx d.keys (atD d k) = k.data.toList := by
  unfold hasD Pl.findIs at h
  rw [Bool.and_eq_true, decide_eq_true_iff, beq_iff_eq] at h
  exact h
theorem at_le (d : Nd) (k : ByteArray) : atD d k ≤ d.keys.length := Pl.findAt_le _ _

theorem set_leaf {d : Nd} {k : ByteArray} {v : Int} (h : leafB d = true) : leafB (setD d k v) = true := by
  rw [leafB_iff] at h ⊢
  unfold setD
  simp only [List.length_set]
  exact h
theorem add_leaf {d : Nd} {k : ByteArray} {v : Int} (h : leafB d = true) (hn : hasD d k = false) (hk : goodB k = true) (hi : insB d k = true) (hl : d.keys.length + 1 ≤ 64) : leafB (addD d k v) = true := by
  rw [leafB_iff] at h ⊢
  obtain ⟨h1, h2, h3, h4, h5, h6, h7, h8⟩ := h
  have hle := at_le d k
  refine ⟨h1, h2, ?_, ups_ins h4 hn, fun s hs => ?_, ?_, h7, fun s hs => ?_⟩
  · show (ins d.keys (atD d k) k).length ≤ 64
    rw [ins_len _ _ _ hle]; exact hl
  · show insB d s = true
    rcases ins_mem (show s ∈ ins d.keys (atD d k) k from hs) with rfl | hm
    · exact hi
    · exact h5 s hm
  · show (ins d.vals (atD d k) v).length = (ins d.keys (atD d k) k).length
    rw [ins_len _ _ _ hle, ins_len _ _ _ (by omega), h6]
  · rcases ins_mem (show s ∈ ins d.keys (atD d k) k from hs) with rfl | hm
    · exact hk
    · exact h8 s hm
theorem cut_leaf {d : Nd} {k : ByteArray} (h : leafB d = true) (hn : hasD d k = true) : leafB (cutD d k) = true ∧ (cutD d k).keys.length + 1 = d.keys.length := by
  have ha := (at_lt hn).1
  rw [leafB_iff] at h ⊢
  obtain ⟨h1, h2, h3, h4, h5, h6, h7, h8⟩ := h
  have hs : List.Sublist (d.keys.eraseIdx (atD d k)) d.keys := List.eraseIdx_sublist _ _
  have e1 : (d.keys.eraseIdx (atD d k)).length = d.keys.length - 1 := List.length_eraseIdx_of_lt ha
  have e2 : (d.vals.eraseIdx (atD d k)).length = d.vals.length - 1 := List.length_eraseIdx_of_lt (by omega)
  refine ⟨⟨h1, h2, ?_, ?_, fun s hm => h5 s (hs.subset hm), ?_, h7, fun s hm => h8 s (hs.subset hm)⟩, ?_⟩
  · show (d.keys.eraseIdx (atD d k)).length ≤ 64
    omega
  · show Pl.rises (d.keys.eraseIdx (atD d k)) = true
    exact (Pl.rises_up _).2 (((Pl.rises_up _).1 h4).sub hs)
  · show (d.vals.eraseIdx (atD d k)).length = (d.keys.eraseIdx (atD d k)).length
    omega
  · show (d.keys.eraseIdx (atD d k)).length + 1 = d.keys.length
    omega

theorem add_find {d : Nd} {k : ByteArray} {v : Int} (h : leafB d = true) (hn : hasD d k = false) : hasD (addD d k v) k = true ∧ atD (addD d k v) k = atD d k := by
  have h' := (leafB_iff d).1 h
  have hle := at_le d k
  have e := ins_at d.keys (atD d k) k hle
  have hl : atD d k < (ins d.keys (atD d k) k).length := by rw [ins_len _ _ _ hle]; omega
  refine find_there (ss := ins d.keys (atD d k) k) (ups_ins h'.2.2.2.1 hn) hl ?_
  rw [Pl.tx_eq _ _ hl]
  rw [List.getElem?_eq_getElem hl] at e
  injection e with e
  rw [e]

/-- With, Find and Without of a sound leaf. -/
theorem back_law {n : Nd} {k : ByteArray} {v fan : Int} (hs : soundB n fan = true) (hl : n.level = 0) (hok : (withD n k v fan).1 = true) :
    (4 ≤ fan ∧ fan ≤ 64) ∧ withD n k v fan = (true, putD n k v) ∧ soundB (putD n k v) fan = true ∧ findD (putD n k v) k = (v, true) ∧ withoutD (putD n k v) k = (true, cutD (putD n k v) k) ∧ soundB (cutD (putD n k v) k) fan = true ∧
      (hasD n k = false → sameB (cutD (putD n k v) k) n = true) ∧ (hasD n k = true → (cutD (putD n k v) k).keys.length + 1 = n.keys.length) := by
  unfold withD at hok ⊢
  by_cases hm : mayB n k fan = true
  · rw [if_pos hm] at hok ⊢
    by_cases hlen : ((putD n k v).keys.length : Int) ≤ fan
    · rw [if_pos hlen]
      unfold mayB at hm
      simp only [Bool.and_eq_true, decide_eq_true_iff] at hm
      obtain ⟨hlf, hfan, hgk, hik⟩ := hm
      have h' := (leafB_iff n).1 hlf
      refine ⟨hfan, rfl, ?_⟩
      by_cases hh : hasD n k = true
      · have hp : putD n k v = setD n k v := if_pos hh
        rw [hp] at hlen ⊢
        have hlf2 := set_leaf (k := k) (v := v) hlf
        have hh2 : hasD (setD n k v) k = true := hh
        have hat : atD (setD n k v) k = atD n k := rfl
        have hlt := (at_lt hh).1
        obtain ⟨hc1, hc2⟩ := cut_leaf hlf2 hh2
        refine ⟨leaf_sound hlf2 hlen, ?_, ?_, leaf_sound hc1 (by omega), fun e => ?_, fun _ => ?_⟩
        · unfold findD
          rw [if_pos ⟨hh2, by rw [hat]; show atD n k < (n.vals.set (atD n k) v).length; rw [List.length_set]; omega⟩, hat]
          show ((n.vals.set (atD n k) v).getD (atD n k) 0, true) = (v, true)
          rw [List.getD_eq_getElem?_getD, List.getElem?_set_self (by omega)]
          rfl
        · unfold withoutD
          rw [if_pos (by rw [hlf2, hh2]; rfl)]
        · rw [hh] at e; cases e
        · exact hc2
      · have hhf : hasD n k = false := by simpa using hh
        have hp : putD n k v = addD n k v := if_neg hh
        rw [hp] at hlen ⊢
        have hle := at_le n k
        have hkl : (addD n k v).keys.length = n.keys.length + 1 := ins_len _ _ _ hle
        have hlf2 := add_leaf (v := v) hlf hhf hgk hik (by omega)
        obtain ⟨hh2, hat⟩ := add_find (v := v) hlf hhf
        obtain ⟨hc1, hc2⟩ := cut_leaf hlf2 hh2
        refine ⟨leaf_sound hlf2 hlen, ?_, ?_, leaf_sound hc1 (by omega), fun _ => ?_, fun e => ?_⟩
        · unfold findD
          rw [if_pos ⟨hh2, by rw [hat]; show atD n k < (ins n.vals (atD n k) v).length; rw [ins_len _ _ _ (by omega)]; omega⟩, hat]
          show ((ins n.vals (atD n k) v).getD (atD n k) 0, true) = (v, true)
          rw [List.getD_eq_getElem?_getD, ins_at _ _ _ (by omega)]
          rfl
        · unfold withoutD
          rw [if_pos (by rw [hlf2, hh2]; rfl)]
        · have e : cutD (addD n k v) k = n := by
            unfold cutD
            rw [hat]
            show (⟨n.level, n.low, n.high, n.last, n.next, (ins n.keys (atD n k) k).eraseIdx (atD n k), (ins n.vals (atD n k) v).eraseIdx (atD n k), n.kids⟩ : Nd) = n
            rw [ins_cut _ _ _ hle, ins_cut _ _ _ (by omega)]
          rw [e]
          exact (sameB_iff n n).2 ⟨rfl, rfl, rfl, rfl, rfl, rfl, rfl, rfl⟩
        · rw [hhf] at e; cases e
    · rw [if_neg hlen] at hok; cases hok
  · rw [if_neg hm] at hok; cases hok

end Go.Proofs.Ytcoiadncennhpaa
