/- Plain facts on maps as rows of pairs, in no order, each key once. No program. -/
import Derived.Test.YtcoiadncennhpaaPlSorted
import Derived.Test.YtcoiadncennhpaaMake2
namespace Go.Proofs.Ytcoiadncennhpaa
open Go.RowKit

structure PairD where
  key : ByteArray
  val : Int
deriving DecidableEq

namespace Pl
def kb (p : PairD) : List UInt8 := p.key.data.toList
theorem kb_key {p q : PairD} (h : kb p = kb q) : p.key = q.key := ByteArray.ext (Array.toList_inj.1 h)

def gotM (m : List PairD) (k : ByteArray) : Option PairD := m.find? fun p => decide (p.key = k)
def getM (m : List PairD) (k : ByteArray) : Int × Bool := match gotM m k with
  | some p => (p.val, true)
  | none => (0, false)
def delM (m : List PairD) (k : ByteArray) : List PairD := m.filter fun p => !decide (p.key = k)
def putM (m : List PairD) (k : ByteArray) (v : Int) : List PairD := delM m k ++ [⟨k, v⟩]
def nextS (k : List UInt8) (b : Option PairD) (p : PairD) : Option PairD :=
  if (ls k (kb p) && (match b with | none => true | some q => ls (kb p) (kb q))) = true then some p else b
def nextM (m : List PairD) (k : List UInt8) : Option PairD := m.foldl (nextS k) none
def prevS (k : List UInt8) (all : Bool) (b : Option PairD) (p : PairD) : Option PairD :=
  if ((all || ls (kb p) k) && (match b with | none => true | some q => ls (kb q) (kb p))) = true then some p else b
def prevM (m : List PairD) (k : List UInt8) (all : Bool) : Option PairD := m.foldl (prevS k all) none
def zeroP : PairD := ⟨⟨#[]⟩, 0⟩
/-- What All puts behind what it has. -/
def allK (out : List PairD) : ByteArray := match out.getLast? with
  | some p => p.key
  | none => ⟨#[]⟩
def allS (m out : List PairD) : PairD :=
  match out, gotM m ⟨#[]⟩ with
  | [], some q => ⟨⟨#[]⟩, q.val⟩
  | _, _ => (nextM m (allK out).data.toList).getD zeroP
def allM (m : List PairD) : Nat → List PairD
  | 0 => []
  | n + 1 => allM m n ++ [allS m (allM m n)]
def withinB (low high : List UInt8) (p : PairD) : Bool := !ls (kb p) low && !ls high (kb p)
def scanL (l : List PairD) (low high : List UInt8) (limit : Int) : List PairD := (l.filter (withinB low high)).take limit.toNat

theorem nextM_snoc (m : List PairD) (p : PairD) (k : List UInt8) : nextM (m ++ [p]) k = nextS k (nextM m k) p := by unfold nextM; rw [List.foldl_append]; rfl
theorem prevM_snoc (m : List PairD) (p : PairD) (k : List UInt8) (all : Bool) : prevM (m ++ [p]) k all = prevS k all (prevM m k all) p := by unfold prevM; rw [List.foldl_append]; rfl

theorem nextM_spec (k : List UInt8) (m : List PairD) : match nextM m k with
    | none => ∀ p ∈ m, ls k (kb p) = false
    | some q => q ∈ m ∧ ls k (kb q) = true ∧ ∀ p ∈ m, ls k (kb p) = true → ls (kb p) (kb q) = false := by
  suffices h : ∀ l : List PairD, match nextM l.reverse k with
    | none => ∀ p ∈ l.reverse, ls k (kb p) = false
    | some q => q ∈ l.reverse ∧ ls k (kb q) = true ∧ ∀ p ∈ l.reverse, ls k (kb p) = true → ls (kb p) (kb q) = false by
    have := h m.reverse
    rwa [List.reverse_reverse] at this
  intro l
  induction l with
  | nil => intro p hp; simp at hp
  | cons x t ih =>
    rw [List.reverse_cons, nextM_snoc]
    generalize hb : nextM t.reverse k = b at ih
    unfold nextS
    cases b with
    | none =>
      simp only [Bool.and_true]
      by_cases h : ls k (kb x) = true
      · rw [if_pos h]
        refine ⟨by simp, h, fun p hp hk => ?_⟩
        rw [List.mem_append, List.mem_singleton] at hp
        rcases hp with hp | rfl
        · rw [ih p hp] at hk; cases hk
        · exact ls_irrefl _
      · rw [if_neg h]
        intro p hp
        rw [List.mem_append, List.mem_singleton] at hp
        rcases hp with hp | rfl
        · exact ih p hp
        · exact Bool.eq_false_iff.2 h
    | some q =>
      obtain ⟨i1, i2, i3⟩ := ih
      by_cases h : (ls k (kb x) && ls (kb x) (kb q)) = true
      · simp only [h, if_true]
        rw [Bool.and_eq_true] at h
        refine ⟨by simp, h.1, fun p hp hk => ?_⟩
        rw [List.mem_append, List.mem_singleton] at hp
        rcases hp with hp | rfl
        · exact le_trans' (ls_asymm _ _ h.2) (i3 p hp hk)
        · exact ls_irrefl _
      · simp only [h, if_false, Bool.false_eq_true]
        refine ⟨by simp [i1], i2, fun p hp hk => ?_⟩
        rw [List.mem_append, List.mem_singleton] at hp
        rcases hp with hp | rfl
        · exact i3 p hp hk
        · rw [hk, Bool.true_and] at h
          exact Bool.eq_false_iff.2 h

theorem prevM_spec (k : List UInt8) (all : Bool) (m : List PairD) : match prevM m k all with
    | none => ∀ p ∈ m, (all || ls (kb p) k) = false
    | some q => q ∈ m ∧ (all || ls (kb q) k) = true ∧ ∀ p ∈ m, (all || ls (kb p) k) = true → ls (kb q) (kb p) = false := by
  suffices h : ∀ l : List PairD, match prevM l.reverse k all with
    | none => ∀ p ∈ l.reverse, (all || ls (kb p) k) = false
    | some q => q ∈ l.reverse ∧ (all || ls (kb q) k) = true ∧ ∀ p ∈ l.reverse, (all || ls (kb p) k) = true → ls (kb q) (kb p) = false by
    have := h m.reverse
    rwa [List.reverse_reverse] at this
  intro l
  induction l with
  | nil => intro p hp; simp at hp
  | cons x t ih =>
    rw [List.reverse_cons, prevM_snoc]
    generalize hb : prevM t.reverse k all = b at ih
    unfold prevS
    cases b with
    | none =>
      simp only [Bool.and_true]
      by_cases h : (all || ls (kb x) k) = true
      · rw [if_pos h]
        refine ⟨by simp, h, fun p hp hk => ?_⟩
        rw [List.mem_append, List.mem_singleton] at hp
        rcases hp with hp | rfl
        · rw [ih p hp] at hk; cases hk
        · exact ls_irrefl _
      · rw [if_neg h]
        intro p hp
        rw [List.mem_append, List.mem_singleton] at hp
        rcases hp with hp | rfl
        · exact ih p hp
        · exact Bool.eq_false_iff.2 h
    | some q =>
      obtain ⟨i1, i2, i3⟩ := ih
      by_cases h : ((all || ls (kb x) k) && ls (kb q) (kb x)) = true
      · simp only [h, if_true]
        rw [Bool.and_eq_true] at h
        refine ⟨by simp, h.1, fun p hp hk => ?_⟩
        rw [List.mem_append, List.mem_singleton] at hp
        rcases hp with hp | rfl
        · exact le_trans' (i3 p hp hk) (ls_asymm _ _ h.2)
        · exact ls_irrefl _
      · simp only [h, if_false, Bool.false_eq_true]
        refine ⟨by simp [i1], i2, fun p hp hk => ?_⟩
        rw [List.mem_append, List.mem_singleton] at hp
        rcases hp with hp | rfl
        · exact i3 p hp hk
        · rw [hk, Bool.true_and] at h
          exact Bool.eq_false_iff.2 h

/-- Each key once. -/
def Uniq (m : List PairD) : Prop := ∀ p ∈ m, ∀ q ∈ m, kb p = kb q → p = q
theorem nextM_none {m : List PairD} {k : List UInt8} (h : ∀ p ∈ m, ls k (kb p) = false) : nextM m k = none := by
  have hs := nextM_spec k m
  cases e : nextM m k with
  | none => rfl
  | some q =>
    rw [e] at hs
    have := h q hs.1
    rw [hs.2.1] at this; cases this
theorem nextM_some {m : List PairD} {k : List UInt8} {q : PairD} (hu : Uniq m) (hm : q ∈ m) (hk : ls k (kb q) = true) (h : ∀ p ∈ m, ls k (kb p) = true → ls (kb p) (kb q) = false) : nextM m k = some q := by
  have hs := nextM_spec k m
  cases e : nextM m k with
  | none =>
    rw [e] at hs
    have := hs q hm
    rw [hk] at this; cases this
  | some q' =>
    rw [e] at hs
    have := ls_total _ _ (h q' hs.1 hs.2.1) (hs.2.2 q hm hk)
    rw [hu q' hs.1 q hm this]
theorem prevM_none {m : List PairD} {k : List UInt8} {all : Bool} (h : ∀ p ∈ m, (all || ls (kb p) k) = false) : prevM m k all = none := by
  have hs := prevM_spec k all m
  cases e : prevM m k all with
  | none => rfl
  | some q =>
    rw [e] at hs
    have := h q hs.1
    rw [hs.2.1] at this; cases this
theorem prevM_some {m : List PairD} {k : List UInt8} {all : Bool} {q : PairD} (hu : Uniq m) (hm : q ∈ m) (hk : (all || ls (kb q) k) = true) (h : ∀ p ∈ m, (all || ls (kb p) k) = true → ls (kb q) (kb p) = false) : prevM m k all = some q := by
  have hs := prevM_spec k all m
  cases e : prevM m k all with
  | none =>
    rw [e] at hs
    have := hs q hm
    rw [hk] at this; cases this
  | some q' =>
    rw [e] at hs
    have := ls_total _ _ (hs.2.2 q hm hk) (h q' hs.1 hs.2.1)
    rw [hu q' hs.1 q hm this]

/-- Each key less than all behind it. -/
def UpM (r : List PairD) : Prop := r.Pairwise fun a b => ls (kb a) (kb b) = true
theorem UpM.lt {r : List PairD} (h : UpM r) {i j : Nat} (hij : i < j) (hj : j < r.length) : ls (kb (r[i]'(Nat.lt_trans hij hj))) (kb r[j]) = true := (List.pairwise_iff_getElem.1 h) i j (Nat.lt_trans hij hj) hj hij
theorem UpM.uniq {r : List PairD} (h : UpM r) : Uniq r := by
  intro p hp q hq e
  obtain ⟨i, hi, rfl⟩ := List.getElem_of_mem hp
  obtain ⟨j, hj, rfl⟩ := List.getElem_of_mem hq
  rcases Nat.lt_trichotomy i j with g | rfl | g
  · have := h.lt g hj
    rw [e, ls_irrefl] at this; cases this
  · rfl
  · have := h.lt g hi
    rw [e, ls_irrefl] at this; cases this
theorem Uniq.perm {m r : List PairD} (h : Uniq r) (hp : m.Perm r) : Uniq m := fun p hp' q hq e => h p (hp.mem_iff.1 hp') q (hp.mem_iff.1 hq) e

/-- The first pair of a rising row that is behind a text. -/
theorem nextM_row {m r : List PairD} (h : UpM r) (hp : m.Perm r) (k : List UInt8) (i : Nat) (h1 : ∀ (j : Nat) (hj : j < r.length), j < i → ls k (kb r[j]) = false) (h2 : ∀ (j : Nat) (hj : j < r.length), i ≤ j → ls k (kb r[j]) = true) : nextM m k = r[i]? := by
  by_cases hi : i < r.length
  · rw [List.getElem?_eq_getElem hi]
    refine nextM_some (h.uniq.perm hp) (hp.mem_iff.2 (List.getElem_mem hi)) (h2 i hi (Nat.le_refl _)) fun p hm hk => ?_
    obtain ⟨j, hj, rfl⟩ := List.getElem_of_mem (hp.mem_iff.1 hm)
    rcases Nat.lt_trichotomy j i with g | rfl | g
    · rw [h1 j hj g] at hk; cases hk
    · exact ls_irrefl _
    · exact ls_asymm _ _ (h.lt g hj)
  · rw [List.getElem?_eq_none (by omega)]
    refine nextM_none fun p hm => ?_
    obtain ⟨j, hj, rfl⟩ := List.getElem_of_mem (hp.mem_iff.1 hm)
    exact h1 j hj (by omega)
/-- The last pair of a rising row that is ahead of a text. -/
theorem prevM_row {m r : List PairD} (h : UpM r) (hp : m.Perm r) (k : List UInt8) (i : Nat) (hi : i ≤ r.length) (h1 : ∀ (j : Nat) (hj : j < r.length), j < i → ls (kb r[j]) k = true) (h2 : ∀ (j : Nat) (hj : j < r.length), i ≤ j → ls (kb r[j]) k = false) : prevM m k false = if i = 0 then none else r[i - 1]? := by
  by_cases h0 : i = 0
  · rw [if_pos h0]
    refine prevM_none fun p hm => ?_
    obtain ⟨j, hj, rfl⟩ := List.getElem_of_mem (hp.mem_iff.1 hm)
    rw [Bool.false_or]
    exact h2 j hj (by omega)
  · have hl : i - 1 < r.length := by omega
    rw [if_neg h0, List.getElem?_eq_getElem hl]
    refine prevM_some (h.uniq.perm hp) (hp.mem_iff.2 (List.getElem_mem hl)) (by rw [Bool.false_or]; exact h1 _ hl (by omega)) fun p hm hk => ?_
    obtain ⟨j, hj, rfl⟩ := List.getElem_of_mem (hp.mem_iff.1 hm)
    rw [Bool.false_or] at hk
    rcases Nat.lt_trichotomy j (i - 1) with g | rfl | g
    · exact ls_asymm _ _ (h.lt g hl)
    · exact ls_irrefl _
    · rw [h2 j hj (by omega)] at hk; cases hk
theorem prevM_all {m r : List PairD} (h : UpM r) (hp : m.Perm r) (k : List UInt8) : prevM m k true = if r.length = 0 then none else r[r.length - 1]? := by
  by_cases h0 : r.length = 0
  · rw [if_pos h0]
    refine prevM_none fun p hm => ?_
    obtain ⟨j, hj, rfl⟩ := List.getElem_of_mem (hp.mem_iff.1 hm)
    omega
  · have hl : r.length - 1 < r.length := by omega
    rw [if_neg h0, List.getElem?_eq_getElem hl]
    refine prevM_some (h.uniq.perm hp) (hp.mem_iff.2 (List.getElem_mem hl)) rfl fun p hm hk => ?_
    obtain ⟨j, hj, rfl⟩ := List.getElem_of_mem (hp.mem_iff.1 hm)
    rcases Nat.lt_trichotomy j (r.length - 1) with g | rfl | g
    · exact ls_asymm _ _ (h.lt g hl)
    · exact ls_irrefl _
    · omega

theorem gotM_none {m : List PairD} {k : ByteArray} (h : ∀ p ∈ m, p.key ≠ k) : gotM m k = none := by
  unfold gotM
  rw [List.find?_eq_none]
  intro p hp
  rw [decide_eq_true_iff]
  exact h p hp
theorem gotM_some {m : List PairD} {k : ByteArray} {q : PairD} (hu : Uniq m) (hm : q ∈ m) (hk : q.key = k) : gotM m k = some q := by
  cases e : gotM m k with
  | none =>
    unfold gotM at e
    rw [List.find?_eq_none] at e
    exact absurd (decide_eq_true hk) (e q hm)
  | some p =>
    have h1 := List.find?_some e
    rw [decide_eq_true_iff] at h1
    rw [hu p (List.mem_of_find?_eq_some e) q hm (by unfold kb; rw [h1, hk])]
theorem gotM_perm {m r : List PairD} (hu : Uniq r) (hp : m.Perm r) (k : ByteArray) : gotM m k = gotM r k := by
  cases e : gotM r k with
  | none =>
    unfold gotM at e
    rw [List.find?_eq_none] at e
    refine gotM_none fun p hm h => e p (hp.mem_iff.1 hm) (decide_eq_true h)
  | some p =>
    have h1 := List.find?_some e
    rw [decide_eq_true_iff] at h1
    exact gotM_some (hu.perm hp) (hp.mem_iff.2 (List.mem_of_find?_eq_some e)) h1
theorem getM_perm {m r : List PairD} (hu : Uniq r) (hp : m.Perm r) (k : ByteArray) : getM m k = getM r k := by unfold getM; rw [gotM_perm hu hp]

theorem allM_len (m : List PairD) : ∀ n, (allM m n).length = n
  | 0 => rfl
  | n + 1 => by rw [allM, List.length_append, allM_len m n]; rfl
/-- What All tells is the row that rises. -/
theorem allM_take {m r : List PairD} (h : UpM r) (hp : m.Perm r) : ∀ n, n ≤ r.length → allM m n = r.take n
  | 0, _ => by rw [List.take_zero]; rfl
  | n + 1, hn => by
    have hl : n < r.length := by omega
    rw [allM, allM_take h hp n (by omega), List.take_add_one, List.getElem?_eq_getElem hl]
    congr 1
    show [allS m (r.take n)] = [r[n]]
    congr 1
    rcases n with _ | n
    · rw [List.take_zero]
      unfold allS
      cases e : gotM m ⟨#[]⟩ with
      | some q =>
        have h1 := List.find?_some e
        rw [decide_eq_true_iff] at h1
        have h2 := List.mem_of_find?_eq_some e
        obtain ⟨j, hj, rfl⟩ := List.getElem_of_mem (hp.mem_iff.1 h2)
        rcases Nat.eq_zero_or_pos j with rfl | g
        · show (⟨⟨#[]⟩, r[0].val⟩ : PairD) = r[0]
          rw [← h1]
        · have := h.lt g hj
          unfold kb at this
          rw [h1] at this
          rw [show (⟨#[]⟩ : ByteArray).data.toList = [] from rfl, ls_nil] at this
          cases this
      | none =>
        show (nextM m []).getD zeroP = r[0]
        rw [nextM_row h hp [] 0 (fun j hj g => absurd g (Nat.not_lt_zero _)) (fun j hj _ => ?_), List.getElem?_eq_getElem hl]
        · rfl
        · unfold gotM at e
          rw [List.find?_eq_none] at e
          have h3 := e r[j] (hp.mem_iff.2 (List.getElem_mem hj))
          rw [decide_eq_true_iff] at h3
          cases hk : kb r[j] with
          | nil => exact absurd (ByteArray.ext (Array.toList_inj.1 hk)) h3
          | cons a t => rfl
    · have hne : r.take (n + 1) ≠ [] := by
        intro e
        have := congrArg List.length e
        rw [List.length_take, List.length_nil] at this
        omega
      have hlast : (r.take (n + 1)).getLast? = some r[n] := by
        rw [List.getLast?_eq_getElem?, List.length_take, Nat.min_eq_left (by omega), Nat.add_sub_cancel, List.getElem?_take, if_pos (Nat.lt_succ_self n), List.getElem?_eq_getElem (by omega)]
      have hs : allS m (r.take (n + 1)) = (nextM m (allK (r.take (n + 1))).data.toList).getD zeroP := by
        unfold allS
        generalize r.take (n + 1) = o at hne
        cases o with
        | nil => exact absurd rfl hne
        | cons a t => rfl
      rw [hs]
      unfold allK
      rw [hlast]
      show (nextM m (kb r[n])).getD zeroP = r[n + 1]
      rw [nextM_row h hp (kb r[n]) (n + 1) (fun j hj g => ?_) (fun j hj g => h.lt (by omega) hj), List.getElem?_eq_getElem hl]
      · rfl
      · rcases Nat.lt_succ_iff_lt_or_eq.1 g with g | rfl
        · exact ls_asymm _ _ (h.lt g (by omega))
        · exact ls_irrefl _
theorem allM_all {m r : List PairD} (h : UpM r) (hp : m.Perm r) : allM m m.length = r := by
  rw [allM_take h hp _ (by rw [hp.length_eq]; exact Nat.le_refl _), hp.length_eq, List.take_length]

/-- Rows of keys and of values as one. -/
def zipP (ks : List ByteArray) (vs : List Int) : List PairD := List.zipWith PairD.mk ks vs
theorem zipP_len {ks : List ByteArray} {vs : List Int} (h : ks.length = vs.length) : (zipP ks vs).length = ks.length := by unfold zipP; rw [List.length_zipWith, ← h, Nat.min_self]
theorem zipP_at {ks : List ByteArray} {vs : List Int} (i : Nat) (h1 : i < ks.length) (h2 : i < vs.length) (h : i < (zipP ks vs).length) : (zipP ks vs)[i] = ⟨ks[i], vs[i]⟩ := List.getElem_zipWith
theorem zipP_keys {ks : List ByteArray} {vs : List Int} (h : ks.length = vs.length) : (zipP ks vs).map PairD.key = ks := by
  apply List.ext_getElem
  · rw [List.length_map, zipP_len h]
  · intro i h1 h2
    rw [List.getElem_map, zipP_at i h2 (by omega)]
theorem zipP_vals {ks : List ByteArray} {vs : List Int} (h : ks.length = vs.length) : (zipP ks vs).map PairD.val = vs := by
  apply List.ext_getElem
  · rw [List.length_map, zipP_len h, h]
  · intro i h1 h2
    rw [List.getElem_map, zipP_at i (by omega) h2]
theorem zipP_up {ks : List ByteArray} {vs : List Int} (h : ks.length = vs.length) (hr : rises ks = true) : UpM (zipP ks vs) := by
  unfold UpM
  rw [List.pairwise_iff_getElem]
  intro i j hi hj hij
  have h1 := zipP_len h
  rw [zipP_at i (by omega) (by omega), zipP_at j (by omega) (by omega)]
  have := rises_lt hr i j hij (by omega)
  rwa [tx_eq ks i (by omega), tx_eq ks j (by omega)] at this
theorem zipP_ins {ks : List ByteArray} {vs : List Int} (h : ks.length = vs.length) (i : Nat) (k : ByteArray) (v : Int) : zipP (ins ks i k) (ins vs i v) = ins (zipP ks vs) i ⟨k, v⟩ := by
  unfold zipP ins
  rw [List.zipWith_append (by rw [List.length_take, List.length_take, h]), List.zipWith_cons_cons, List.take_zipWith, List.drop_zipWith]
theorem zipP_set {ks : List ByteArray} {vs : List Int} (h : ks.length = vs.length) (i : Nat) (v : Int) (hi : i < ks.length) : zipP ks (vs.set i v) = (zipP ks vs).set i ⟨ks[i], v⟩ := by
  apply List.ext_getElem
  · rw [List.length_set, zipP_len h, zipP_len (by rw [List.length_set, h])]
  · intro j h1 h2
    rw [zipP_len (by rw [List.length_set, h])] at h1
    rw [zipP_at j h1 (by rw [List.length_set]; omega), List.getElem_set, List.getElem_set]
    by_cases e : i = j
    · subst e; rw [if_pos rfl, if_pos rfl]
    · rw [if_neg e, if_neg e, zipP_at j h1 (by omega)]
theorem zipP_cut {ks : List ByteArray} {vs : List Int} (h : ks.length = vs.length) (i : Nat) : zipP (ks.eraseIdx i) (vs.eraseIdx i) = (zipP ks vs).eraseIdx i := by
  rw [List.eraseIdx_eq_take_drop_succ, List.eraseIdx_eq_take_drop_succ, List.eraseIdx_eq_take_drop_succ]
  unfold zipP
  rw [List.zipWith_append (by rw [List.length_take, List.length_take, h]), List.take_zipWith, List.drop_zipWith]

theorem delM_perm {m r : List PairD} (hp : m.Perm r) (k : ByteArray) : (delM m k).Perm (delM r k) := hp.filter _
theorem delM_up {r : List PairD} (h : UpM r) (k : ByteArray) : UpM (delM r k) := List.Pairwise.sublist List.filter_sublist h
theorem delM_none {r : List PairD} {k : ByteArray} (h : ∀ p ∈ r, p.key ≠ k) : delM r k = r := by
  unfold delM
  rw [List.filter_eq_self]
  intro p hp
  rw [decide_eq_false (h p hp)]
  rfl
theorem delM_at {r : List PairD} (h : UpM r) (i : Nat) (hi : i < r.length) : delM r r[i].key = r.eraseIdx i := by
  have e : r = r.take i ++ r[i] :: r.drop (i + 1) := by rw [← List.drop_eq_getElem_cons hi, List.take_append_drop]
  rw [List.eraseIdx_eq_take_drop_succ]
  have h1 : delM (r.take i) r[i].key = r.take i := delM_none fun p hp he => by
    obtain ⟨j, hj, rfl⟩ := List.getElem_of_mem hp
    rw [List.length_take] at hj
    rw [List.getElem_take] at he
    have := h.lt (show j < i by omega) hi
    unfold kb at this
    rw [he, ls_irrefl] at this; cases this
  have h2 : delM (r.drop (i + 1)) r[i].key = r.drop (i + 1) := delM_none fun p hp he => by
    obtain ⟨j, hj, rfl⟩ := List.getElem_of_mem hp
    rw [List.length_drop] at hj
    rw [List.getElem_drop] at he
    have := h.lt (show i < i + 1 + j by omega) (by omega)
    unfold kb at this
    rw [he, ls_irrefl] at this; cases this
  have h3 : delM r r[i].key = delM (r.take i ++ r[i] :: r.drop (i + 1)) r[i].key := by rw [← e]
  rw [h3]
  unfold delM at h1 h2 ⊢
  rw [List.filter_append, List.filter_cons, if_neg (by simp), h1, h2]

/-- A rising row with a key more, or another value at one. -/
theorem putM_ins {m r : List PairD} {k : ByteArray} {v : Int} {i : Nat} (hp : m.Perm r) (h : ∀ p ∈ r, p.key ≠ k) : (putM m k v).Perm (ins r i ⟨k, v⟩) := by
  unfold putM
  refine (((delM_perm hp k).trans (by rw [delM_none h]))).append_right _ |>.trans ?_
  refine List.perm_append_singleton _ _ |>.trans ?_
  unfold ins
  refine List.Perm.trans ?_ List.perm_middle.symm
  rw [List.take_append_drop]
theorem putM_set {m r : List PairD} {v : Int} {i : Nat} (hu : UpM r) (hp : m.Perm r) (hi : i < r.length) : (putM m r[i].key v).Perm (r.set i ⟨r[i].key, v⟩) := by
  unfold putM
  refine ((delM_perm hp _).trans (by rw [delM_at hu i hi])).append_right _ |>.trans ?_
  refine List.perm_append_singleton _ _ |>.trans ?_
  rw [List.set_eq_take_append_cons_drop, if_pos hi, List.eraseIdx_eq_take_drop_succ]
  exact List.perm_middle.symm
theorem putM_uniq {m : List PairD} (h : Uniq m) (k : ByteArray) (v : Int) : Uniq (putM m k v) := by
  intro p hp q hq e
  unfold putM delM at hp hq
  rw [List.mem_append, List.mem_singleton, List.mem_filter] at hp hq
  rcases hp with ⟨hp, hp2⟩ | rfl <;> rcases hq with ⟨hq, hq2⟩ | rfl
  · exact h p hp q hq e
  · rw [kb_key e] at hp2; simp at hp2
  · rw [← kb_key e] at hq2; simp at hq2
  · rfl

end Pl
end Go.Proofs.Ytcoiadncennhpaa
