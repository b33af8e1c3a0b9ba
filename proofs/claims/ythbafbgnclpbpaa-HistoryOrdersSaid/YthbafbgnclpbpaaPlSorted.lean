/- Plain facts on rows of texts: a search by halves; rows that rise. No program. -/
import Derived.Test.YthbafbgnclpbpaaPlKey
namespace Go.Proofs.Ythbafbgnclpbpaa
namespace Pl

/-- A search by halves for the first place of which p holds. -/
def bs (p : Nat → Bool) : Nat → Nat → Nat → Nat
  | 0, low, _ => low
  | f + 1, low, high => if low < high then (if p (low + (high - low) / 2) = true then bs p f low (low + (high - low) / 2) else bs p f (low + (high - low) / 2 + 1) high) else low

theorem bs_fuel (p : Nat → Bool) : ∀ (f g low high : Nat), high - low ≤ f → high - low ≤ g → bs p f low high = bs p g low high
  | 0, 0, _, _, _, _ => rfl
  | 0, g + 1, low, high, hf, _ => by
    have h : ¬ low < high := by omega
    rw [bs, bs, if_neg h]
  | f + 1, 0, low, high, _, hg => by
    have h : ¬ low < high := by omega
    rw [bs, bs, if_neg h]
  | f + 1, g + 1, low, high, hf, hg => by
    rw [bs, bs]
    by_cases h : low < high
    · rw [if_pos h, if_pos h]
      split
      · exact bs_fuel p f g _ _ (by omega) (by omega)
      · exact bs_fuel p f g _ _ (by omega) (by omega)
    · rw [if_neg h, if_neg h]

/-- What the search tells of a row of n places. -/
def firstOf (p : Nat → Bool) (n : Nat) : Nat := bs p n 0 n

theorem bs_bound (p : Nat → Bool) : ∀ (f low high : Nat), low ≤ high → low ≤ bs p f low high ∧ bs p f low high ≤ high
  | 0, low, high, h => by rw [bs]; omega
  | f + 1, low, high, h => by
    rw [bs]
    by_cases hl : low < high
    · rw [if_pos hl]
      split
      · have := bs_bound p f low (low + (high - low) / 2) (by omega); omega
      · have := bs_bound p f (low + (high - low) / 2 + 1) high (by omega); omega
    · rw [if_neg hl]; omega
theorem firstOf_le (p : Nat → Bool) (n : Nat) : firstOf p n ≤ n := (bs_bound p n 0 n (Nat.zero_le _)).2

/-- Where p rises (once true, it stays so), the search tells the first one. -/
theorem bs_first (p : Nat → Bool) (N : Nat) (hp : ∀ i j, i ≤ j → j < N → p i = true → p j = true) : ∀ (f low high : Nat), high - low ≤ f → low ≤ high → high ≤ N →
    (∀ i, low ≤ i → i < bs p f low high → p i = false) ∧ (bs p f low high < high → p (bs p f low high) = true)
  | 0, low, high, hf, hl, hN => by
    rw [bs]
    exact ⟨fun i h1 h2 => by omega, fun h => by omega⟩
  | f + 1, low, high, hf, hl, hN => by
    rw [bs]
    by_cases h : low < high
    · rw [if_pos h]
      by_cases hm : p (low + (high - low) / 2) = true
      · rw [if_pos hm]
        have ih := bs_first p N hp f low (low + (high - low) / 2) (by omega) (by omega) (by omega)
        have ib := bs_bound p f low (low + (high - low) / 2) (by omega)
        refine ⟨ih.1, fun _ => ?_⟩
        by_cases hh : bs p f low (low + (high - low) / 2) < low + (high - low) / 2
        · exact ih.2 hh
        · have : bs p f low (low + (high - low) / 2) = low + (high - low) / 2 := by omega
          rw [this]; exact hm
      · rw [if_neg hm]
        have ih := bs_first p N hp f (low + (high - low) / 2 + 1) high (by omega) (by omega) hN
        refine ⟨fun i h1 h2 => ?_, ih.2⟩
        by_cases hh : low + (high - low) / 2 + 1 ≤ i
        · exact ih.1 i hh h2
        · cases hpi : p i with
          | false => rfl
          | true => exact absurd (hp i _ (by omega) (by omega) hpi) hm
    · rw [if_neg h]
      exact ⟨fun i h1 h2 => by omega, fun h' => by omega⟩
theorem firstOf_spec (p : Nat → Bool) (n : Nat) (hp : ∀ i j, i ≤ j → j < n → p i = true → p j = true) :
    (∀ i, i < firstOf p n → p i = false) ∧ (firstOf p n < n → p (firstOf p n) = true) := by
  have h := bs_first p n hp n 0 n (by omega) (Nat.zero_le _) (Nat.le_refl _)
  exact ⟨fun i hi => h.1 i (Nat.zero_le _) hi, h.2⟩

theorem bs_congr (p q : Nat → Bool) : ∀ (f low high N : Nat), high ≤ N → (∀ i, i < N → p i = q i) → bs p f low high = bs q f low high
  | 0, _, _, _, _, _ => rfl
  | f + 1, low, high, N, hN, h => by
    rw [bs, bs]
    by_cases hl : low < high
    · rw [if_pos hl, if_pos hl, h _ (by omega), bs_congr p q f _ _ N (by omega) h, bs_congr p q f _ _ N (by omega) h]
    · rw [if_neg hl, if_neg hl]

/-- The bytes of the text at a place. -/
def tx (ss : List ByteArray) (i : Nat) : List UInt8 := (ss.getD i ByteArray.empty).data.toList
theorem tx_eq (ss : List ByteArray) (i : Nat) (h : i < ss.length) : tx ss i = ss[i].data.toList := by
  unfold tx; rw [List.getD_eq_getElem?_getD, List.getElem?_eq_getElem h]; rfl

/-- Does a row rise? -/
def rises (ss : List ByteArray) : Bool := (List.range (ss.length - 1)).all fun i => ls (tx ss i) (tx ss (i + 1))
theorem rises_iff (ss : List ByteArray) : rises ss = true ↔ ∀ i, i + 1 < ss.length → ls (tx ss i) (tx ss (i + 1)) = true := by
  unfold rises
  rw [List.all_eq_true]
  constructor
  · intro h i hi; exact h i (List.mem_range.2 (by omega))
  · intro h i hi; have := List.mem_range.1 hi; exact h i (by omega)
theorem rises_lt {ss : List ByteArray} (h : rises ss = true) : ∀ i j, i < j → j < ss.length → ls (tx ss i) (tx ss j) = true := by
  rw [rises_iff] at h
  intro i j hij hj
  induction j with
  | zero => omega
  | succ j ih =>
    by_cases he : i = j
    · subst he; exact h i hj
    · exact ls_trans _ _ _ (ih (by omega) (by omega)) (h j hj)

/-- Where Find looks, and Floor. -/
def pGe (ss : List ByteArray) (k : List UInt8) (i : Nat) : Bool := !ls (tx ss i) k
def pGt (ss : List ByteArray) (k : List UInt8) (i : Nat) : Bool := ls k (tx ss i)
def findAt (ss : List ByteArray) (k : List UInt8) : Nat := firstOf (pGe ss k) ss.length
def overAt (ss : List ByteArray) (k : List UInt8) : Nat := firstOf (pGt ss k) ss.length
def findIs (ss : List ByteArray) (k : List UInt8) : Bool := decide (findAt ss k < ss.length) && (tx ss (findAt ss k) == k)
theorem findAt_le (ss : List ByteArray) (k : List UInt8) : findAt ss k ≤ ss.length := firstOf_le _ _
theorem overAt_le (ss : List ByteArray) (k : List UInt8) : overAt ss k ≤ ss.length := firstOf_le _ _

/-- Each text less than all behind it. -/
def Up (ss : List ByteArray) : Prop := ss.Pairwise fun a b => ls a.data.toList b.data.toList = true
theorem rises_up (ss : List ByteArray) : rises ss = true ↔ Up ss := by
  constructor
  · intro h
    unfold Up
    rw [List.pairwise_iff_getElem]
    intro i j hi hj hij
    have := rises_lt h i j hij hj
    rwa [tx_eq ss i hi, tx_eq ss j hj] at this
  · intro h
    unfold Up at h
    rw [List.pairwise_iff_getElem] at h
    rw [rises_iff]
    intro i hi
    rw [tx_eq ss i (by omega), tx_eq ss (i + 1) hi]
    exact h i (i + 1) _ _ (by omega)
theorem Up.sub {ss ts : List ByteArray} (h : Up ss) (hs : List.Sublist ts ss) : Up ts := List.Pairwise.sublist hs h

theorem pGe_mono {ss : List ByteArray} (h : rises ss = true) (k : List UInt8) : ∀ i j, i ≤ j → j < ss.length → pGe ss k i = true → pGe ss k j = true := by
  intro i j hij hj hp
  by_cases e : i = j
  · subst e; exact hp
  · have hl := rises_lt h i j (by omega) hj
    unfold pGe at hp ⊢
    cases hh : ls (tx ss j) k with
    | false => rfl
    | true => rw [ls_trans _ _ _ hl hh] at hp; exact hp
theorem pGt_mono {ss : List ByteArray} (h : rises ss = true) (k : List UInt8) : ∀ i j, i ≤ j → j < ss.length → pGt ss k i = true → pGt ss k j = true := by
  intro i j hij hj hp
  by_cases e : i = j
  · subst e; exact hp
  · exact ls_trans _ _ _ hp (rises_lt h i j (by omega) hj)
theorem findAt_spec {ss : List ByteArray} (h : rises ss = true) (k : List UInt8) :
    (∀ i, i < findAt ss k → ls (tx ss i) k = true) ∧ (∀ i, findAt ss k ≤ i → i < ss.length → ls (tx ss i) k = false) := by
  obtain ⟨h1, h2⟩ := firstOf_spec (pGe ss k) ss.length (pGe_mono h k)
  constructor
  · intro i hi
    have := h1 i hi
    unfold pGe at this
    simpa using this
  · intro i hi hl
    have h3 := h2 (Nat.lt_of_le_of_lt hi hl)
    have h4 := pGe_mono h k _ i hi hl h3
    unfold pGe at h4
    simpa using h4
theorem overAt_spec {ss : List ByteArray} (h : rises ss = true) (k : List UInt8) :
    (∀ i, i < overAt ss k → ls k (tx ss i) = false) ∧ (∀ i, overAt ss k ≤ i → i < ss.length → ls k (tx ss i) = true) := by
  obtain ⟨h1, h2⟩ := firstOf_spec (pGt ss k) ss.length (pGt_mono h k)
  exact ⟨fun i hi => h1 i hi, fun i hi hl => pGt_mono h k _ i hi hl (h2 (Nat.lt_of_le_of_lt hi hl))⟩
/-- Where Find says no, the text is none of the row. -/
theorem findIs_iff {ss : List ByteArray} (h : rises ss = true) (k : List UInt8) : findIs ss k = true ↔ ∃ i, i < ss.length ∧ tx ss i = k := by
  unfold findIs
  rw [Bool.and_eq_true, decide_eq_true_iff, beq_iff_eq]
  constructor
  · intro ⟨h1, h2⟩; exact ⟨_, h1, h2⟩
  · intro ⟨i, hi, he⟩
    obtain ⟨h1, h2⟩ := findAt_spec h k
    have hge : findAt ss k ≤ i := by
      rcases Nat.lt_or_ge i (findAt ss k) with g | g
      · have := h1 i g; rw [he, ls_irrefl] at this; cases this
      · exact g
    refine ⟨by omega, ?_⟩
    by_cases e : findAt ss k = i
    · rw [e]; exact he
    · have := rises_lt h (findAt ss k) i (by omega) hi
      rw [he, h2 _ (Nat.le_refl _) (by omega)] at this
      cases this

end Pl
end Go.Proofs.Ythbafbgnclpbpaa
