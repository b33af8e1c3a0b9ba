/- Plain facts on texts as lists of bytes: which of two is less, how far two begin alike, what parts two. No program. -/
import Derived.WalkKit
namespace Go.Proofs.Ythbafbgnclpbpaa
namespace Pl

/-- The first byte that differs tells which is less; a text is more than its own beginning. -/
def ls : List UInt8 → List UInt8 → Bool
  | _, [] => false
  | [], _ :: _ => true
  | x :: xs, y :: ys => if x = y then ls xs ys else decide (x < y)

/-- How many bytes two texts begin with alike. -/
def shr : List UInt8 → List UInt8 → Nat
  | x :: xs, y :: ys => if x = y then shr xs ys + 1 else 0
  | _, _ => 0

def cmp (a b : List UInt8) : Int := if ls a b = true then -1 else if ls b a = true then 1 else 0

theorem ls_nil (a : List UInt8) : ls a [] = false := by cases a <;> rfl
theorem ls_nil_cons (y : UInt8) (ys : List UInt8) : ls [] (y :: ys) = true := rfl
theorem ls_cons (x y : UInt8) (xs ys : List UInt8) : ls (x :: xs) (y :: ys) = if x = y then ls xs ys else decide (x < y) := rfl

theorem ls_irrefl (a : List UInt8) : ls a a = false := by
  induction a with
  | nil => rfl
  | cons x xs ih => rw [ls_cons, if_pos rfl, ih]

theorem ls_asymm : ∀ a b : List UInt8, ls a b = true → ls b a = false
  | a, [], h => by rw [ls_nil] at h; cases h
  | [], y :: ys, _ => ls_nil _
  | x :: xs, y :: ys, h => by
    rw [ls_cons] at h ⊢
    by_cases e : x = y
    · subst e; rw [if_pos rfl] at h ⊢; exact ls_asymm xs ys h
    · rw [if_neg e] at h; rw [if_neg (fun k => e k.symm)]
      have h' := of_decide_eq_true h
      exact decide_eq_false (UInt8.not_lt.2 (UInt8.le_of_lt h'))

theorem ls_total : ∀ a b : List UInt8, ls a b = false → ls b a = false → a = b
  | [], [], _, _ => rfl
  | _ :: _, [], _, h => by rw [ls_nil_cons] at h; cases h
  | [], _ :: _, h, _ => by rw [ls_nil_cons] at h; cases h
  | x :: xs, y :: ys, h1, h2 => by
    rw [ls_cons] at h1 h2
    by_cases e : x = y
    · subst e; rw [if_pos rfl] at h1 h2; rw [ls_total xs ys h1 h2]
    · rw [if_neg e] at h1; rw [if_neg (fun k => e k.symm)] at h2
      have a1 := of_decide_eq_false h1
      have a2 := of_decide_eq_false h2
      exact absurd (UInt8.le_antisymm (UInt8.not_lt.1 a2) (UInt8.not_lt.1 a1)) e

theorem ls_trans : ∀ a b c : List UInt8, ls a b = true → ls b c = true → ls a c = true
  | a, b, [], _, h2 => by rw [ls_nil] at h2; cases h2
  | [], _, _ :: _, _, _ => rfl
  | _ :: _, [], _, h1, _ => by rw [ls_nil] at h1; cases h1
  | x :: xs, y :: ys, z :: zs, h1, h2 => by
    rw [ls_cons] at h1 h2 ⊢
    by_cases e : x = y
    · subst e
      rw [if_pos rfl] at h1
      by_cases f : x = z
      · rw [if_pos f] at h2 ⊢; exact ls_trans xs ys zs h1 h2
      · rw [if_neg f] at h2 ⊢; exact h2
    · rw [if_neg e] at h1
      have a1 := of_decide_eq_true h1
      by_cases f : y = z
      · subst f; rw [if_neg e]; exact h1
      · rw [if_neg f] at h2
        have a2 := of_decide_eq_true h2
        have a3 := UInt8.lt_trans a1 a2
        rw [if_neg (fun k => by subst k; exact UInt8.lt_irrefl _ a3)]
        exact decide_eq_true a3

/-- Not greater, then less. -/
theorem ls_of_le_ls {a b c : List UInt8} (h1 : ls b a = false) (h2 : ls b c = true) : ls a c = true := by
  by_cases e : ls a b = true
  · exact ls_trans _ _ _ e h2
  · rw [ls_total a b (Bool.eq_false_iff.2 e) h1]; exact h2
theorem ls_of_ls_le {a b c : List UInt8} (h1 : ls a b = true) (h2 : ls c b = false) : ls a c = true := by
  by_cases e : ls b c = true
  · exact ls_trans _ _ _ h1 e
  · rw [← ls_total b c (Bool.eq_false_iff.2 e) h2]; exact h1
theorem le_trans' {a b c : List UInt8} (h1 : ls b a = false) (h2 : ls c b = false) : ls c a = false := by
  by_cases e : ls c a = true
  · have := ls_of_ls_le e h1
    rw [this] at h2; cases h2
  · exact Bool.eq_false_iff.2 e

theorem shr_le : ∀ a b : List UInt8, shr a b ≤ a.length ∧ shr a b ≤ b.length
  | [], _ => ⟨Nat.zero_le _, Nat.zero_le _⟩
  | _ :: _, [] => ⟨Nat.zero_le _, Nat.zero_le _⟩
  | x :: xs, y :: ys => by
    unfold shr
    have := shr_le xs ys
    split <;> simp <;> omega

theorem shr_comm : ∀ a b : List UInt8, shr a b = shr b a
  | [], [] => rfl
  | [], _ :: _ => rfl
  | _ :: _, [] => rfl
  | x :: xs, y :: ys => by
    unfold shr
    by_cases e : x = y
    · subst e; rw [if_pos rfl, if_pos rfl, shr_comm xs ys]
    · rw [if_neg e, if_neg (fun k => e k.symm)]

theorem shr_take : ∀ a b : List UInt8, a.take (shr a b) = b.take (shr a b)
  | [], [] => rfl
  | [], _ :: _ => rfl
  | _ :: _, [] => rfl
  | x :: xs, y :: ys => by
    unfold shr
    by_cases e : x = y
    · subst e; rw [if_pos rfl, List.take_succ_cons, List.take_succ_cons, shr_take xs ys]
    · rw [if_neg e]; rfl

/-- Where two texts part, they part. -/
theorem shr_ne : ∀ (a b : List UInt8) (h1 : shr a b < a.length) (h2 : shr a b < b.length), a[shr a b] ≠ b[shr a b]
  | [], _, h1, _ => absurd h1 (Nat.not_lt_zero _)
  | _ :: _, [], _, h2 => absurd h2 (Nat.not_lt_zero _)
  | x :: xs, y :: ys, h1, h2 => by
    by_cases e : x = y
    · have es : shr (x :: xs) (y :: ys) = shr xs ys + 1 := by rw [shr, if_pos e]
      have := shr_ne xs ys (by rw [es] at h1; simpa using h1) (by rw [es] at h2; simpa using h2)
      simpa [es] using this
    · have es : shr (x :: xs) (y :: ys) = 0 := by rw [shr, if_neg e]
      simpa [es] using e

/-- What the walk of a loop finds is it. -/
theorem shr_eq_of : ∀ (a b : List UInt8) (n : Nat), n ≤ a.length → n ≤ b.length → (∀ i (h1 : i < a.length) (h2 : i < b.length), i < n → a[i] = b[i]) →
    (n = a.length ∨ n = b.length ∨ ∃ (h1 : n < a.length) (h2 : n < b.length), a[n] ≠ b[n]) → shr a b = n
  | [], b, n, h1, _, _, _ => by
    have h1' : n ≤ 0 := h1
    have h0 : n = 0 := by omega
    subst h0
    cases b <;> rfl
  | x :: xs, [], n, _, h2, _, _ => by
    have h2' : n ≤ 0 := h2
    have h0 : n = 0 := by omega
    subst h0
    rfl
  | x :: xs, y :: ys, 0, _, _, _, h => by
    rcases h with h | h | ⟨_, _, h⟩
    · simp at h
    · simp at h
    · rw [shr, if_neg (by simpa using h)]
  | x :: xs, y :: ys, n + 1, h1, h2, ha, h => by
    have e : x = y := ha 0 (by simp) (by simp) (Nat.succ_pos _)
    rw [shr, if_pos e, shr_eq_of xs ys n (by simpa using h1) (by simpa using h2)]
    · intro i k1 k2 hi
      have := ha (i + 1) (by simpa using k1) (by simpa using k2) (by omega)
      simpa using this
    · rcases h with h | h | ⟨k1, k2, h⟩
      · exact Or.inl (by simpa using h)
      · exact Or.inr (Or.inl (by simpa using h))
      · exact Or.inr (Or.inr ⟨by simpa using k1, by simpa using k2, by simpa using h⟩)

/-- Which is less, told by the place where two texts part. -/
theorem ls_shr : ∀ a b : List UInt8, ls a b = true ↔ ∃ _ : shr a b < b.length, shr a b = a.length ∨ ∃ (h1 : shr a b < a.length) (h2 : shr a b < b.length), a[shr a b] < b[shr a b]
  | a, [] => by rw [ls_nil]; simp
  | [], y :: ys => by simp [ls, shr]
  | x :: xs, y :: ys => by
    by_cases e : x = y
    · have es : shr (x :: xs) (y :: ys) = shr xs ys + 1 := by rw [shr, if_pos e]
      rw [ls_cons, if_pos e, ls_shr xs ys]
      simp [es]
    · have es : shr (x :: xs) (y :: ys) = 0 := by rw [shr, if_neg e]
      rw [ls_cons, if_neg e]
      simp [es]

theorem cmp_lt {a b : List UInt8} : cmp a b < 0 ↔ ls a b = true := by
  unfold cmp
  by_cases h : ls a b = true
  · simp [h]
  · by_cases k : ls b a = true <;> simp [h, k]
theorem cmp_gt {a b : List UInt8} : 0 < cmp a b ↔ ls b a = true := by
  unfold cmp
  by_cases h : ls a b = true
  · simp [h, ls_asymm a b h]
  · by_cases k : ls b a = true <;> simp [h, k]
theorem cmp_le {a b : List UInt8} : cmp a b ≤ 0 ↔ ls b a = false := by
  rw [← Bool.not_eq_true, ← cmp_gt]; omega
theorem cmp_ge {a b : List UInt8} : 0 ≤ cmp a b ↔ ls a b = false := by
  rw [← Bool.not_eq_true, ← cmp_lt]; omega
theorem cmp_eq {a b : List UInt8} : cmp a b = 0 ↔ a = b := by
  constructor
  · intro h
    exact ls_total a b (cmp_ge.1 (by omega)) (cmp_le.1 (by omega))
  · rintro rfl
    simp [cmp, ls_irrefl]
theorem cmp_neg (a b : List UInt8) : cmp a b = -cmp b a := by
  unfold cmp
  by_cases h : ls a b = true
  · simp [h, ls_asymm a b h]
  · by_cases k : ls b a = true <;> simp [h, k]
theorem cmp_range (a b : List UInt8) : -1 ≤ cmp a b ∧ cmp a b ≤ 1 := by
  unfold cmp
  split
  · omega
  · split <;> omega

/-- A part of the beginning is not more. -/
theorem ls_take (a : List UInt8) : ∀ n, ls a (a.take n) = false := by
  induction a with
  | nil => intro n; simp [ls_irrefl]
  | cons x xs ih =>
    intro n
    cases n with
    | zero => exact ls_nil _
    | succ n => rw [List.take_succ_cons, ls_cons, if_pos rfl]; exact ih n

theorem ls_take_shr : ∀ (a b : List UInt8) (n : Nat), n ≤ shr a b → ls a (b.take n) = false
  | a, b, 0, _ => by rw [List.take_zero]; exact ls_nil _
  | a, [], n + 1, _ => by rw [List.take_nil]; exact ls_nil _
  | [], y :: ys, n + 1, h => by simp [shr] at h
  | x :: xs, y :: ys, n + 1, h => by
    by_cases e : x = y
    · subst e
      rw [List.take_succ_cons, ls_cons, if_pos rfl]
      rw [shr, if_pos rfl] at h
      exact ls_take_shr xs ys n (by omega)
    · rw [shr, if_neg e] at h; omega

theorem ls_take_more : ∀ (a b : List UInt8), ls a b = true → ls a (b.take (shr a b + 1)) = true
  | a, [], h => by rw [ls_nil] at h; cases h
  | [], y :: ys, _ => by simp [shr, ls]
  | x :: xs, y :: ys, h => by
    by_cases e : x = y
    · subst e
      rw [ls_cons, if_pos rfl] at h
      rw [shr, if_pos rfl, List.take_succ_cons, ls_cons, if_pos rfl]
      exact ls_take_more xs ys h
    · rw [ls_cons, if_neg e] at h
      rw [shr, if_neg e, List.take_succ_cons, ls_cons, if_neg e]
      exact h

theorem shr_lt {a b : List UInt8} (h : ls a b = true) : shr a b < b.length := ((ls_shr a b).1 h).1

/-- What parts two texts is not more than the second one. -/
theorem take_le (b : List UInt8) (n : Nat) : ls b (b.take n) = false := ls_take b n

theorem ls_snoc (k : List UInt8) (c : UInt8) : ls k (k ++ [c]) = true := by
  induction k with
  | nil => rfl
  | cons x xs ih => rw [List.cons_append, ls_cons, if_pos rfl]; exact ih

/-- Nothing lies between a text and the one after it. -/
theorem ls_after : ∀ (k x : List UInt8), ls x (k ++ [0]) = !ls k x
  | [], [] => rfl
  | [], y :: ys => by
    rw [List.nil_append, ls_cons, ls_nil, ls_nil_cons]
    by_cases e : y = 0
    · simp [e]
    · simp [e]
  | x :: xs, [] => by rw [ls_nil, List.cons_append, ls_nil_cons]; rfl
  | x :: xs, y :: ys => by
    rw [List.cons_append, ls_cons, ls_cons]
    by_cases e : y = x
    · subst e; rw [if_pos rfl, if_pos rfl]; exact ls_after xs ys
    · rw [if_neg e, if_neg (fun h => e h.symm)]
      by_cases h : x < y
      · have : ¬ y < x := UInt8.not_lt.2 (UInt8.le_of_lt h)
        simp [h, this]
      · have : y < x := by
          rcases Nat.lt_or_ge y.toNat x.toNat with g | g
          · exact UInt8.lt_iff_toNat_lt.2 g
          · exfalso
            have h2 : ¬ x.toNat < y.toNat := fun k => h (UInt8.lt_iff_toNat_lt.2 k)
            exact e (UInt8.toNat_inj.1 (by omega))
        simp [h, this]

end Pl
end Go.Proofs.Ythbafbgnclpbpaa
