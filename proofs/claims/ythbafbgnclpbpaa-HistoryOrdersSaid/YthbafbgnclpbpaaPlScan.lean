/- Bytes read as a number: plain. -/
import Derived.Test.YthbafbgnclpbpaaPlDig
namespace Go.Proofs.Ythbafbgnclpbpaa
open Go.RowKit

inductive Scan
  | short
  | bad
  | got (n k : Nat)

/-- i digits are read, and are acc. -/
def scan (i acc : Nat) : List Nat → Scan
  | [] => .short
  | x :: r => if 128 ≤ x ∧ i < 9 then scan (i + 1) (acc + (x % 128) * 128 ^ i) r else if (0 < i ∧ x = 0) ∨ (i = 9 ∧ 1 < x) then .bad else .got (acc + (x % 128) * 128 ^ i) (i + 1)

theorem scan_dig : ∀ (t i acc m : Nat) (r : List Nat), i + t = 9 → m * 128 ^ i < 18446744073709551616 → (i = 0 ∨ m ≠ 0) → scan i acc (digF (t + 1) m ++ r) = .got (acc + m * 128 ^ i) (i + (digF (t + 1) m).length) := by
  intro t
  induction t with
  | zero =>
    intro i acc m r hi hm h0
    have hi9 : i = 9 := by omega
    subst hi9
    have hm1 : m < 2 := by omega
    rw [digF_small _ m (by omega)]
    simp only [List.cons_append, List.nil_append, scan]
    rw [if_neg (by omega), if_neg (by omega), Nat.mod_eq_of_lt (by omega)]
    rfl
  | succ t ih =>
    intro i acc m r hi hm h0
    by_cases hb : 128 ≤ m
    · rw [digF_step _ m hb]
      simp only [List.cons_append, scan]
      rw [if_pos ⟨by omega, by omega⟩]
      have e1 : m / 128 * 128 ^ (i + 1) ≤ m * 128 ^ i := by
        rw [Nat.pow_succ, Nat.mul_comm (128 ^ i) 128, ← Nat.mul_assoc]
        exact Nat.mul_le_mul_right _ (Nat.div_mul_le_self m 128)
      rw [ih (i + 1) _ (m / 128) r (by omega) (Nat.lt_of_le_of_lt e1 hm) (.inr (by omega))]
      have e2 : (m % 128 + 128) % 128 = m % 128 := by omega
      have e3 : acc + (m % 128 + 128) % 128 * 128 ^ i + m / 128 * 128 ^ (i + 1) = acc + m * 128 ^ i := by
        rw [e2, Nat.pow_succ, Nat.mul_comm (128 ^ i) 128, ← Nat.mul_assoc, Nat.add_assoc, ← Nat.add_mul]
        congr 2
        omega
      rw [e3, List.length_cons]
      congr 1
      omega
    · rw [digF_small _ m (by omega)]
      simp only [List.cons_append, List.nil_append, scan]
      rw [if_neg (by omega), if_neg (by omega), Nat.mod_eq_of_lt (by omega)]
      rfl

theorem scan_back {n : Nat} (h : n < 18446744073709551616) (r : List Nat) : scan 0 0 (dig n ++ r) = .got n (dig n).length := by
  have := scan_dig 9 0 0 n r rfl (by omega) (.inl rfl)
  simpa [dig] using this

theorem scan_once : ∀ (l : List Nat) (i acc n k t : Nat), i + t = 9 → (∀ x ∈ l, x < 256) → scan i acc l = .got n k →
    ∃ m, n = acc + m * 128 ^ i ∧ m < 128 ^ t * 2 ∧ k = i + (digF (t + 1) m).length ∧ l.take (k - i) = digF (t + 1) m ∧ k - i ≤ l.length ∧ (i = 0 ∨ m ≠ 0) := by
  intro l
  induction l with
  | nil => intro i acc n k t hi hx h; simp [scan] at h
  | cons x r ih =>
    intro i acc n k t hi hx h
    have hx0 := hx x (by simp)
    unfold scan at h
    by_cases hc : 128 ≤ x ∧ i < 9
    · rw [if_pos hc] at h
      obtain ⟨t, rfl⟩ : ∃ t', t = t' + 1 := ⟨t - 1, by omega⟩
      obtain ⟨m, h1, h2, h3, h4, h5, h6⟩ := ih (i + 1) _ n k t (by omega) (fun y hy => hx y (by simp [hy])) h
      have hm0 : m ≠ 0 := by omega
      refine ⟨x % 128 + m * 128, ?_, ?_, ?_, ?_, ?_, .inr (by omega)⟩
      · rw [h1, Nat.pow_succ, Nat.add_mul, Nat.add_assoc]
        congr 2
        rw [Nat.mul_assoc, Nat.mul_comm 128]
      · rw [Nat.pow_succ]; omega
      · rw [digF_step _ _ (by omega), List.length_cons, show (x % 128 + m * 128) / 128 = m from by omega, h3]; omega
      · have hk : k - i = (k - (i + 1)) + 1 := by
          have := digF_pos (t + 1) m
          omega
        rw [hk, List.take_succ_cons, h4, digF_step (t + 1) (x % 128 + m * 128) (by omega), show (x % 128 + m * 128) / 128 = m from by omega]
        congr 1
        omega
      · rw [List.length_cons]; omega
    · rw [if_neg hc] at h
      by_cases hb : (0 < i ∧ x = 0) ∨ (i = 9 ∧ 1 < x)
      · rw [if_pos hb] at h; cases h
      · rw [if_neg hb] at h
        injection h with e1 e2
        have hx1 : x < 128 := by omega
        rw [Nat.mod_eq_of_lt hx1] at e1
        refine ⟨x, e1.symm, ?_, ?_, ?_, ?_, by omega⟩
        · by_cases ht : t = 0
          · subst ht; simp; omega
          · obtain ⟨t, rfl⟩ : ∃ t', t = t' + 1 := ⟨t - 1, by omega⟩
            rw [Nat.pow_succ]
            have := Nat.pow_pos (n := t) (show 0 < 128 by omega)
            omega
        · rw [digF_small _ x hx1]; simp; omega
        · rw [digF_small _ x hx1, ← e2]; simp
        · rw [List.length_cons]; omega

/-- What is read is just what it is written in. -/
theorem scan_got {l : List Nat} {n k : Nat} (hx : ∀ x ∈ l, x < 256) (h : scan 0 0 l = .got n k) : n < 18446744073709551616 ∧ l.take k = dig n ∧ k = (dig n).length ∧ k ≤ l.length := by
  obtain ⟨m, h1, h2, h3, h4, h5, _⟩ := scan_once l 0 0 n k 9 rfl hx h
  simp at h1 h3 h4 h5
  subst h1
  refine ⟨by omega, ?_, ?_, h5⟩
  · exact h4
  · exact h3

end Go.Proofs.Ythbafbgnclpbpaa
