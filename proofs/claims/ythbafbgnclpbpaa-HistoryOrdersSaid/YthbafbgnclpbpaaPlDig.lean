/- Numbers as bytes: seven bits a digit, the least first. Plain. -/
import Derived.Test.YthbafbgnclpbpaaWords
import Derived.Laws.BitsAllLaws
namespace Go.Proofs.Ythbafbgnclpbpaa
open Go.RowKit

def digF : Nat → Nat → List Nat
  | 0, n => [n]
  | f + 1, n => if 128 ≤ n then (n % 128 + 128) :: digF f (n / 128) else [n]
/-- The digits of a number. -/
def dig (n : Nat) : List Nat := digF 10 n

theorem digF_small (f n : Nat) (h : n < 128) : digF f n = [n] := by
  cases f with
  | zero => rfl
  | succ f => rw [digF, if_neg (by omega)]
theorem digF_step (f n : Nat) (h : 128 ≤ n) : digF (f + 1) n = (n % 128 + 128) :: digF f (n / 128) := by rw [digF, if_pos h]
theorem digF_more : ∀ (f n : Nat), n < 128 ^ (f + 1) → digF (f + 1) n = digF f n := by
  intro f
  induction f with
  | zero => intro n h; rw [digF_small _ n (by simpa using h), digF_small _ n (by simpa using h)]
  | succ f ih =>
    intro n h
    by_cases h0 : 128 ≤ n
    · rw [digF_step (f + 1) n h0, digF_step f n h0, ih (n / 128) (by rw [Nat.div_lt_iff_lt_mul (by omega)]; rw [Nat.pow_succ] at h; exact h)]
    · rw [digF_small _ n (by omega), digF_small _ n (by omega)]
theorem digF_len : ∀ (f n : Nat), (digF f n).length ≤ f + 1 := by
  intro f
  induction f with
  | zero => intro n; simp [digF]
  | succ f ih =>
    intro n
    by_cases h0 : 128 ≤ n
    · rw [digF_step f n h0, List.length_cons]; have := ih (n / 128); omega
    · rw [digF_small _ n (by omega)]; simp
theorem digF_pos (f n : Nat) : 1 ≤ (digF f n).length := by
  cases f with
  | zero => simp [digF]
  | succ f => rw [digF]; split <;> simp
theorem digF_lt : ∀ (f n : Nat), n < 128 ^ (f + 1) → ∀ x ∈ digF f n, x < 256 := by
  intro f
  induction f with
  | zero => intro n h x hx; simp [digF] at hx; subst hx; simp at h; omega
  | succ f ih =>
    intro n h x hx
    by_cases h0 : 128 ≤ n
    · rw [digF_step f n h0, List.mem_cons] at hx
      rcases hx with rfl | hx
      · omega
      · exact ih (n / 128) (by rw [Nat.div_lt_iff_lt_mul (by omega)]; rw [Nat.pow_succ] at h; exact h) x hx
    · rw [digF_small _ n (by omega)] at hx
      simp at hx; omega
theorem dig_small {n : Nat} (h : n < 128) : dig n = [n] := digF_small 10 n h
theorem dig_step {n : Nat} (h : 128 ≤ n) (hb : n < 18446744073709551616) : dig n = (n % 128 + 128) :: dig (n / 128) := by
  unfold dig
  rw [digF_step 9 n h, ← digF_more 9 (n / 128) (by omega)]
theorem dig_len (n : Nat) : (dig n).length ≤ 11 := digF_len 10 n
theorem dig_pos (n : Nat) : 1 ≤ (dig n).length := digF_pos 10 n
theorem dig_lt {n : Nat} (h : n < 18446744073709551616) : ∀ x ∈ dig n, x < 256 := digF_lt 10 n (by omega)

/-- Bytes as cells. -/
def u8s (l : List Nat) : List Value := l.map fun (n : Nat) => .int .u8 (n : Int)
theorem u8s_length (l : List Nat) : (u8s l).length = l.length := by simp [u8s]
theorem u8s_append (l m : List Nat) : u8s (l ++ m) = u8s l ++ u8s m := by simp [u8s]
theorem u8s_one (l : List Nat) : ∀ u ∈ u8s l, u.oneCell' = true := by
  intro u hu
  simp [u8s] at hu
  obtain ⟨n, _, rfl⟩ := hu
  rfl
/-- A text's bytes. -/
def tb (s : ByteArray) : List Nat := s.data.toList.map (·.toNat)
theorem tb_length (s : ByteArray) : (tb s).length = s.size := by simp [tb]

set_option maxRecDepth 100000 in
theorem or_u8 (x : Int) (h0 : 0 ≤ x) (h1 : x < 256) : bits .or .u8 x 128 = (((x.toNat) % 128 + 128 : Nat) : Int) := by
  rw [u8_or x 128 h0 h1 (by omega) (by omega)]
  congr 1
  have key : ∀ n : Fin 256, n.val ||| 128 = n.val % 128 + 128 := by decide
  have := key ⟨x.toNat, by omega⟩
  exact this

end Go.Proofs.Ythbafbgnclpbpaa
