/- Contracts of package op and its reference: what is used, by letters. -/
import Derived.Test.YtggjlnjpokdfpaaOp3
namespace Go.Proofs.Ytggjlnjpokdfpaa
open Go.RowKit

theorem usesS_size (k : Int) : (usesS k).size ≤ 3 := by
  unfold usesS
  split
  · decide
  · split
    · decide
    · split
      · decide
      · split <;> decide

set_option maxHeartbeats 1000000 in
theorem refuses_any (k : Int) (x : Nat) (w : World) : Calls Try.prog 97 #[.int .i64 k, .int .u8 (x : Int)] w (Ret (.bool (decide (x ∈ tb (usesS k)))) w) := by
  have hU := Lib.hid (refuses0_any k)
  have hs := usesS_size k
  generalize usesS k = s at hU hs ⊢
  have hs2 : s.size ≤ 9223372036854775807 := by omega
  have hl := tb_length s
  go_enter Try.func97, Try.ntmps97
  go_wp2_with fail
  refine (hU.out _).mono ?_
  rintro e w1 ⟨rfl, hb1⟩
  go_wp2_with fail
  go_loopw [6] (fun i wr => ∃ j : Nat, j ≤ s.size ∧ i = .int .i64 j ∧ Hid (∀ q (hq : q < (tb s).length), q < j → (tb s)[q] ≠ x) ∧ wr = w1) (fun i _ => s.size - (intOf i).toNat)
  case atStart => exact ⟨0, Nat.zero_le _, rfl, fun q _ hq => absurd hq (Nat.not_lt_zero _), rfl⟩
  case round =>
    obtain ⟨j, hj, rfl, hpre, rfl⟩ := hrel
    by_cases hlt : j < s.size
    · have hat : (tb s)[j]'(by omega) = s[j].toNat := by simp [tb]; rfl
      have HA := Lib.hid hat
      clear hat
      by_cases he : s[j].toNat = x
      · have ht : ((s[j].toNat : Int) == (x : Int)) = true := by rw [beq_iff_eq]; omega
        have HE := Lib.hid he
        clear he
        go_wp2_with fail
        go_ret
        refine ⟨ret_bool ?_, hb1⟩
        symm
        apply decide_eq_true
        rw [← HE.out, ← HA.out]
        exact List.getElem_mem _
      · have ht : ((s[j].toNat : Int) == (x : Int)) = false := by rw [beq_eq_false_iff_ne]; omega
        have HE := Lib.hid he
        clear he
        go_wp2_with fail
        go_roundw
        case rel =>
          refine ⟨j + 1, by omega, by go_num, fun q hq hqj => ?_, trivial⟩
          rcases Nat.lt_succ_iff_lt_or_eq.1 hqj with g | rfl
          · exact hpre.out q hq g
          · rw [HA.out]; exact HE.out
        case measure => simp [intOf]; omega
    · go_wp2_with fail
      go_ret
      refine ⟨ret_bool ?_, hb1⟩
      symm
      apply decide_eq_false
      intro hm
      obtain ⟨q, hq, he⟩ := List.getElem_of_mem hm
      exact hpre.out q hq (by omega) he

theorem uses_k (k : Int) : decide (107 ∈ tb (usesS k)) = usesKey k := by
  rcases kind_cases k with rfl | rfl | rfl | rfl | rfl | rfl | rfl | rfl | rfl | rfl | h
  case inr.inr.inr.inr.inr.inr.inr.inr.inr.inr =>
    have e : usesS k = ⟨#[]⟩ := by unfold usesS; rw [if_neg (by omega), if_neg (by omega), if_neg (by omega), if_neg (by omega)]
    rw [e, show usesKey k = false from decide_eq_false (by omega)]; rfl
  all_goals decide
theorem uses_t (k : Int) : decide (116 ∈ tb (usesS k)) = usesTo k := by
  rcases kind_cases k with rfl | rfl | rfl | rfl | rfl | rfl | rfl | rfl | rfl | rfl | h
  case inr.inr.inr.inr.inr.inr.inr.inr.inr.inr =>
    have e : usesS k = ⟨#[]⟩ := by unfold usesS; rw [if_neg (by omega), if_neg (by omega), if_neg (by omega), if_neg (by omega)]
    rw [e, show usesTo k = false from decide_eq_false (by omega)]; rfl
  all_goals decide
theorem uses_v (k : Int) : decide (118 ∈ tb (usesS k)) = usesVal k := by
  rcases kind_cases k with rfl | rfl | rfl | rfl | rfl | rfl | rfl | rfl | rfl | rfl | h
  case inr.inr.inr.inr.inr.inr.inr.inr.inr.inr =>
    have e : usesS k = ⟨#[]⟩ := by unfold usesS; rw [if_neg (by omega), if_neg (by omega), if_neg (by omega), if_neg (by omega)]
    rw [e, show usesVal k = false from decide_eq_false (by omega)]; rfl
  all_goals decide
theorem uses_l (k : Int) : decide (108 ∈ tb (usesS k)) = usesTo k := by
  rcases kind_cases k with rfl | rfl | rfl | rfl | rfl | rfl | rfl | rfl | rfl | rfl | h
  case inr.inr.inr.inr.inr.inr.inr.inr.inr.inr =>
    have e : usesS k = ⟨#[]⟩ := by unfold usesS; rw [if_neg (by omega), if_neg (by omega), if_neg (by omega), if_neg (by omega)]
    rw [e, show usesTo k = false from decide_eq_false (by omega)]; rfl
  all_goals decide
theorem uses_none (k : Int) : (usesS k).toList.isEmpty = !isKind k := by
  rw [ByteArray.toList_eq]
  rcases kind_cases k with rfl | rfl | rfl | rfl | rfl | rfl | rfl | rfl | rfl | rfl | h
  case inr.inr.inr.inr.inr.inr.inr.inr.inr.inr =>
    have e : usesS k = ⟨#[]⟩ := by unfold usesS; rw [if_neg (by omega), if_neg (by omega), if_neg (by omega), if_neg (by omega)]
    rw [e, show isKind k = false from decide_eq_false (by omega)]; rfl
  all_goals decide

theorem refkey_any (k : ByteArray) (w : World) (hk : k.size ≤ maxLen) : Calls Try.prog 98 #[.string k] w (Ret (.bool (goodK k)) w) := by
  unfold maxLen at hk
  by_cases h1 : 1 ≤ k.size
  · by_cases h2 : k.size ≤ 64
    · have e : goodK k = true := decide_eq_true ⟨h1, h2⟩
      rw [e]
      have t1 : (1 : Int) ≤ (k.size : Int) := by omega
      have t2 : (k.size : Int) ≤ 64 := by omega
      go_enter Try.func98, Try.ntmps98
      go_wp2_with fail
      go_ret
      exact ⟨rfl, Below.refl _ _⟩
    · have e : goodK k = false := decide_eq_false (by omega)
      rw [e]
      have t1 : (1 : Int) ≤ (k.size : Int) := by omega
      have t2 : ¬ (k.size : Int) ≤ 64 := by omega
      go_enter Try.func98, Try.ntmps98
      go_wp2_with fail
      go_ret
      exact ⟨rfl, Below.refl _ _⟩
  · have e : goodK k = false := decide_eq_false (by omega)
    rw [e]
    have t1 : ¬ (1 : Int) ≤ (k.size : Int) := by omega
    go_enter Try.func98, Try.ntmps98
    go_wp2_with fail
    go_ret
    exact ⟨rfl, Below.refl _ _⟩

end Go.Proofs.Ytggjlnjpokdfpaa
