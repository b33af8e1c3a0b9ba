/- The law KeyCompares returns true at every two texts. No condition. -/
import Derived.Test.YtggjlnjpokdfpaaKeyLaw
namespace Go.Proofs.Ytggjlnjpokdfpaa
open Go.RowKit

theorem pre_eq (a b : ByteArray) : a.extract 0 (Pl.shr a.data.toList b.data.toList) = b.extract 0 (Pl.shr a.data.toList b.data.toList) := by
  have h := Pl.shr_take a.data.toList b.data.toList
  rw [← pre_list, ← pre_list] at h
  exact ByteArray.ext (Array.toList_inj.1 h)
/-- What the whole test of Check comes to. -/
def CkOk (k : ByteArray) : Prop := (k.size < 1 ∧ chk k = 2) ∨ (1 ≤ k.size ∧ k.size ≤ 64 ∧ chk k = 0) ∨ (64 < k.size ∧ chk k = 2)
theorem ck_ok (k : ByteArray) : CkOk k := by
  unfold CkOk chk
  rcases (show k.size < 1 ∨ (1 ≤ k.size ∧ k.size ≤ 64) ∨ 64 < k.size from by omega) with h | h | h
  · exact .inl ⟨h, if_pos (.inl h)⟩
  · exact .inr (.inl ⟨h.1, h.2, if_neg (by omega)⟩)
  · exact .inr (.inr ⟨h, if_pos (.inr h)⟩)

set_option maxRecDepth 100000 in
set_option maxHeartbeats 1000000 in
theorem keycompares_walk (a b : ByteArray) (w : World) (ha : a.size ≤ maxLen) (hb : b.size ≤ maxLen) :
    Calls Try.prog 3 #[.string a, .string b] w (Ret (.bool true) w) := by
  have hm : ∀ (j : Nat) (hj : j < [a, b].length), [a, b][j].size ≤ maxLen := fun j hj => match j, hj with
    | 0, _ => ha
    | 1, _ => hb
  by_cases hsh : short 300 [a, b] = true
  · have hs := Lib.hid hsh
    clear hsh
    have hle := Pl.shr_le a.data.toList b.data.toList
    obtain ⟨hle1, hle2⟩ := hle
    have hle1' : Pl.shr a.data.toList b.data.toList ≤ a.size := hle1
    have hle2' : Pl.shr a.data.toList b.data.toList ≤ b.size := hle2
    have hne : ∀ (h1 : Pl.shr a.data.toList b.data.toList < a.size) (h2 : Pl.shr a.data.toList b.data.toList < b.size), a[Pl.shr a.data.toList b.data.toList] ≠ b[Pl.shr a.data.toList b.data.toList] :=
      fun h1 h2 => Pl.shr_ne a.data.toList b.data.toList h1 h2
    have hpe := pre_eq a b
    have Hne := Lib.hid hne
    have Hpe := Lib.hid hpe
    clear hle1 hle2 hne hpe
    unfold maxLen at ha hb
    go_enter Try.func3, Try.ntmps3
    go_wp2_with fail
    refine (light3_any _ _ _ [a, b] _ (RdS.new w [a, b] 9) (show 2 ≤ 9223372036854775800 by decide) hm).mono ?_
    rintro e w1 ⟨rfl, hb1⟩
    rw [hs.out]
    go_wp2_with fail
    refine (shared_any a b _ ha hb).mono ?_
    rintro e w2 ⟨rfl, hb2⟩
    have hb12 := below_of (below_of (below_alloc _ _) hb1) hb2
    clear hb1 hb2
    go_upto_region 4 with fail
    generalize Pl.shr a.data.toList b.data.toList = N at hle1' hle2' Hne Hpe ⊢
    go_cut [58] (fun s58 wx => s58 = .bool false ∧ Below w.heap.size w wx)
    case first =>
      have t1 : decide ((N : Int) < 0) = false := by simp
      have t2 : decide ((a.size : Int) < (N : Int)) = false := by simp; omega
      have t2' : decide (a.size < N) = false := by simp; omega
      have t3 : decide ((b.size : Int) < (N : Int)) = false := by simp; omega
      have t3' : decide (b.size < N) = false := by simp; omega
      have t4 : ((a.extract 0 N).toList == (b.extract 0 N).toList) = true := by rw [Hpe.out]; simp
      rcases (show (N < a.size ∧ N < b.size) ∨ (N < a.size ∧ ¬ N < b.size) ∨ ¬ N < a.size from by omega) with ⟨h1, h2⟩ | ⟨h1, h2⟩ | h1
      · have t5 : decide ((N : Int) < (a.size : Int)) = true := by simp; omega
        have t5' : decide (N < a.size) = true := by simp; omega
        have t6 : decide ((N : Int) < (b.size : Int)) = true := by simp; omega
        have t6' : decide (N < b.size) = true := by simp; omega
        have t7 : (((a[N]).toNat : Int) == ((b[N]).toNat : Int)) = false := by
          rw [beq_eq_false_iff_ne]; intro hh; exact Hne.out h1 h2 (UInt8.toNat_inj.1 (by omega))
        go_quiet (fail)
        go_wp2_with fail
        go_meet
        exact ⟨rfl, below_drewN hb12 _⟩
      · have t5 : decide ((N : Int) < (a.size : Int)) = true := by simp; omega
        have t5' : decide (N < a.size) = true := by simp; omega
        have t6 : decide ((N : Int) < (b.size : Int)) = false := by simp; omega
        have t6' : decide (N < b.size) = false := by simp; omega
        go_quiet (fail)
        go_wp2_with fail
        go_meet
        exact ⟨rfl, below_drewN hb12 _⟩
      · have t5 : decide ((N : Int) < (a.size : Int)) = false := by simp; omega
        have t5' : decide (N < a.size) = false := by simp; omega
        go_quiet (fail)
        go_wp2_with fail
        go_meet
        exact ⟨rfl, below_drewN hb12 _⟩
    case rest =>
      obtain ⟨rfl, hbc⟩ := hcut
      clear hle1' hle2' Hne Hpe hb12
      go_wp2_with fail
      refine (compare_any a b _ ha hb).mono ?_
      rintro e w3 ⟨rfl, hb3⟩
      go_wp2_with fail
      refine (refcompare_any a b _ ha hb).mono ?_
      rintro e w4 ⟨rfl, hb4⟩
      have hb34 := below_of (below_of hbc hb3) hb4
      clear hb3 hb4 hbc
      have hck := check_any a
      obtain ⟨t, t0, hcases⟩ : ∃ t, ((a.size : Int) == 0) = t ∧ ((a.size < 1 ∧ chk a = 2 ∧ t = true) ∨ (1 ≤ a.size ∧ a.size ≤ 64 ∧ chk a = 0 ∧ t = false) ∨ (64 < a.size ∧ chk a = 2 ∧ t = false)) := by
        refine ⟨_, rfl, ?_⟩
        rcases ck_ok a with ⟨k1, k2⟩ | ⟨k1, k1', k2⟩ | ⟨k1, k2⟩
        · exact .inl ⟨k1, k2, beq_iff_eq.2 (by omega)⟩
        · exact .inr (.inl ⟨k1, k1', k2, beq_eq_false_iff_ne.2 (by omega)⟩)
        · exact .inr (.inr ⟨k1, k2, beq_eq_false_iff_ne.2 (by omega)⟩)
      rcases hcases with ⟨k1, k2, rfl⟩ | ⟨k1, k1', k2, rfl⟩ | ⟨k1, k2, rfl⟩
      all_goals
        rw [k2] at hck
        clear k2
        have Hck := Lib.hid hck
        clear hck
        go_wp2_with fail
        refine (Hck.out _ ha).mono ?_
        rintro e w5 ⟨rfl, hb5⟩
        go_wp2_with fail
        refine (Hck.out _ ha).mono ?_
        rintro e w6 ⟨rfl, hb6⟩
        go_wp2_with fail
        refine (lives3_any _).mono ?_
        rintro e w7 ⟨rfl, hb7⟩
        go_wp2_with fail
        go_ret
        refine ⟨ret_bool ?_, below_of (below_of (below_of hb34 hb5) hb6) hb7⟩
        first | rfl | (simp; omega)
  · have hs := Lib.hid (Bool.eq_false_iff.2 hsh)
    clear hsh
    go_enter Try.func3, Try.ntmps3
    go_wp2_with fail
    refine (light3_any _ _ _ [a, b] _ (RdS.new w [a, b] 9) (show 2 ≤ 9223372036854775800 by decide) hm).mono ?_
    rintro e w1 ⟨rfl, hb1⟩
    rw [hs.out]
    go_wp2_with fail
    refine (lives3_any _).mono ?_
    rintro e w2 ⟨rfl, hb2⟩
    go_wp2_with fail
    go_ret
    exact ⟨rfl, below_of (below_of (below_alloc _ _) hb1) hb2⟩
end Go.Proofs.Ytggjlnjpokdfpaa
