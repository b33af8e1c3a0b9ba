/- Contracts of package key, and of the reference's, over one translation. -/
import Derived.Test.YthbafbgnclpbpaaProg
import Derived.Test.YthbafbgnclpbpaaPlKey
import Derived.Test.YthbafbgnclpbpaaWords
namespace Go.Proofs.Ythbafbgnclpbpaa
open Go.RowKit

/-- The first bytes of two texts are alike. -/
def Alike (a b : ByteArray) (k : Nat) : Prop := ∀ j (h1 : j < a.size) (h2 : j < b.size), j < k → a[j] = b[j]

theorem Alike.zero (a b : ByteArray) : Alike a b 0 := fun _ _ _ h => absurd h (Nat.not_lt_zero _)
theorem Alike.succ {a b : ByteArray} {k : Nat} (h : Alike a b k) (h1 : k < a.size) (h2 : k < b.size) (he : a[k] = b[k]) : Alike a b (k + 1) := by
  intro j j1 j2 hj
  rcases Nat.lt_succ_iff_lt_or_eq.1 hj with hlt | rfl
  · exact h j j1 j2 hlt
  · exact he
theorem Alike.shr {a b : ByteArray} {k : Nat} (h : Alike a b k) (h1 : k ≤ a.size) (h2 : k ≤ b.size) (he : k = a.size ∨ k = b.size ∨ ∃ (h1 : k < a.size) (h2 : k < b.size), a[k] ≠ b[k]) :
    Pl.shr a.data.toList b.data.toList = k :=
  Pl.shr_eq_of _ _ k h1 h2 (fun j j1 j2 hj => h j j1 j2 hj) he
theorem ne_of_bne {x y : UInt8} (h : ((x.toNat : Int) != (y.toNat : Int)) = true) : x ≠ y := by rintro rfl; simp at h
theorem eq_of_bne {x y : UInt8} (h : ((x.toNat : Int) != (y.toNat : Int)) = false) : x = y := by
  have h' : (x.toNat : Int) = y.toNat := by simpa using h
  exact UInt8.toNat_inj.1 (by omega)

set_option maxHeartbeats 400000 in
theorem shared_any (a b : ByteArray) (w : World) (ha : a.size ≤ maxLen) (hb : b.size ≤ maxLen) :
    Calls Try.prog 106 #[.string a, .string b] w (Ret (.int .i64 (Pl.shr a.data.toList b.data.toList)) w) := by
  unfold maxLen at ha hb
  rcases (show a.size ≤ b.size ∨ b.size < a.size from by omega) with hle | hle
  all_goals
    go_enter Try.func106, Try.ntmps106
    go_wp2
    go_loopw [5, 11] (fun _ i wr => ∃ k : Nat, k ≤ a.size ∧ k ≤ b.size ∧ i = .int .i64 k ∧ Alike a b k ∧ Below w.heap.size w wr) (fun _ i _ => a.size - (intOf i).toNat)
    case atStart => exact ⟨0, Nat.zero_le _, Nat.zero_le _, rfl, Alike.zero _ _, Below.refl _ _⟩
    case round =>
      obtain ⟨k, hka, hkb, rfl, hpre, hbel⟩ := hrel
      by_cases hlt : k < a.size ∧ k < b.size
      · obtain ⟨h1, h2⟩ := hlt
        go_wp2
        go_quiet (fail)
        go_wp2
        · have hne : (((a[k]).toNat : Int) != ((b[k]).toNat : Int)) = true := by assumption
          go_ret
          exact ⟨ret_i64 (by rw [hpre.shr hka hkb (.inr (.inr ⟨h1, h2, ne_of_bne hne⟩))]), below_drewN hbel _⟩
        · have hne : (((a[k]).toNat : Int) != ((b[k]).toNat : Int)) = false := by assumption
          go_roundw
          case rel => exact ⟨k + 1, by omega, by omega, by go_num, hpre.succ h1 h2 (eq_of_bne hne), below_drewN hbel _⟩
          case measure => simp [intOf]; omega
      · go_wp2
        go_ret
        exact ⟨ret_i64 (by rw [hpre.shr hka hkb (by omega)]; omega), hbel⟩

theorem ls_of_shr (x y : ByteArray) : Pl.ls x.data.toList y.data.toList = true ↔ ∃ _ : Pl.shr x.data.toList y.data.toList < y.size, Pl.shr x.data.toList y.data.toList = x.size ∨
    ∃ (h1 : Pl.shr x.data.toList y.data.toList < x.size) (h2 : Pl.shr x.data.toList y.data.toList < y.size), x[Pl.shr x.data.toList y.data.toList] < y[Pl.shr x.data.toList y.data.toList] := by
  rw [Pl.ls_shr]
  exact Iff.rfl

set_option maxHeartbeats 400000 in
theorem less_any (x y : ByteArray) (n : Nat) (p : Addr) (w : World) (hx : x.size ≤ maxLen) (hy : y.size ≤ maxLen) (hc : w.cell? p = some (.int .i64 n)) (hn : n = Pl.shr x.data.toList y.data.toList) :
    Calls Try.prog 107 #[.string x, .string y, .pointer (some p)] w (Ret (.bool (Pl.ls x.data.toList y.data.toList)) w) := by
  unfold maxLen at hx hy
  have hls := ls_of_shr x y
  rw [← hn] at hls
  have hle := Pl.shr_le x.data.toList y.data.toList
  rw [← hn] at hle
  have hle1 : n ≤ x.size := hle.1
  have Hls := Lib.hid hls
  clear hls hn hle
  by_cases h1 : n < y.size
  · by_cases h2 : n = x.size
    · have hr : Pl.ls x.data.toList y.data.toList = true := Hls.out.2 ⟨h1, .inl h2⟩
      have Hr := Lib.hid hr
      have h3 : ((n : Int) == (x.size : Int)) = true := by simp; omega
      have h4 : decide ((n : Int) < (y.size : Int)) = true := by simp; omega
      clear h2 hr Hls
      go_enter Try.func107, Try.ntmps107
      go_wp2
      go_quiet (fail)
      go_wp2
      go_ret
      exact ⟨ret_bool (by rw [Hr.out]), below_drewN (Below.refl _ _) _⟩
    · have h5 : n < x.size := by omega
      have h3 : ((n : Int) == (x.size : Int)) = false := by simp; omega
      have h4 : decide ((n : Int) < (y.size : Int)) = true := by simp; omega
      clear h2
      by_cases hb : x[n] < y[n]
      · have hr : Pl.ls x.data.toList y.data.toList = true := Hls.out.2 ⟨h1, .inr ⟨h5, h1, hb⟩⟩
        have Hr := Lib.hid hr
        have hb' : decide ((x[n]).toNat < (y[n]).toNat) = true := by have := UInt8.lt_iff_toNat_lt.1 hb; simp; omega
        clear hr Hls hb
        go_enter Try.func107, Try.ntmps107
        go_wp2
        go_quiet (fail)
        go_wp2
        go_ret
        exact ⟨ret_bool (by rw [Hr.out]), below_drewN (Below.refl _ _) _⟩
      · have hr : Pl.ls x.data.toList y.data.toList = false := by
          rw [Bool.eq_false_iff]
          intro hh
          obtain ⟨_, h | ⟨_, _, h⟩⟩ := Hls.out.1 hh
          · omega
          · exact hb h
        have Hr := Lib.hid hr
        have hb' : decide ((x[n]).toNat < (y[n]).toNat) = false := decide_eq_false fun k => hb (UInt8.lt_iff_toNat_lt.2 k)
        clear hr Hls hb
        go_enter Try.func107, Try.ntmps107
        go_wp2
        go_quiet (fail)
        go_wp2
        go_ret
        exact ⟨ret_bool (by rw [Hr.out]), below_drewN (Below.refl _ _) _⟩
  · have hr : Pl.ls x.data.toList y.data.toList = false := by
      rw [Bool.eq_false_iff]
      intro hh
      obtain ⟨h, _⟩ := Hls.out.1 hh
      exact h1 h
    have Hr := Lib.hid hr
    have h4 : decide ((n : Int) < (y.size : Int)) = false := by simp; omega
    clear hr Hls
    go_enter Try.func107, Try.ntmps107
    go_wp2
    go_quiet (fail)
    go_wp2
    go_ret
    exact ⟨ret_bool (by rw [Hr.out]), below_drewN (Below.refl _ _) _⟩


set_option maxHeartbeats 400000 in
theorem compare_any (a b : ByteArray) (w : World) (ha : a.size ≤ maxLen) (hb : b.size ≤ maxLen) :
    Calls Try.prog 84 #[.string a, .string b] w (Ret (.int .i64 (Pl.cmp a.data.toList b.data.toList)) w) := by
  go_enter Try.func84, Try.ntmps84
  go_wp2_with fail
  refine (shared_any a b _ ha hb).mono ?_
  rintro e w1 ⟨rfl, hb1⟩
  have hs := Pl.shr_comm a.data.toList b.data.toList
  have Hs := Lib.hid hs
  clear hs
  go_wp2_with fail
  have hc1 := new_cell w1 #[.int .i64 (Pl.shr a.data.toList b.data.toList)] 3 0 _ rfl
  refine (less_any a b _ _ _ ha hb hc1 rfl).mono ?_
  rintro e w2 ⟨rfl, hb2⟩
  have hc2 := (hb2.cell (p := ⟨w1.heap.size, 0, none⟩) (by simp)).trans hc1
  have hb12 := below_of hb1 (below_of (below_alloc _ _) hb2)
  clear hc1
  go_wp2_with fail
  · go_ret
    refine ⟨ret_i64 ?_, hb12⟩
    have h : Pl.ls a.data.toList b.data.toList = true := by assumption
    simp [Pl.cmp, h]
  · refine (less_any b a _ _ _ hb ha hc2 Hs.out).mono ?_
    rintro e w3 ⟨rfl, hb3⟩
    go_wp2_with fail
    all_goals
      have h : Pl.ls a.data.toList b.data.toList = false := by assumption
      go_ret
      refine ⟨ret_i64 ?_, below_of hb12 hb3⟩
      simp [Pl.cmp, *]
end Go.Proofs.Ythbafbgnclpbpaa
