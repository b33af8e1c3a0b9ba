/- Contracts of package key, and of the reference's, over one translation: part two. -/
import Derived.Test.YthbafbgnclpbpaaKey
namespace Go.Proofs.Ythbafbgnclpbpaa
open Go.RowKit

theorem ret_same {v v' : Value} {w w' : World} (h : v = v') (hb : Below w.heap.size w w') : Ret v' w (.returned v) w' := ⟨by rw [h], hb⟩

set_option maxHeartbeats 400000 in
theorem refless_any (a b : ByteArray) (w : World) (ha : a.size ≤ maxLen) (hb : b.size ≤ maxLen) :
    Calls Try.prog 88 #[.string a, .string b] w (Ret (.bool (Pl.ls a.data.toList b.data.toList)) w) := by
  unfold maxLen at ha hb
  go_enter Try.func88, Try.ntmps88
  go_wp2
  go_loopw [5] (fun i wr => ∃ k : Nat, k ≤ a.size ∧ k ≤ b.size ∧ i = .int .i64 k ∧ Alike a b k ∧ Below w.heap.size w wr) (fun i _ => a.size - (intOf i).toNat)
  case atStart => exact ⟨0, Nat.zero_le _, Nat.zero_le _, rfl, Alike.zero _ _, Below.refl _ _⟩
  case round =>
    obtain ⟨k, hka, hkb, rfl, hpre, hbel⟩ := hrel
    by_cases hlt : k < a.size ∧ k < b.size
    · obtain ⟨h1, h2⟩ := hlt
      by_cases he : a[k] = b[k]
      · have h3 : (((a[k]).toNat : Int) == ((b[k]).toNat : Int)) = true := by simp [he]
        have hs := hpre.succ h1 h2 he
        clear he
        go_wp2
        go_quiet (fail)
        go_wp2
        go_roundw
        case rel => exact ⟨k + 1, by omega, by omega, by go_num, hs, below_drewN hbel _⟩
        case measure => simp [intOf]; omega
      · have hs := hpre.shr hka hkb (.inr (.inr ⟨h1, h2, he⟩))
        have hl := ls_of_shr a b
        rw [hs] at hl
        have h3 : (((a[k]).toNat : Int) == ((b[k]).toNat : Int)) = false := by
          rw [beq_eq_false_iff_ne]; intro hh; exact he (UInt8.toNat_inj.1 (by omega))
        have h4 : ((k : Int) == (a.size : Int)) = false := by simp; omega
        have h5 : ((k : Int) == (b.size : Int)) = false := by simp; omega
        have Hl := Lib.hid hl
        clear he hs hl
        by_cases hb' : a[k] < b[k]
        · have hr : Pl.ls a.data.toList b.data.toList = true := Hl.out.2 ⟨h2, .inr ⟨h1, h2, hb'⟩⟩
          have Hr := Lib.hid hr
          have h6 : decide ((a[k]).toNat < (b[k]).toNat) = true := decide_eq_true (UInt8.lt_iff_toNat_lt.1 hb')
          clear hr Hl hb'
          go_wp2
          go_quiet (fail)
          go_wp2
          go_quiet (fail)
          go_wp2
          go_ret
          exact ⟨ret_bool (by rw [Hr.out]), below_drewN (below_drewN hbel _) _⟩
        · have hr : Pl.ls a.data.toList b.data.toList = false := by
            rw [Bool.eq_false_iff]
            intro hh
            obtain ⟨_, h | ⟨_, _, h⟩⟩ := Hl.out.1 hh
            · omega
            · exact hb' h
          have Hr := Lib.hid hr
          have h6 : decide ((a[k]).toNat < (b[k]).toNat) = false := decide_eq_false fun k => hb' (UInt8.lt_iff_toNat_lt.2 k)
          clear hr Hl hb'
          go_wp2
          go_quiet (fail)
          go_wp2
          go_quiet (fail)
          go_wp2
          go_ret
          exact ⟨ret_bool (by rw [Hr.out]), below_drewN (below_drewN hbel _) _⟩
    · have hs := hpre.shr hka hkb (by omega)
      have hl := ls_of_shr a b
      rw [hs] at hl
      have Hl := Lib.hid hl
      clear hs hl
      by_cases hkb' : k < b.size
      · have hka' : ¬ k < a.size := fun h => hlt ⟨h, hkb'⟩
        have h4 : ((k : Int) == (a.size : Int)) = true := by simp; omega
        have h5 : ((k : Int) == (b.size : Int)) = false := by simp; omega
        have hd : decide ((k : Int) < (a.size : Int)) = false := by simp; omega
        have hr : Pl.ls a.data.toList b.data.toList = true := Hl.out.2 ⟨hkb', .inl (by omega)⟩
        have Hr := Lib.hid hr
        clear hr Hl hlt
        go_wp2
        go_quiet (fail)
        go_wp2
        go_quiet (fail)
        go_wp2
        go_ret
        exact ⟨ret_bool (by rw [Hr.out]), below_drewN (below_drewN hbel _) _⟩
      · have h5 : ((k : Int) == (b.size : Int)) = true := by simp; omega
        have hr : Pl.ls a.data.toList b.data.toList = false := by
          rw [Bool.eq_false_iff]
          intro hh
          obtain ⟨h, _⟩ := Hl.out.1 hh
          exact hkb' h
        have Hr := Lib.hid hr
        clear hr Hl hlt
        by_cases hka' : k < a.size
        · have hd : decide ((k : Int) < (a.size : Int)) = true := by simp; omega
          have hd2 : decide ((k : Int) < (b.size : Int)) = false := by simp; omega
          go_wp2
          go_quiet (fail)
          go_wp2
          go_ret
          exact ⟨ret_bool (by rw [Hr.out]), below_drewN hbel _⟩
        · have hd : decide ((k : Int) < (a.size : Int)) = false := by simp; omega
          go_wp2
          go_quiet (fail)
          go_wp2
          go_ret
          exact ⟨ret_bool (by rw [Hr.out]), below_drewN hbel _⟩

/-- What Check answers: no error, or that it is no key. -/
def chk (k : ByteArray) : Int := if k.size < 1 ∨ 64 < k.size then 2 else 0

theorem check_any (k : ByteArray) (w : World) (hk : k.size ≤ maxLen) : Calls Try.prog 83 #[.string k] w (Ret (.int .i64 (chk k)) w) := by
  unfold maxLen at hk
  go_enter Try.func83, Try.ntmps83
  go_wp2_with fail
  all_goals
    go_ret
    exact ⟨ret_i64 (by unfold chk; split <;> omega), Below.refl _ _⟩

theorem after_list (k : ByteArray) : (k ++ ⟨#[0]⟩ : ByteArray).data.toList = k.data.toList ++ [0] := by simp [ByteArray.data_append]
theorem after_size (k : ByteArray) : (k ++ ⟨#[0]⟩ : ByteArray).size = k.size + 1 := by rw [ByteArray.size_append]; rfl

theorem pre_list (b : ByteArray) (n : Nat) : (b.extract 0 n).data.toList = b.data.toList.take n := by simp
theorem pre_size (b : ByteArray) (n : Nat) (h : n ≤ b.size) : (b.extract 0 n).size = n := by simp; omega

end Go.Proofs.Ythbafbgnclpbpaa
