/- Contracts of package key, and of the reference's, over one translation: part two. -/
import Derived.Test.YtcoiadncennhpaaKey
namespace Go.Proofs.Ytcoiadncennhpaa
open Go.RowKit

theorem ret_same {v v' : Value} {w w' : World} (h : v = v') (hb : Below w.heap.size w w') : Ret v' w (.returned v) w' := ⟨by rw [h], hb⟩

set_option maxHeartbeats 400000 in
theorem refless_any (a b : ByteArray) (w : World) (ha : a.size ≤ maxLen) (hb : b.size ≤ maxLen) :
    Calls Try.prog 99 #[.string a, .string b] w (Ret (.bool (Pl.ls a.data.toList b.data.toList)) w) := by
  unfold maxLen at ha hb
  go_enter Try.func99, Try.ntmps99
  go_wp2
  go_loopw [5] (fun i wr => ∃ k : Nat, k ≤ a.size ∧ k ≤ b.size ∧ i = .int .i64 k ∧ Alike a b k ∧ Below w.heap.size w wr) (fun i _ => a.size - (intOf i).toNat)
  case atStart => exact ⟨0, Nat.zero_le _, Nat.zero_le _, rfl, Alike.zero _ _, Below.refl _ _⟩
  case round =>
    obtain ⟨k, hka, hkb, rfl, hpre, hbel⟩ := hrel
    by_cases hlt : k < a.size ∧ k < b.size
    · obtain ⟨h1, h2⟩ := hlt
      by_cases he : a[k] = b[k]
      · have h3 : (((a[k]).toNat : Int) == ((b[k]).toNat : Int)) = true := by simp [he]
        have hs := hpre.succ h1 h2 he
        clear he
        go_wp2
        go_quiet (fail)
        go_wp2
        go_roundw
        case rel => exact ⟨k + 1, by omega, by omega, by go_num, hs, below_drewN hbel _⟩
        case measure => simp [intOf]; omega
      · have hs := hpre.shr hka hkb (.inr (.inr ⟨h1, h2, he⟩))
        have hl := ls_of_shr a b
        rw [hs] at hl
        have h3 : (((a[k]).toNat : Int) == ((b[k]).toNat : Int)) = false := by
          rw [beq_eq_false_iff_ne]; intro hh; exact he (UInt8.toNat_inj.1 (by omega))
        have h4 : ((k : Int) == (a.size : Int)) = false := by simp; omega
        have h5 : ((k : Int) == (b.size : Int)) = false := by simp; omega
        have Hl := Lib.hid hl
        clear he hs hl
        by_cases hb' : a[k] < b[k]
        · have hr : Pl.ls a.data.toList b.data.toList = true := Hl.out.2 ⟨h2, .inr ⟨h1, h2, hb'⟩⟩
          have Hr := Lib.hid hr
          have h6 : decide ((a[k]).toNat < (b[k]).toNat) = true := decide_eq_true (UInt8.lt_iff_toNat_lt.1 hb')
          clear hr Hl hb'
          go_wp2
          go_quiet (fail)
          go_wp2
          go_quiet (fail)
          go_wp2
          go_ret
          exact ⟨ret_bool (by rw [Hr.out]), below_drewN (below_drewN hbel _) _⟩
        · have hr : Pl.ls a.data.toList b.data.toList = false := by
            rw [Bool.eq_false_iff]
            intro hh
            obtain ⟨_, h | ⟨_, _, h⟩⟩ := Hl.out.1 hh
            · omega
            · exact hb' h
          have Hr := Lib.hid hr
          have h6 : decide ((a[k]).toNat < (b[k]).toNat) = false := decide_eq_false fun k => hb' (UInt8.lt_iff_toNat_lt.2 k)
          clear hr Hl hb'
          go_wp2
          go_quiet (fail)
          go_wp2
          go_quiet (fail)
          go_wp2
          go_ret
          exact ⟨ret_bool (by rw [Hr.out]), below_drewN (below_drewN hbel _) _⟩
    · have hs := hpre.shr hka hkb (by omega)
      have hl := ls_of_shr a b
      rw [hs] at hl
      have Hl := Lib.hid hl
      clear hs hl
      by_cases hkb' : k < b.size
      · have hka' : ¬ k < a.size := fun h => hlt ⟨h, hkb'⟩
        have h4 : ((k : Int) == (a.size : Int)) = true := by simp; omega
        have h5 : ((k : Int) == (b.size : Int)) = false := by simp; omega
        have hd : decide ((k : Int) < (a.size : Int)) = false := by simp; omega
        have hr : Pl.ls a.data.toList b.data.toList = true := Hl.out.2 ⟨hkb', .inl (by omega)⟩
        have Hr := Lib.hid hr
        clear hr Hl hlt
        go_wp2
        go_quiet (fail)
        go_wp2
        go_quiet (fail)
        go_wp2
        go_ret
        exact ⟨ret_bool (by rw [Hr.out]), below_drewN (below_drewN hbel _) _⟩
      · have h5 : ((k : Int) == (b.size : Int)) = true := by simp; omega
        have hr : Pl.ls a.data.toList b.data.toList = false := by
          rw [Bool.eq_false_iff]
          intro hh
          obtain ⟨h, _⟩ := Hl.out.1 hh
          exact hkb' h
        have Hr := Lib.hid hr
        clear hr Hl hlt
        by_cases hka' : k < a.size
        · have hd : decide ((k : Int) < (a.size : Int)) = true := by simp; omega
          have hd2 : decide ((k : Int) < (b.size : Int)) = false := by simp; omega
          go_wp2
          go_quiet (fail)
          go_wp2
          go_ret
          exact ⟨ret_bool (by rw [Hr.out]), below_drewN hbel _⟩
        · have hd : decide ((k : Int) < (a.size : Int)) = false := by simp; omega
          go_wp2
          go_quiet (fail)
          go_wp2
          go_ret
          exact ⟨ret_bool (by rw [Hr.out]), below_drewN hbel _⟩

/-- What Check answers: no error, or that it is no key. -/
def chk (k : ByteArray) : Int := if k.size < 1 ∨ 64 < k.size then 2 else 0

theorem check_any (k : ByteArray) (w : World) (hk : k.size ≤ maxLen) : Calls Try.prog 84 #[.string k] w (Ret (.int .i64 (chk k)) w) := by
  unfold maxLen at hk
  go_enter Try.func84, Try.ntmps84
  go_wp2_with fail
  all_goals
    go_ret
    exact ⟨ret_i64 (by unfold chk; split <;> omega), Below.refl _ _⟩

theorem inside_any (low high : ByteArray) (last : Bool) (k : ByteArray) (w : World) (hl : low.size ≤ maxLen) (hh : high.size ≤ maxLen) (hk : k.size ≤ maxLen) :
    Calls Try.prog 81 #[.string low, .string high, .bool last, .string k] w (Ret (.bool (!Pl.ls k.data.toList low.data.toList && (last || Pl.ls k.data.toList high.data.toList))) w) := by
  by_cases h1 : Pl.ls k.data.toList low.data.toList = true
  · have h2 : ¬ Pl.cmp low.data.toList k.data.toList ≤ 0 := by rw [Pl.cmp_le, h1]; simp
    go_enter Try.func81, Try.ntmps81
    go_wp2_with fail
    refine (compare_any low k _ hl hk).mono ?_
    rintro e w1 ⟨rfl, hb1⟩
    go_wp2_with fail
    go_ret
    exact ⟨ret_bool (by simp [h1]), hb1⟩
  · have h2 : Pl.cmp low.data.toList k.data.toList ≤ 0 := Pl.cmp_le.2 (Bool.eq_false_iff.2 h1)
    cases last
    · go_enter Try.func81, Try.ntmps81
      go_wp2_with fail
      refine (compare_any low k _ hl hk).mono ?_
      rintro e w1 ⟨rfl, hb1⟩
      go_wp2_with fail
      refine (compare_any k high _ hk hh).mono ?_
      rintro e w2 ⟨rfl, hb2⟩
      go_wp2_with fail
      go_ret
      exact ⟨ret_bool (by rw [Bool.eq_iff_iff]; simp [h1, Pl.cmp_lt]), below_of hb1 hb2⟩
    · go_enter Try.func81, Try.ntmps81
      go_wp2_with fail
      refine (compare_any low k _ hl hk).mono ?_
      rintro e w1 ⟨rfl, hb1⟩
      go_wp2_with fail
      go_ret
      exact ⟨ret_bool (by simp [h1]), hb1⟩

theorem beneath_any (low high : ByteArray) (last : Bool) (k : ByteArray) (w : World) (hl : low.size ≤ maxLen) (hh : high.size ≤ maxLen) (hk : k.size ≤ maxLen) :
    Calls Try.prog 82 #[.string low, .string high, .bool last, .string k] w (Ret (.bool (Pl.ls low.data.toList k.data.toList && (last || !Pl.ls high.data.toList k.data.toList))) w) := by
  by_cases h1 : Pl.ls low.data.toList k.data.toList = true
  · have h2 : Pl.cmp low.data.toList k.data.toList < 0 := Pl.cmp_lt.2 h1
    cases last
    · go_enter Try.func82, Try.ntmps82
      go_wp2_with fail
      refine (compare_any low k _ hl hk).mono ?_
      rintro e w1 ⟨rfl, hb1⟩
      go_wp2_with fail
      refine (compare_any k high _ hk hh).mono ?_
      rintro e w2 ⟨rfl, hb2⟩
      go_wp2_with fail
      go_ret
      exact ⟨ret_bool (by rw [Bool.eq_iff_iff]; simp [h1, Pl.cmp_le]), below_of hb1 hb2⟩
    · go_enter Try.func82, Try.ntmps82
      go_wp2_with fail
      refine (compare_any low k _ hl hk).mono ?_
      rintro e w1 ⟨rfl, hb1⟩
      go_wp2_with fail
      go_ret
      exact ⟨ret_bool (by simp [h1]), hb1⟩
  · have h2 : ¬ Pl.cmp low.data.toList k.data.toList < 0 := by rw [Pl.cmp_lt]; exact h1
    go_enter Try.func82, Try.ntmps82
    go_wp2_with fail
    refine (compare_any low k _ hl hk).mono ?_
    rintro e w1 ⟨rfl, hb1⟩
    go_wp2_with fail
    go_ret
    exact ⟨ret_bool (by simp [h1]), hb1⟩

theorem after_list (k : ByteArray) : (k ++ ⟨#[0]⟩ : ByteArray).data.toList = k.data.toList ++ [0] := by simp [ByteArray.data_append]
theorem after_size (k : ByteArray) : (k ++ ⟨#[0]⟩ : ByteArray).size = k.size + 1 := by rw [ByteArray.size_append]; rfl

theorem pre_list (b : ByteArray) (n : Nat) : (b.extract 0 n).data.toList = b.data.toList.take n := by simp
theorem pre_size (b : ByteArray) (n : Nat) (h : n ≤ b.size) : (b.extract 0 n).size = n := by simp; omega

set_option maxHeartbeats 400000 in
theorem parting_yes (a b : ByteArray) (w : World) (ha : a.size ≤ maxLen) (hb : b.size ≤ maxLen) (h : Pl.ls a.data.toList b.data.toList = true) :
    Calls Try.prog 131 #[.string a, .string b] w (Ret (.tuple #[.string (b.extract 0 (Pl.shr a.data.toList b.data.toList + 1)), .bool true]) w) := by
  have h1 : ¬ (0 : Int) ≤ Pl.cmp a.data.toList b.data.toList := by have := Pl.cmp_lt.2 h; omega
  have h2 : Pl.shr a.data.toList b.data.toList < b.size := Pl.shr_lt h
  have hb' : b.size ≤ 9223372036854775807 := hb
  go_enter Try.func131, Try.ntmps131
  go_wp2_with fail
  refine (compare_any a b _ ha hb).mono ?_
  rintro e w1 ⟨rfl, hb1⟩
  go_wp2_with fail
  refine (shared_any a b _ ha hb).mono ?_
  rintro e w2 ⟨rfl, hb2⟩
  go_wp2_with fail
  go_ret2
  exact ⟨rfl, below_of hb1 hb2⟩

theorem parting_no (a b : ByteArray) (w : World) (ha : a.size ≤ maxLen) (hb : b.size ≤ maxLen) (h : Pl.ls a.data.toList b.data.toList = false) :
    Calls Try.prog 131 #[.string a, .string b] w (Ret (.tuple #[.string ⟨#[]⟩, .bool false]) w) := by
  have h1 : (0 : Int) ≤ Pl.cmp a.data.toList b.data.toList := Pl.cmp_ge.2 h
  go_enter Try.func131, Try.ntmps131
  go_wp2_with fail
  refine (compare_any a b _ ha hb).mono ?_
  rintro e w1 ⟨rfl, hb1⟩
  go_wp2_with fail
  go_ret2
  exact ⟨rfl, hb1⟩

theorem refparting_no (a b : ByteArray) (w : World) (ha : a.size ≤ maxLen) (hb : b.size ≤ maxLen) (h : Pl.ls a.data.toList b.data.toList = false) :
    Calls Try.prog 133 #[.string a, .string b] w (Ret (.tuple #[.string ⟨#[]⟩, .bool false]) w) := by
  have hb' : b.size ≤ 9223372036854775807 := hb
  go_enter Try.func133, Try.ntmps133
  go_wp2_with fail
  refine wp_loop_rounds 1 ?_
  rw [rounds_succ]
  go_wp2_with fail
  refine (refless_any a b _ ha hb).mono ?_
  rintro e w1 ⟨rfl, hb1⟩
  rw [h]
  go_wp2_with fail
  go_ret2
  exact ⟨rfl, hb1⟩

set_option maxHeartbeats 400000 in
theorem refparting_yes (a b : ByteArray) (w : World) (ha : a.size ≤ maxLen) (hb : b.size ≤ maxLen) (h : Pl.ls a.data.toList b.data.toList = true) :
    Calls Try.prog 133 #[.string a, .string b] w (Ret (.tuple #[.string (b.extract 0 (Pl.shr a.data.toList b.data.toList + 1)), .bool true]) w) := by
  have h2 : Pl.shr a.data.toList b.data.toList < b.size := Pl.shr_lt h
  have hb' : b.size ≤ 9223372036854775807 := hb
  have Hp := fun n (hn : n ≤ b.size) => Lib.hid (pre_size b n hn)
  have Hm := Lib.hid (Pl.ls_take_more _ _ h)
  have H := Lib.hid h
  clear h
  go_enter Try.func133, Try.ntmps133
  go_wp2_with fail
  go_loopw [6] (fun i wr => ∃ n : Nat, n ≤ Pl.shr a.data.toList b.data.toList + 1 ∧ i = .int .i64 n ∧ Below w.heap.size w wr) (fun i _ => Pl.shr a.data.toList b.data.toList + 1 - (intOf i).toNat)
  case atStart => exact ⟨0, Nat.zero_le _, rfl, Below.refl _ _⟩
  case round =>
    obtain ⟨n, hn, rfl, hbel⟩ := hrel
    have hpl : (b.extract 0 n).size ≤ maxLen := by rw [(Hp n (by omega)).out]; unfold maxLen; omega
    go_wp2_with fail
    refine (refless_any a b _ ha hb).mono ?_
    rintro e w1 ⟨rfl, hb1⟩
    rw [H.out]
    go_wp2_with fail
    refine (refless_any a (b.extract 0 n) _ ha hpl).mono ?_
    rintro e w2 ⟨rfl, hb2⟩
    have hb12 := below_of (below_of hbel hb1) hb2
    clear hb1 hb2
    rw [pre_list]
    by_cases hlt : n ≤ Pl.shr a.data.toList b.data.toList
    · rw [Pl.ls_take_shr _ _ n hlt]
      go_wp2_with fail
      go_roundw
      case rel => exact ⟨n + 1, by omega, by go_num, hb12⟩
      case measure => simp [intOf]; omega
    · obtain rfl : n = Pl.shr a.data.toList b.data.toList + 1 := by omega
      rw [Hm.out]
      go_wp2_with fail
      go_ret2
      exact ⟨rfl, hb12⟩

theorem refinside_any (low high : ByteArray) (last : Bool) (k : ByteArray) (w : World) (hl : low.size ≤ maxLen) (hh : high.size ≤ maxLen) (hk : k.size ≤ maxLen) :
    Calls Try.prog 70 #[.string low, .string high, .bool last, .string k] w (Ret (.bool (!Pl.ls k.data.toList low.data.toList && (last || Pl.ls k.data.toList high.data.toList))) w) := by
  cases h1 : Pl.ls k.data.toList low.data.toList
  all_goals cases last
  all_goals
    have H1 := Lib.hid h1
    clear h1
    go_enter Try.func70, Try.ntmps70
    go_wp2_with fail
    refine (refless_any k low _ hk hl).mono ?_
    rintro e w1 ⟨rfl, hb1⟩
    rw [H1.out]
    go_wp2_with fail
    first
      | (go_ret; exact ⟨ret_bool (by simp), hb1⟩)
      | (refine (refless_any k high _ hk hh).mono ?_
         rintro e w2 ⟨rfl, hb2⟩
         go_wp2_with fail
         go_ret
         exact ⟨ret_bool (by simp), below_of hb1 hb2⟩)

end Go.Proofs.Ytcoiadncennhpaa
