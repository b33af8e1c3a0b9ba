/- Package key: the laws' helpers. -/
import Derived.Test.YtggjlnjpokdfpaaKey2
namespace Go.Proofs.Ytggjlnjpokdfpaa
open Go.RowKit

/-- Are all texts short? -/
def short (m : Nat) (ss : List ByteArray) : Bool := ss.all fun s => decide (s.size ≤ m)
theorem short_yes {m : Nat} {ss : List ByteArray} (h : ∀ (j : Nat) (hj : j < ss.length), ss[j].size ≤ m) : short m ss = true := by
  unfold short
  rw [List.all_eq_true]
  intro s hs
  obtain ⟨j, hj, rfl⟩ := List.getElem_of_mem hs
  exact decide_eq_true (h j hj)
theorem short_no {m : Nat} {ss : List ByteArray} {j : Nat} (hj : j < ss.length) (h : m < ss[j].size) : short m ss = false := by
  rw [Bool.eq_false_iff]
  intro hs
  unfold short at hs
  rw [List.all_eq_true] at hs
  have := of_decide_eq_true (hs _ (List.getElem_mem hj))
  omega

set_option maxHeartbeats 400000 in
theorem light3_any (A : Option Addr) (n c : Nat) (ss : List ByteArray) (w : World) (h : RdS w A n ss) (hn : n ≤ 9223372036854775800) (hm : ∀ (j : Nat) (hj : j < ss.length), ss[j].size ≤ maxLen) :
    Calls Try.prog 14 #[.slice A n c] w (Ret (.bool (short 300 ss)) w) := by
  have hl := Lib.hid h.len
  go_enter Try.func14, Try.ntmps14
  go_wp2
  go_loopw [4, 7] (fun _ i wr => ∃ k : Nat, k ≤ n ∧ i = .int .i64 k ∧ Hid (∀ (j : Nat) (hj : j < ss.length), j < k → ss[j].size ≤ 300) ∧ Below w.heap.size w wr) (fun _ i _ => n - (intOf i).toNat)
  case atStart => exact ⟨0, Nat.zero_le _, rfl, fun j _ hj => absurd hj (Nat.not_lt_zero _), Below.refl _ _⟩
  case round =>
    obtain ⟨k, hk, rfl, hpre, hbel⟩ := hrel
    by_cases hlt : k < n
    · have hkl : k < ss.length := by rw [hl.out]; exact hlt
      obtain ⟨b, off, rfl, hbB, hc⟩ := (h.up hbel).spot (by omega)
      have hck := hc k hkl
      have hmk := hm k hkl
      unfold maxLen at hmk
      clear hc
      go_wp2
      · have h3 : 300 < ss[k].size := by have : (300 : Int) < (ss[k].size : Int) := by assumption
                                         omega
        go_ret
        exact ⟨ret_bool (short_no hkl h3).symm, hbel⟩
      · have h3 : (ss[k].size : Int) ≤ 300 := by assumption
        go_roundw
        case rel =>
          refine ⟨k + 1, by omega, by go_num, fun j hj hjk => ?_, hbel⟩
          rcases Nat.lt_succ_iff_lt_or_eq.1 hjk with g | rfl
          · exact hpre.out j hj g
          · omega
        case measure => simp [intOf]; omega
    · go_wp2
      go_ret
      exact ⟨ret_bool (short_yes fun j hj => hpre.out j hj (by rw [hl.out] at hj; omega)).symm, hbel⟩

theorem Ret.to {P : Program} {f : FuncId} {args : Array Value} {w : World} {v v' : Value} (h : Calls P f args w (Ret v w)) (e : v = v') : Calls P f args w (Ret v' w) := e ▸ h

theorem parting_c1 (w : World) : Calls Try.prog 20 #[.string ⟨#[97, 98, 99]⟩, .string ⟨#[97, 98, 120, 121]⟩] w (Ret (.tuple #[.string ⟨#[97, 98, 120]⟩, .bool true]) w) :=
  Ret.to (parting_yes _ _ w (by decide) (by decide) (by decide)) (by kernel_rfl)
theorem parting_c2 (w : World) : Calls Try.prog 20 #[.string ⟨#[97]⟩, .string ⟨#[97, 98]⟩] w (Ret (.tuple #[.string ⟨#[97, 98]⟩, .bool true]) w) :=
  Ret.to (parting_yes _ _ w (by decide) (by decide) (by decide)) (by kernel_rfl)
theorem after_c (w : World) : Calls Try.prog 26 #[.string ⟨#[97]⟩] w (Ret (.string ⟨#[97, 0]⟩) w) :=
  Ret.to (after_any _ w (by decide)) (by kernel_rfl)
theorem check_c (w : World) : Calls Try.prog 19 #[.string ⟨#[97]⟩] w (Ret (.int .i64 0) w) :=
  Ret.to (check_any _ w (by decide)) (by kernel_rfl)
theorem inside_c (w : World) : Calls Try.prog 22 #[.string ⟨#[97]⟩, .string ⟨#[99]⟩, .bool false, .string ⟨#[98]⟩] w (Ret (.bool true) w) :=
  Ret.to (inside_any _ _ _ _ w (by decide) (by decide) (by decide)) (by kernel_rfl)

set_option maxHeartbeats 400000 in
theorem lives3_any (w : World) : Calls Try.prog 15 #[] w (Ret (.bool true) w) := by
  go_enter Try.func15, Try.ntmps15
  go_wp2_with fail
  refine (parting_c1 _).mono ?_
  rintro e w1 ⟨rfl, hb1⟩
  go_wp2_with fail
  refine (parting_c2 _).mono ?_
  rintro e w2 ⟨rfl, hb2⟩
  go_wp2_with fail
  refine (after_c _).mono ?_
  rintro e w3 ⟨rfl, hb3⟩
  go_wp2_with fail
  refine (check_c _).mono ?_
  rintro e w4 ⟨rfl, hb4⟩
  go_wp2_with fail
  refine (inside_c _).mono ?_
  rintro e w5 ⟨rfl, hb5⟩
  go_wp2_with fail
  go_ret
  exact ⟨rfl, below_of (below_of (below_of (below_of hb1 hb2) hb3) hb4) hb5⟩
end Go.Proofs.Ytggjlnjpokdfpaa
