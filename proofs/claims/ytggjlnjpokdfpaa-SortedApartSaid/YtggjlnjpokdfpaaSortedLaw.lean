/- The laws of layer 4: helpers; the law SortedStays returns true at every input. No condition. -/
import Derived.Test.YtggjlnjpokdfpaaRef04
namespace Go.Proofs.Ytggjlnjpokdfpaa
open Go.RowKit

theorem Ret.to {P : Program} {f : FuncId} {args : Array Value} {w : World} {v v' : Value} (h : Calls P f args w (Ret v w)) (e : v = v') : Calls P f args w (Ret v' w) := e ▸ h

/-- Is a row short? -/
def lightB (ss : List ByteArray) (k : ByteArray) : Bool := ss.all (fun s => decide (s.size ≤ 100)) && (decide (ss.length ≤ 100) && decide (k.size ≤ 100))
theorem lightB_spec {ss : List ByteArray} {k : ByteArray} (h : lightB ss k = true) : (∀ (j : Nat) (hj : j < ss.length), ss[j].size ≤ 100) ∧ ss.length ≤ 100 ∧ k.size ≤ 100 := by
  unfold lightB at h
  rw [Bool.and_eq_true, Bool.and_eq_true, List.all_eq_true, decide_eq_true_iff, decide_eq_true_iff] at h
  exact ⟨fun j hj => of_decide_eq_true (h.1 _ (List.getElem_mem hj)), h.2⟩

set_option maxHeartbeats 400000 in
theorem light4_any (A : Option Addr) (n c : Nat) (ss : List ByteArray) (k : ByteArray) (w : World) (h : RdS w A n ss) (hn : n ≤ 9223372036854775807) (hf : Fits ss) (hk : k.size ≤ maxLen) :
    Calls Try.prog 27 #[.slice A n c, .string k] w (Ret (.bool (lightB ss k)) w) := by
  have hl := Lib.hid h.len
  unfold maxLen at hk
  go_enter Try.func27, Try.ntmps27
  go_wp2_with fail
  go_loopw [6, 9] (fun _ i wr => ∃ k : Nat, k ≤ n ∧ i = .int .i64 k ∧ Hid (∀ (j : Nat) (hj : j < ss.length), j < k → ss[j].size ≤ 100) ∧ Below w.heap.size w wr) (fun _ i _ => n - (intOf i).toNat)
  case atStart => exact ⟨0, Nat.zero_le _, rfl, fun j _ hj => absurd hj (Nat.not_lt_zero _), Below.refl _ _⟩
  case round =>
    obtain ⟨j, hj, rfl, hpre, hbel⟩ := hrel
    by_cases hlt : j < n
    · have hjl : j < ss.length := by rw [hl.out]; exact hlt
      obtain ⟨b, off, rfl, hbB, hc⟩ := (h.up hbel).spot (by omega)
      have hcj := hc j hjl
      have hmj := hf j hjl
      unfold maxLen at hmj
      clear hc
      by_cases hs : ss[j].size ≤ 100
      · go_wp2_with fail
        go_roundw
        case rel =>
          refine ⟨j + 1, by omega, by go_num, fun q hq hqj => ?_, hbel⟩
          rcases Nat.lt_succ_iff_lt_or_eq.1 hqj with g | rfl
          · exact hpre.out q hq g
          · exact hs
        case measure => simp [intOf]; omega
      · go_wp2_with fail
        go_ret
        refine ⟨ret_bool ?_, hbel⟩
        symm
        rw [Bool.eq_false_iff]
        intro hh
        exact hs ((lightB_spec hh).1 j hjl)
    · have hall : (ss.all fun s => decide (s.size ≤ 100)) = true := by
        rw [List.all_eq_true]
        intro s hs
        obtain ⟨q, hq, rfl⟩ := List.getElem_of_mem hs
        exact decide_eq_true (hpre.out q hq (by rw [hl.out] at hq; omega))
      have Hall := Lib.hid hall
      clear hall
      by_cases h1 : n ≤ 100
      · go_wp2_with fail
        go_ret
        refine ⟨ret_bool ?_, hbel⟩
        unfold lightB
        rw [Hall.out, hl.out, decide_eq_true h1]
        simp
        omega
      · go_wp2_with fail
        go_ret
        refine ⟨ret_bool ?_, hbel⟩
        unfold lightB
        rw [Hall.out, hl.out, decide_eq_false h1]
        simp

def ac : List ByteArray := [⟨#[97]⟩, ⟨#[99]⟩]
theorem ac_fits : Fits ac := fun j hj => match j, hj with
  | 0, _ => (by decide : (⟨#[97]⟩ : ByteArray).size ≤ maxLen)
  | 1, _ => (by decide : (⟨#[99]⟩ : ByteArray).size ≤ maxLen)
theorem find_b (g : Nat) (w : World) (h : RdS w (some ⟨g, 0, none⟩) 2 ac) : Calls Try.prog 30 #[.slice (some ⟨g, 0, none⟩) 2 2, .string ⟨#[98]⟩] w (Ret (.tuple #[.int .i64 1, .bool false]) w) :=
  Ret.to (find_any _ 2 2 ac _ w h ac_fits (by decide) (by decide)) (by kernel_rfl)
theorem find_c (g : Nat) (w : World) (h : RdS w (some ⟨g, 0, none⟩) 2 ac) : Calls Try.prog 30 #[.slice (some ⟨g, 0, none⟩) 2 2, .string ⟨#[99]⟩] w (Ret (.tuple #[.int .i64 1, .bool true]) w) :=
  Ret.to (find_any _ 2 2 ac _ w h ac_fits (by decide) (by decide)) (by kernel_rfl)
theorem floor_b (g : Nat) (w : World) (h : RdS w (some ⟨g, 0, none⟩) 2 ac) : Calls Try.prog 65 #[.slice (some ⟨g, 0, none⟩) 2 2, .string ⟨#[98]⟩] w (Ret (.int .i64 0) w) :=
  Ret.to (floor_any _ 2 2 ac _ w h ac_fits (by decide) (by decide)) (by kernel_rfl)
theorem below_c (g : Nat) (w : World) (h : RdS w (some ⟨g, 0, none⟩) 2 ac) : Calls Try.prog 66 #[.slice (some ⟨g, 0, none⟩) 2 2, .string ⟨#[99]⟩] w (Ret (.int .i64 0) w) :=
  Ret.to (below_any _ 2 2 ac _ w h ac_fits (by decide) (by decide)) (by kernel_rfl)
theorem rising_ac (g : Nat) (w : World) (h : RdS w (some ⟨g, 0, none⟩) 2 ac) : Calls Try.prog 67 #[.slice (some ⟨g, 0, none⟩) 2 2] w (Ret (.bool true) w) :=
  Ret.to (rising_any _ 2 2 ac w h ac_fits (by decide)) (by kernel_rfl)

set_option maxHeartbeats 400000 in
theorem lives4_any (w : World) : Calls Try.prog 29 #[] w (Ret (.bool true) w) := by
  have HB := below_alloc w (.cells (strs ac).toArray 9)
  have hr : RdS (w.alloc (.cells (strs ac).toArray 9)) (some ⟨w.heap.size, 0, none⟩) 2 ac := RdS.new w ac 9
  go_enter Try.func29, Try.ntmps29
  go_wp2_with fail
  refine (find_b _ _ hr).mono ?_
  rintro e wn ⟨rfl, hbn⟩
  replace HB := below_of HB hbn
  replace hr := hr.up hbn
  clear hbn
  go_wp2_with fail
  refine (find_c _ _ hr).mono ?_
  rintro e wn ⟨rfl, hbn⟩
  replace HB := below_of HB hbn
  replace hr := hr.up hbn
  clear hbn
  go_wp2_with fail
  refine (floor_b _ _ hr).mono ?_
  rintro e wn ⟨rfl, hbn⟩
  replace HB := below_of HB hbn
  replace hr := hr.up hbn
  clear hbn
  go_wp2_with fail
  refine (below_c _ _ hr).mono ?_
  rintro e wn ⟨rfl, hbn⟩
  replace HB := below_of HB hbn
  replace hr := hr.up hbn
  clear hbn
  go_wp2_with fail
  refine (rising_ac _ _ hr).mono ?_
  rintro e wn ⟨rfl, hbn⟩
  replace HB := below_of HB hbn
  replace hr := hr.up hbn
  clear hbn
  go_wp2_with fail
  go_ret
  exact ⟨rfl, HB⟩
end Go.Proofs.Ytggjlnjpokdfpaa
