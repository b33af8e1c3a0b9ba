/- Contracts of package sip: the eye, three. -/
import Derived.Test.YthbafbgnclpbpaaEye2
import Derived.Laws.DeepNot64
namespace Go.Proofs.Ythbafbgnclpbpaa
open Go.RowKit

theorem eyeDig_ok {l : List Nat} {f : Int} (h : (eyeDig l f).2.1 = true) : (eyeDig l f).2.2.2 = 0 := by
  unfold eyeDig at *
  split at h
  · rename_i hf
    subst hf
    rw [if_pos rfl] at *
    split at h <;> first | rfl | cases h
  · cases h
theorem eyeDig_sub (l : List Nat) (f : Int) : ∃ k, (eyeDig l f).2.2.1 = l.drop k := by
  unfold eyeDig
  split
  · split
    · exact ⟨_, rfl⟩
    · exact ⟨l.length, by simp⟩
    · exact ⟨l.length, by simp⟩
  · exact ⟨0, rfl⟩

/-- A number of at most top. -/
def eyeUp (top : Nat) (l : List Nat) (f : Int) : Nat × List Nat × Int :=
  if (eyeDig l f).2.1 = true then (if top < (eyeDig l f).1 then (0, [], 10) else ((eyeDig l f).1, (eyeDig l f).2.2.1, (eyeDig l f).2.2.2)) else (0, (eyeDig l f).2.2.1, (eyeDig l f).2.2.2)
theorem eyeUp_sub (top : Nat) (l : List Nat) (f : Int) : ∃ k, (eyeUp top l f).2.1 = l.drop k := by
  unfold eyeUp
  split
  · split
    · exact ⟨l.length, by simp⟩
    · exact eyeDig_sub l f
  · exact eyeDig_sub l f
theorem drop_lt {l m : List Nat} (hx : ∀ x ∈ l, x < 256) (h : ∃ k, m = l.drop k) : ∀ x ∈ m, x < 256 := by
  obtain ⟨k, rfl⟩ := h
  exact fun x hm => hx x (List.mem_of_mem_drop hm)
theorem drop_le {l m : List Nat} (h : ∃ k, m = l.drop k) : m.length ≤ l.length := by
  obtain ⟨k, rfl⟩ := h
  rw [List.length_drop]; omega

set_option maxRecDepth 100000 in
set_option maxHeartbeats 400000 in
theorem eyeup_any (ep : Nat) (sb : Option Nat) (l : List Nat) (f : Int) (top : Nat) (w : World) (h : EyeAt w ep sb l f) (hx : ∀ x ∈ l, x < 256) (hl : l.length ≤ 1000000) :
    Calls Try.prog 80 #[.pointer (some ⟨ep, 0, none⟩), .int .u64 (top : Int)] w (EyeTo (.int .u64 ((eyeUp top l f).1 : Int)) w ep sb (eyeUp top l f).2.1 (eyeUp top l f).2.2) := by
  have Hdig := Lib.hid (eyedigits_any ep sb l f w h hx hl)
  have hok := Lib.hid (eyeDig_ok (l := l) (f := f))
  have hup : eyeUp top l f = if (eyeDig l f).2.1 = true then (if top < (eyeDig l f).1 then (0, [], 10) else ((eyeDig l f).1, (eyeDig l f).2.2.1, (eyeDig l f).2.2.2)) else (0, (eyeDig l f).2.2.1, (eyeDig l f).2.2.2) := rfl
  have Hup := Lib.hid hup
  clear hup
  go_enter Try.func80, Try.ntmps80
  go_wp2_with fail
  refine Hdig.out.mono ?_
  rintro e w1 ⟨rfl, hE, hO⟩
  have HE := Lib.hid (And.intro hE hO)
  clear hE hO Hdig
  generalize eyeDig l f = r at HE hok Hup ⊢
  obtain ⟨n, ok, rest, g⟩ := r
  simp only [] at HE hok Hup ⊢
  cases ok
  · go_wp2_with fail
    go_ret
    rw [Hup.out, if_neg Bool.false_ne_true]
    exact ⟨rfl, HE.out⟩
  · have hg := hok.out rfl
    subst hg
    by_cases ht : top < n
    · have ht' : (top : Int) < (n : Int) := by omega
      go_wp2_with fail
      refine (eyewrong_any ep sb rest 0 10 _ HE.out.1).mono ?_
      rintro e w2 ⟨rfl, hE, hO⟩
      have HE2 := Lib.hid (And.intro hE (HE.out.2.trans hO (fun _ _ h => h)))
      clear hE hO
      go_wp2_with fail
      go_ret
      rw [Hup.out, if_pos True.intro, if_pos ht]
      exact ⟨rfl, HE2.out⟩
    · have ht' : ¬ (top : Int) < (n : Int) := by omega
      go_wp2_with fail
      go_ret
      rw [Hup.out, if_pos True.intro, if_neg ht]
      exact ⟨rfl, HE.out⟩

theorem eyenum_any (ep : Nat) (sb : Option Nat) (l : List Nat) (f : Int) (top : Nat) (w : World) (h : EyeAt w ep sb l f) (hx : ∀ x ∈ l, x < 256) (hl : l.length ≤ 1000000) :
    Calls Try.prog 30 #[.pointer (some ⟨ep, 0, none⟩), .int .u64 (top : Int)] w (EyeTo (.int .u64 ((eyeUp top l f).1 : Int)) w ep sb (eyeUp top l f).2.1 (eyeUp top l f).2.2) := by
  have Hup := Lib.hid (eyeup_any ep sb l f top w h hx hl)
  go_enter Try.func30, Try.ntmps30
  go_wp2_with fail
  refine Hup.out.mono ?_
  rintro e w1 ⟨rfl, hE⟩
  have HE := Lib.hid hE
  clear hE
  go_wp2_with fail
  go_ret
  exact ⟨rfl, HE.out⟩

/-- A number without a sign as one with. -/
def back (u : Nat) : Int := if u % 2 = 0 then (u / 2 : Nat) else -((u / 2 : Nat) : Int) - 1
theorem back_turn (z : Int) (h : -9223372036854775808 ≤ z ∧ z ≤ 9223372036854775807) : back (turn z) = z := by
  unfold back turn
  split <;> split <;> omega

theorem xor_zero_i64 (a : Nat) (ha : a < 9223372036854775808) : bits .xor .i64 (a : Int) 0 = (a : Int) := by
  show IntKind.i64.wrap ((BitVec.ofInt 64 (a : Int) ^^^ BitVec.ofInt 64 0).toNat : Int) = _
  rw [show BitVec.ofInt 64 0 = 0#64 from rfl, BitVec.xor_zero, BitVec.ofInt_natCast, BitVec.toNat_ofNat, Nat.mod_eq_of_lt (by omega)]
  exact IntWalk.i64_in _ (by omega)
theorem xor_ones_i64 (a : Nat) (ha : a < 9223372036854775808) : bits .xor .i64 (a : Int) (-1) = -1 - (a : Int) := by
  rw [← i64_not a ha]
  unfold bits
  simp only [BitVec.xor_comm]
theorem and_one_u64 (u : Nat) (h : u < 18446744073709551616) : bits .and .u64 (u : Int) 1 = ((u % 2 : Nat) : Int) := by
  rw [u64_and (u : Int) 1 (by omega) (by omega) (by omega) (by omega)]
  congr 1
  exact Nat.and_one_is_mod u
theorem eyeUp_lt {top : Nat} {l : List Nat} {f : Int} (h : top < 18446744073709551616) : (eyeUp top l f).1 < 18446744073709551616 := by
  unfold eyeUp
  split
  · split
    · exact Nat.zero_lt_succ _
    · simp only []; omega
  · exact Nat.zero_lt_succ _

set_option maxRecDepth 100000 in
set_option maxHeartbeats 400000 in
theorem eyeint_any (ep : Nat) (sb : Option Nat) (l : List Nat) (f : Int) (w : World) (h : EyeAt w ep sb l f) (hx : ∀ x ∈ l, x < 256) (hl : l.length ≤ 1000000) :
    Calls Try.prog 36 #[.pointer (some ⟨ep, 0, none⟩)] w (EyeTo (.int .i64 (back (eyeUp 18446744073709551615 l f).1)) w ep sb (eyeUp 18446744073709551615 l f).2.1 (eyeUp 18446744073709551615 l f).2.2) := by
  have Hup := Lib.hid (eyeup_any ep sb l f 18446744073709551615 w h hx hl)
  have hlt := eyeUp_lt (l := l) (f := f) (show 18446744073709551615 < 18446744073709551616 by omega)
  generalize eyeUp 18446744073709551615 l f = r at Hup hlt ⊢
  obtain ⟨u, rest, g⟩ := r
  simp only [] at Hup hlt ⊢
  have a1 := and_one_u64 u hlt
  have HU := Lib.hid hlt
  have a2 : IntKind.i64.wrap ((u : Int) / 2) = ((u / 2 : Nat) : Int) := by rw [show (u : Int) / 2 = ((u / 2 : Nat) : Int) from by omega]; exact IntWalk.i64_in _ (by omega)
  clear hlt
  go_enter Try.func36, Try.ntmps36
  go_wp2_with fail
  refine Hup.out.mono ?_
  rintro e w1 ⟨rfl, hE⟩
  have HE := Lib.hid hE
  clear hE
  go_wp2_with fail
  go_ret
  refine ⟨ret_i64 ?_, HE.out⟩
  have hu := HU.out
  have e1 : (u : Int) / 2 = ((u / 2 : Nat) : Int) := by omega
  unfold back
  by_cases h2 : u % 2 = 0
  · rw [if_pos h2, e1, show -((u : Int) % 2) = 0 from by omega]
    exact xor_zero_i64 _ (by omega)
  · rw [if_neg h2, e1, show -((u : Int) % 2) = -1 from by omega, xor_ones_i64 _ (by omega)]
    omega

theorem eyetruth_any (ep : Nat) (sb : Option Nat) (l : List Nat) (f : Int) (w : World) (h : EyeAt w ep sb l f) (hx : ∀ x ∈ l, x < 256) (hl : l.length ≤ 1000000) :
    Calls Try.prog 37 #[.pointer (some ⟨ep, 0, none⟩)] w (EyeTo (.bool (decide ((eyeUp 1 l f).1 = 1))) w ep sb (eyeUp 1 l f).2.1 (eyeUp 1 l f).2.2) := by
  have Hup := Lib.hid (eyeup_any ep sb l f 1 w h hx hl)
  generalize eyeUp 1 l f = r at Hup ⊢
  obtain ⟨u, rest, g⟩ := r
  simp only [] at Hup ⊢
  go_enter Try.func37, Try.ntmps37
  go_wp2_with fail
  refine Hup.out.mono ?_
  rintro e w1 ⟨rfl, hE⟩
  have HE := Lib.hid hE
  clear hE
  go_wp2_with fail
  go_ret
  refine ⟨ret_bool ?_, HE.out⟩
  rw [Bool.eq_iff_iff, beq_iff_eq, decide_eq_true_iff]
  omega

theorem eyeleft_any (ep : Nat) (sb : Option Nat) (l : List Nat) (f : Int) (w : World) (h : EyeAt w ep sb l f) (hl : l.length ≤ 1000000) :
    Calls Try.prog 33 #[.pointer (some ⟨ep, 0, none⟩)] w fun e w' => e = .returned (.int .i64 (l.length : Int)) ∧ w' = w := by
  obtain ⟨hne, A, c, hb, hc, hr⟩ := id h
  obtain ⟨c0, c1, z0, z1⟩ := eye_set hb
  clear hne hb hc hr h
  go_enter Try.func33, Try.ntmps33
  go_wp2_with fail
  go_ret
  exact ⟨rfl, rfl⟩
theorem eyefault_any (ep : Nat) (sb : Option Nat) (l : List Nat) (f : Int) (w : World) (h : EyeAt w ep sb l f) :
    Calls Try.prog 31 #[.pointer (some ⟨ep, 0, none⟩)] w fun e w' => e = .returned (.int .i64 f) ∧ w' = w := by
  obtain ⟨hne, A, c, hb, hc, hr⟩ := id h
  obtain ⟨c0, c1, z0, z1⟩ := eye_set hb
  clear hne hb hc hr h
  go_enter Try.func31, Try.ntmps31
  go_wp2_with fail
  go_ret
  exact ⟨rfl, rfl⟩
def eyeClose (l : List Nat) (f : Int) : Int := if f = 0 then (if l.length = 0 then 0 else 12) else f
theorem eyeclose_any (ep : Nat) (sb : Option Nat) (l : List Nat) (f : Int) (w : World) (h : EyeAt w ep sb l f) (hl : l.length ≤ 1000000) :
    Calls Try.prog 38 #[.pointer (some ⟨ep, 0, none⟩)] w fun e w' => e = .returned (.int .i64 (eyeClose l f)) ∧ w' = w := by
  have H := Lib.hid h
  clear h
  have hcl : eyeClose l f = if f = 0 then (if l.length = 0 then 0 else 12) else f := rfl
  have HC := Lib.hid hcl
  clear hcl
  go_enter Try.func38, Try.ntmps38
  go_wp2_with fail
  refine (eyefault_any ep sb l f _ H.out).mono ?_
  rintro e w1 ⟨rfl, rfl⟩
  by_cases hf : f = 0
  · have hfb : (f == (0 : Int)) = true := by simp [hf]
    go_wp2_with fail
    refine (eyeleft_any ep sb l f _ H.out hl).mono ?_
    rintro e w1 ⟨rfl, rfl⟩
    by_cases h0 : l.length = 0
    · go_wp2_with fail
      go_ret
      exact ⟨ret_i64 (by rw [HC.out, if_pos hf, if_pos h0]), rfl⟩
    · have h0' : (0 : Int) < (l.length : Int) := by omega
      go_wp2_with fail
      go_ret
      exact ⟨ret_i64 (by rw [HC.out, if_pos hf, if_neg h0]), rfl⟩
  · have hfb : (f == (0 : Int)) = false := by simp [hf]
    go_wp2_with fail
    go_ret
    exact ⟨ret_i64 (by rw [HC.out, if_neg hf]), rfl⟩

/-- In which block bytes lie. -/
def srcOf (A : Option Addr) (l : List Nat) : Option Nat := if l.length = 0 then none else A.map (·.block)

/-- An eye on bytes. -/
theorem eyelook_any (A : Option Addr) (c : Nat) (l : List Nat) (w : World) (h : Rd w w.heap.size 1 A l.length (u8s l)) (hc : l.length ≤ c) :
    Calls Try.prog 29 #[.slice A l.length c] w fun e w' => e = .returned (.pointer (some ⟨w.heap.size, 0, none⟩)) ∧ EyeAt w' w.heap.size (srcOf A l) l 0 ∧ Below w.heap.size w w' := by
  have he : EyeAt (w.alloc (.cells #[.slice A l.length c, .int .i64 0] 55)) w.heap.size (srcOf A l) l 0 := by
    have hbl := below_alloc w (.cells #[.slice A l.length c, .int .i64 0] 55)
    refine ⟨?_, A, c, heap_alloc_new w _, hc, fun h0 => ?_⟩
    · unfold srcOf
      split
      · simp
      · obtain ⟨b, off, rfl, hb, _⟩ := h.2 (by omega)
        simp; omega
    · obtain ⟨b, off, rfl, hb, hcell⟩ := h.2 (by omega)
      refine ⟨b, off, rfl, by unfold srcOf; rw [if_neg (by omega)]; rfl, by simp; omega, fun j u hu => ?_⟩
      rw [hbl.cell (p := ⟨b, off + j, none⟩) hb]
      exact hcell j u hu
  have hbl := below_alloc w (.cells #[.slice A l.length c, .int .i64 0] 55)
  have HE := Lib.hid (And.intro he hbl)
  clear he hbl
  go_enter Try.func29, Try.ntmps29
  go_wp2_with fail
  go_ret
  exact ⟨rfl, HE.out⟩

/-- A text of at most top bytes. -/
def eyeTxt (top : Int) (l : List Nat) (f : Int) : ByteArray × List Nat × Int :=
  if top < 0 then (ByteArray.empty, wrongL l f, wrongF f 10)
  else if (eyeUp top.toNat l f).2.1.length < (eyeUp top.toNat l f).1 then (ByteArray.empty, wrongL (eyeUp top.toNat l f).2.1 (eyeUp top.toNat l f).2.2, wrongF (eyeUp top.toNat l f).2.2 11)
  else (bstr ((eyeUp top.toNat l f).2.1.take (eyeUp top.toNat l f).1), (eyeUp top.toNat l f).2.1.drop (eyeUp top.toNat l f).1, (eyeUp top.toNat l f).2.2)

end Go.Proofs.Ythbafbgnclpbpaa
