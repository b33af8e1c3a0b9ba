/- Contracts of package sip: the eye, four: texts; none. -/
import Derived.Test.YthbafbgnclpbpaaEye3
namespace Go.Proofs.Ythbafbgnclpbpaa
open Go.RowKit

theorem wrong_zero (l : List Nat) (g : Int) : wrongL l 0 = [] ∧ wrongF 0 g = g := ⟨if_pos rfl, if_pos rfl⟩

set_option maxRecDepth 100000 in
set_option maxHeartbeats 2000000 in
theorem eyetext_any (ep : Nat) (sb : Option Nat) (l : List Nat) (f : Int) (top : Int) (w : World) (h : EyeAt w ep sb l f) (hx : ∀ x ∈ l, x < 256) (hl : l.length ≤ 1000000) (ht : -9223372036854775808 ≤ top ∧ top ≤ 9223372036854775807) :
    Calls Try.prog 34 #[.pointer (some ⟨ep, 0, none⟩), .int .i64 top] w (EyeTo (.string (eyeTxt top l f).1) w ep sb (eyeTxt top l f).2.1 (eyeTxt top l f).2.2) := by
  by_cases h0 : top < 0
  · have e : eyeTxt top l f = (ByteArray.empty, wrongL l f, wrongF f 10) := if_pos h0
    rw [e]
    have H := Lib.hid h
    clear e h hx
    go_enter Try.func34, Try.ntmps34
    go_wp2_with fail
    refine (eyewrong_any ep sb l f 10 _ H.out).mono ?_
    rintro e w1 ⟨rfl, hE⟩
    have HE := Lib.hid hE
    clear hE
    go_wp2_with fail
    go_ret
    exact ⟨rfl, HE.out⟩
  · obtain ⟨tn, rfl⟩ := Int.eq_ofNat_of_zero_le (Int.not_lt.1 h0)
    have Hup := Lib.hid (eyeup_any ep sb l f tn w h hx hl)
    have hlen := drop_le (eyeUp_sub tn l f)
    have hult := eyeUp_lt (l := l) (f := f) (show tn < 18446744073709551616 by omega)
    have e : eyeTxt (tn : Int) l f = if (eyeUp tn l f).2.1.length < (eyeUp tn l f).1 then (ByteArray.empty, wrongL (eyeUp tn l f).2.1 (eyeUp tn l f).2.2, wrongF (eyeUp tn l f).2.2 11)
        else (bstr ((eyeUp tn l f).2.1.take (eyeUp tn l f).1), (eyeUp tn l f).2.1.drop (eyeUp tn l f).1, (eyeUp tn l f).2.2) := if_neg h0
    rw [e]
    have hw : IntKind.u64.wrap (tn : Int) = (tn : Int) := by rw [IntKind.wrap_u64]; omega
    clear e h hx
    generalize eyeUp tn l f = r at Hup hlen hult ⊢
    obtain ⟨n, rest, g⟩ := r
    simp only [] at Hup hlen hult ⊢
    have HU := Lib.hid hult
    have hlen' : rest.length ≤ 1000000 := by omega
    have hwl : IntKind.u64.wrap (rest.length : Int) = (rest.length : Int) := by rw [IntKind.wrap_u64]; omega
    clear hult hlen
    by_cases hn : rest.length < n
    · rw [if_pos hn]
      have hn' : (rest.length : Int) < (n : Int) := by omega
      go_enter Try.func34, Try.ntmps34
      go_wp2_with fail
      refine Hup.out.mono ?_
      rintro e w1 ⟨rfl, hE, hO⟩
      have HO := Lib.hid hO
      have HE := Lib.hid hE
      obtain ⟨hne, A, c, hb, hc, hr⟩ := id hE
      obtain ⟨c0, c1, z0, z1⟩ := eye_set hb
      have HH := Lib.hid (And.intro hne (And.intro hb hr))
      clear hE hO Hup hne hb hr
      go_wp2_with fail
      refine (eyewrong_any ep sb rest g 11 _ HE.out).mono ?_
      rintro e w2 ⟨rfl, hE2, hO2⟩
      have HE2 := Lib.hid (And.intro hE2 (HO.out.trans hO2 (fun _ _ h => h)))
      clear hE2 hO2
      go_wp2_with fail
      go_ret
      exact ⟨rfl, HE2.out⟩
    · rw [if_neg hn]
      have hn' : ¬ (rest.length : Int) < (n : Int) := by omega
      go_enter Try.func34, Try.ntmps34
      go_wp2_with fail
      refine Hup.out.mono ?_
      rintro e w1 ⟨rfl, hE, hO⟩
      have HO := Lib.hid hO
      have HE := Lib.hid hE
      obtain ⟨hne, A, c, hb, hc, hr⟩ := id hE
      obtain ⟨c0, c1, z0, z1⟩ := eye_set hb
      have HH := Lib.hid (And.intro hne (And.intro hb hr))
      clear hE hO Hup hne hb hr
      have s1 : (n : Int) ≤ (rest.length : Int) := by omega
      have s2 : (n : Int) ≤ (c : Int) := by omega
      have s3 : (rest.length : Int) ≤ (c : Int) := by omega
      have hcv : (convert 38 9 (.slice A n c)).run Try.prog w1 = .ok (.string (bstr (rest.take n))) w1 := by
        refine conv_any ⟨by rw [u8s_length, List.length_take]; omega, fun hp => ?_⟩
        obtain ⟨b, off, e, hs, hbl, hcell⟩ := HH.out.2.2 (by omega)
        refine ⟨b, off, e, hbl, fun j u hu => hcell j u ?_⟩
        rw [u8s, List.map_take, List.getElem?_take] at hu
        split at hu
        · exact hu
        · cases hu
      by_cases hcc : c = n
      · subst hcc
        go_wp2_with fail
        go_ret
        refine ⟨rfl, ?_⟩
        have h := eye_cut (k := c) HH.out.1 HH.out.2.1 HH.out.2.2 (by omega) A 0 (by omega) (fun h => absurd h (by omega))
        rw [show rest.length - c = 0 from by omega] at h
        exact ⟨h.1, HO.out.trans h.2 (fun _ _ h => h)⟩
      · go_wp2_with fail
        go_ret
        refine ⟨rfl, ?_⟩
        have h := eye_cut (k := n) HH.out.1 HH.out.2.1 HH.out.2.2 (by omega) (A.map (·.add n)) (c - n) (by omega) (fun _ => rfl)
        exact ⟨h.1, HO.out.trans h.2 (fun _ _ h => h)⟩

/-- None: a call does nothing. -/
def Nil (v : Value) (w : World) (e : Ending) (w' : World) : Prop := e = .returned v ∧ w' = w

theorem eyedigits_nil (w : World) : Calls Try.prog 105 #[.pointer none] w (Nil (.tuple #[.int .u64 0, .bool false]) w) := by
  go_enter Try.func105, Try.ntmps105
  go_wp2_with fail
  go_ret2
  exact ⟨rfl, rfl⟩
theorem eyeup_nil (x : Int) (w : World) : Calls Try.prog 80 #[.pointer none, .int .u64 x] w (Nil (.int .u64 0) w) := by
  go_enter Try.func80, Try.ntmps80
  go_wp2_with fail
  refine (eyedigits_nil w).mono ?_
  rintro e w1 ⟨rfl, rfl⟩
  go_wp2_with fail
  go_ret
  exact ⟨rfl, rfl⟩
theorem eyenum_nil (x : Int) (w : World) : Calls Try.prog 30 #[.pointer none, .int .u64 x] w (Nil (.int .u64 0) w) := by
  go_enter Try.func30, Try.ntmps30
  go_wp2_with fail
  refine (eyeup_nil _ w).mono ?_
  rintro e w1 ⟨rfl, rfl⟩
  go_wp2_with fail
  go_ret
  exact ⟨rfl, rfl⟩
theorem eyeint_nil (w : World) : Calls Try.prog 36 #[.pointer none] w (Nil (.int .i64 0) w) := by
  go_enter Try.func36, Try.ntmps36
  go_wp2_with fail
  refine (eyeup_nil _ w).mono ?_
  rintro e w1 ⟨rfl, rfl⟩
  go_wp2_with fail
  go_ret
  exact ⟨ret_i64 (by decide +kernel), rfl⟩
theorem eyetruth_nil (w : World) : Calls Try.prog 37 #[.pointer none] w (Nil (.bool false) w) := by
  go_enter Try.func37, Try.ntmps37
  go_wp2_with fail
  refine (eyeup_nil _ w).mono ?_
  rintro e w1 ⟨rfl, rfl⟩
  go_wp2_with fail
  go_ret
  exact ⟨rfl, rfl⟩
theorem eyetext_nil (x : Int) (w : World) : Calls Try.prog 34 #[.pointer none, .int .i64 x] w (Nil (.string ⟨#[]⟩) w) := by
  go_enter Try.func34, Try.ntmps34
  go_wp2_with fail
  go_ret
  exact ⟨rfl, rfl⟩
theorem eyeleft_nil (w : World) : Calls Try.prog 33 #[.pointer none] w (Nil (.int .i64 0) w) := by
  go_enter Try.func33, Try.ntmps33
  go_wp2_with fail
  go_ret
  exact ⟨rfl, rfl⟩

theorem eyefault_nil (w : World) : Calls Try.prog 31 #[.pointer none] w (Nil (.int .i64 1) w) := by
  go_enter Try.func31, Try.ntmps31
  go_wp2_with fail
  go_ret
  exact ⟨rfl, rfl⟩

theorem eyeclose_nil (w : World) : Calls Try.prog 38 #[.pointer none] w (Nil (.int .i64 1) w) := by
  go_enter Try.func38, Try.ntmps38
  go_wp2_with fail
  refine (eyefault_nil w).mono ?_
  rintro e w1 ⟨rfl, rfl⟩
  go_wp2_with fail
  go_ret
  exact ⟨rfl, rfl⟩
theorem penlen_nil (w : World) : Calls Try.prog 27 #[.pointer none] w (Nil (.int .i64 0) w) := by
  go_enter Try.func27, Try.ntmps27
  go_wp2_with fail
  go_ret
  exact ⟨rfl, rfl⟩

theorem penbytes_nil (w : World) : Calls Try.prog 28 #[.pointer none] w (Nil (.slice none 0 0) w) := by
  go_enter Try.func28, Try.ntmps28
  go_wp2_with fail
  go_ret
  exact ⟨rfl, rfl⟩

theorem pentext_nil (s : ByteArray) (hs : s.size ≤ 100000) (w : World) : Calls Try.prog 35 #[.pointer none, .string s] w fun e w' => e = .returned (.tuple #[]) ∧ Below w.heap.size w w' := by
  have hs' : s.size ≤ 9223372036854775807 := by omega
  go_enter Try.func35, Try.ntmps35
  go_wp2_with fail
  refine (pennum_nil _ _ _ _).mono ?_
  rintro e w1 ⟨rfl, rfl⟩
  go_wp2_with fail
  first | go_end0 | refine bodyPost_ret (results_none rfl _ _ _) rfl ?_
  exact ⟨rfl, below_alloc _ _⟩

end Go.Proofs.Ythbafbgnclpbpaa
