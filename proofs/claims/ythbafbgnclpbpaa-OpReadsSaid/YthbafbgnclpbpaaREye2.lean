/- Contracts of the reference of package sip: its eye, texts. -/
import Derived.Test.YthbafbgnclpbpaaREye
namespace Go.Proofs.Ythbafbgnclpbpaa
open Go.RowKit

theorem eyeTxt_neg {top : Int} (l : List Nat) (f : Int) (h : top < 0) : eyeTxt top l f = (ByteArray.empty, wrongL l f, wrongF f 10) := if_pos h
theorem bstr_nil : bstr [] = ⟨#[]⟩ := rfl
theorem eyeTxt_fault {top : Int} {l : List Nat} {f : Int} (h : f ≠ 0) : eyeTxt top l f = (⟨#[]⟩, l, f) := by
  have e1 : wrongL l f = l := if_neg h
  have e2 : wrongF f 10 = f := if_neg h
  unfold eyeTxt
  rw [eyeUp_fault h]
  split
  · rw [e1, e2]; rfl
  · simp only []
    rw [if_neg (by omega), List.take_zero, List.drop_zero, bstr_nil]
theorem eyeUp_zero {tn : Nat} {l : List Nat} {f : Int} (hg : (eyeUp tn l f).2.2 ≠ 0) : (eyeUp tn l f).1 = 0 := by
  unfold eyeUp at *
  split at hg
  · rename_i hok
    split at hg
    · rename_i hgt; rw [if_pos hok, if_pos hgt]
    · rename_i hgt; rw [eyeDig_ok hok] at hg; exact absurd rfl hg
  · rename_i hok; rw [if_neg hok]

set_option maxRecDepth 100000 in
set_option maxHeartbeats 4000000 in
theorem rtext_any (ep : Nat) (sb : Option Nat) (l : List Nat) (f : Int) (top : Int) (w : World) (h : REye w ep sb l f) (hx : ∀ x ∈ l, x < 256) (hl : l.length ≤ 1000000) (ht : -9223372036854775808 ≤ top ∧ top ≤ 9223372036854775807) :
    Calls Try.prog 97 #[.pointer (some ⟨ep, 0, none⟩), .int .i64 top] w (RTo (.string (eyeTxt top l f).1) w ep sb (eyeTxt top l f).2.1 (eyeTxt top l f).2.2) := by
  obtain ⟨hne, A, c, hb, hc, hr⟩ := id h
  obtain ⟨c0, c1, z0, z1⟩ := reye_set hb
  by_cases hf : f = 0
  · subst hf
    by_cases h0 : top < 0
    · rw [eyeTxt_neg l 0 h0, (wrong_zero l 10).1, (wrong_zero l 10).2]
      have H := Lib.hid h
      clear h hx hne hb hc hr
      go_enter Try.func97, Try.ntmps97
      go_wp2_with fail
      refine (rspoil_any ep sb l 0 10 _ H.out).mono ?_
      rintro e w1 ⟨rfl, hE⟩
      have HE := Lib.hid hE
      clear hE
      go_wp2_with fail
      go_ret
      exact ⟨rfl, HE.out⟩
    · obtain ⟨tn, rfl⟩ := Int.eq_ofNat_of_zero_le (Int.not_lt.1 h0)
      have Hup := Lib.hid (rread_any ep sb l 0 tn w h hx hl (by omega))
      have hlen := drop_le (eyeUp_sub tn l 0)
      have hult := eyeUp_lt (l := l) (f := 0) (show tn < 18446744073709551616 by omega)
      have e : eyeTxt (tn : Int) l 0 = if (eyeUp tn l 0).2.1.length < (eyeUp tn l 0).1 then (ByteArray.empty, wrongL (eyeUp tn l 0).2.1 (eyeUp tn l 0).2.2, wrongF (eyeUp tn l 0).2.2 11)
          else (bstr ((eyeUp tn l 0).2.1.take (eyeUp tn l 0).1), (eyeUp tn l 0).2.1.drop (eyeUp tn l 0).1, (eyeUp tn l 0).2.2) := if_neg h0
      have h00 := fun hg => eyeUp_zero (tn := tn) (l := l) (f := 0) hg
      rw [e]
      have hw : IntKind.u64.wrap (tn : Int) = (tn : Int) := by rw [IntKind.wrap_u64]; omega
      clear e h hx hne hb hc hr
      generalize eyeUp tn l 0 = r at Hup hlen hult h00 ⊢
      obtain ⟨n, rest, g⟩ := r
      simp only [] at Hup hlen hult h00 ⊢
      have HU := Lib.hid hult
      have hlen' : rest.length ≤ 1000000 := by omega
      have hwl : IntKind.u64.wrap (rest.length : Int) = (rest.length : Int) := by rw [IntKind.wrap_u64]; omega
      clear hult hlen
      by_cases hg : g = 0
      · subst hg
        clear h00
        by_cases hn : rest.length < n
        · rw [if_pos hn, (wrong_zero rest 11).1, (wrong_zero rest 11).2]
          have hn' : (rest.length : Int) < (n : Int) := by omega
          go_enter Try.func97, Try.ntmps97
          go_wp2_with fail
          refine Hup.out.mono ?_
          rintro e w1 ⟨rfl, hE, hO⟩
          have HO := Lib.hid hO
          have HE := Lib.hid hE
          clear c0 c1 z0 z1
          obtain ⟨hne, A, c, hb, hc, hr⟩ := id hE
          obtain ⟨c0, c1, z0, z1⟩ := reye_set hb
          have HH := Lib.hid (And.intro hne (And.intro hb hr))
          clear hE hO Hup hne hb hr
          go_wp2_with fail
          refine (rspoil_any ep sb rest 0 11 _ HE.out).mono ?_
          rintro e w2 ⟨rfl, hE2, hO2⟩
          have HE2 := Lib.hid (And.intro hE2 (HO.out.trans hO2 (fun _ _ h => h)))
          clear hE2 hO2
          go_wp2_with fail
          go_ret
          exact ⟨rfl, HE2.out⟩
        · rw [if_neg hn]
          have hn' : ¬ (rest.length : Int) < (n : Int) := by omega
          go_enter Try.func97, Try.ntmps97
          go_wp2_with fail
          refine Hup.out.mono ?_
          rintro e w1 ⟨rfl, hE, hO⟩
          have HO := Lib.hid hO
          have HE := Lib.hid hE
          clear c0 c1 z0 z1
          obtain ⟨hne, A, c, hb, hc, hr⟩ := id hE
          obtain ⟨c0, c1, z0, z1⟩ := reye_set hb
          have HH := Lib.hid (And.intro hne (And.intro hb hr))
          clear hE hO Hup hne hb hr
          have s1 : (n : Int) ≤ (rest.length : Int) := by omega
          have s2 : (n : Int) ≤ (c : Int) := by omega
          have s3 : (rest.length : Int) ≤ (c : Int) := by omega
          have hcv : (convert 38 9 (.slice A n c)).run Try.prog w1 = .ok (.string (bstr (rest.take n))) w1 := by
            refine conv_any ⟨by rw [u8s_length, List.length_take]; omega, fun hp => ?_⟩
            obtain ⟨b, off, e, hs, hbl, hcell⟩ := HH.out.2.2 (by omega)
            refine ⟨b, off, e, hbl, fun j u hu => hcell j u ?_⟩
            rw [u8s, List.map_take, List.getElem?_take] at hu
            split at hu
            · exact hu
            · cases hu
          by_cases hcc : c = n
          · subst hcc
            go_wp2_with fail
            go_ret
            refine ⟨rfl, ?_⟩
            have h := reye_cut (k := c) HH.out.1 HH.out.2.1 HH.out.2.2 (by omega) A 0 (by omega) (fun h => absurd h (by omega))
            rw [show rest.length - c = 0 from by omega] at h
            exact ⟨h.1, HO.out.trans h.2 (fun _ _ h => h)⟩
          · go_wp2_with fail
            go_ret
            refine ⟨rfl, ?_⟩
            have h := reye_cut (k := n) HH.out.1 HH.out.2.1 HH.out.2.2 (by omega) (A.map (·.add n)) (c - n) (by omega) (fun _ => rfl)
            exact ⟨h.1, HO.out.trans h.2 (fun _ _ h => h)⟩
      · obtain rfl := h00 hg
        have hgb : (g == (0 : Int)) = false := by simp [hg]
        rw [if_neg (by omega), List.take_zero, List.drop_zero, bstr_nil]
        clear h00
        go_enter Try.func97, Try.ntmps97
        go_wp2_with fail
        refine Hup.out.mono ?_
        rintro e w1 ⟨rfl, hE, hO⟩
        have HO := Lib.hid hO
        have HE := Lib.hid hE
        clear c0 c1 z0 z1
        obtain ⟨hne, A, c, hb, hc, hr⟩ := id hE
        obtain ⟨c0, c1, z0, z1⟩ := reye_set hb
        have HH := Lib.hid (And.intro hne (And.intro hb hr))
        clear hE hO Hup hne hb hr
        go_wp2_with fail
        go_ret
        exact ⟨rfl, HE.out, HO.out⟩
  · rw [eyeTxt_fault hf]
    have Hl := Lib.hid (And.intro h (Off.refl (fun k => k = ep) w))
    have hfb : (f == (0 : Int)) = false := by simp [hf]
    clear hb hc hr h hne
    go_enter Try.func97, Try.ntmps97
    go_wp2_with fail
    go_ret
    exact ⟨rfl, Hl.out⟩

end Go.Proofs.Ythbafbgnclpbpaa
