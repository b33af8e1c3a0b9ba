/- The law SipOnce: the walk. -/
import Derived.Test.YthbafbgnclpbpaaSip5
namespace Go.Proofs.Ythbafbgnclpbpaa
open Go.RowKit

theorem eyeUp_fine {top : Nat} {l : List Nat} (hx : ∀ x ∈ l, x < 256) (h : (eyeUp top l 0).2.2 = 0) : l = dig (eyeUp top l 0).1 ++ (eyeUp top l 0).2.1 ∧ (eyeUp top l 0).1 ≤ top ∧ (eyeUp top l 0).1 < 18446744073709551616 := by
  cases hs : scan 0 0 l with
  | short => simp [eyeUp, eyeDig, hs] at h
  | bad => simp [eyeUp, eyeDig, hs] at h
  | got n k =>
    obtain ⟨h1, h2, h3, h4⟩ := scan_got hx hs
    by_cases ht : top < n
    · simp [eyeUp, eyeDig, hs, ht] at h
    · have e : eyeUp top l 0 = (n, l.drop k, 0) := by simp [eyeUp, eyeDig, hs, ht]
      rw [e]
      exact ⟨by rw [← h2, List.take_append_drop], Nat.not_lt.1 ht, h1⟩
theorem tb_bstr {m : List Nat} (h : ∀ x ∈ m, x < 256) : tb (bstr m) = m := by
  unfold tb bstr
  rw [List.map_map]
  calc m.map _ = m.map id := List.map_congr_left fun x hx => by simp; exact h x hx
    _ = m := List.map_id m
theorem bstr_size (m : List Nat) : (bstr m).size = m.length := by simp [bstr, ByteArray.size]
theorem eyeTxt_fine {top : Int} {l : List Nat} (hx : ∀ x ∈ l, x < 256) (h : (eyeTxt top l 0).2.2 = 0) : l = dig (eyeTxt top l 0).1.size ++ tb (eyeTxt top l 0).1 ++ (eyeTxt top l 0).2.1 ∧ ((eyeTxt top l 0).1.size : Int) ≤ top := by
  by_cases h0 : top < 0
  · simp [eyeTxt, h0, wrongF] at h
  · by_cases h1 : (eyeUp top.toNat l 0).2.1.length < (eyeUp top.toNat l 0).1
    · have e : eyeTxt top l 0 = (ByteArray.empty, wrongL (eyeUp top.toNat l 0).2.1 (eyeUp top.toNat l 0).2.2, wrongF (eyeUp top.toNat l 0).2.2 11) := by rw [eyeTxt, if_neg h0, if_pos h1]
      rw [e] at h
      unfold wrongF at h
      split at h
      · cases h
      · rename_i hne; exact absurd h hne
    · have e : eyeTxt top l 0 = (bstr ((eyeUp top.toNat l 0).2.1.take (eyeUp top.toNat l 0).1), (eyeUp top.toNat l 0).2.1.drop (eyeUp top.toNat l 0).1, (eyeUp top.toNat l 0).2.2) := by rw [eyeTxt, if_neg h0, if_neg h1]
      rw [e] at h ⊢
      obtain ⟨e1, e2, e3⟩ := eyeUp_fine hx h
      have hlen : ((eyeUp top.toNat l 0).2.1.take (eyeUp top.toNat l 0).1).length = (eyeUp top.toNat l 0).1 := by rw [List.length_take]; omega
      have hlt : ∀ x ∈ (eyeUp top.toNat l 0).2.1.take (eyeUp top.toNat l 0).1, x < 256 := fun x hm => hx x (by rw [e1]; exact List.mem_append_right _ (List.mem_of_mem_take hm))
      simp only []
      rw [bstr_size, hlen, tb_bstr hlt, List.append_assoc, List.take_append_drop]
      exact ⟨e1, by omega⟩

theorem srcOf_lt {w : World} {A : Option Addr} {l : List Nat} (h : Rd w w.heap.size 1 A l.length (u8s l)) : ∀ b, srcOf A l = some b → b < w.heap.size := by
  intro b hb
  unfold srcOf at hb
  split at hb
  · cases hb
  · obtain ⟨b', off, rfl, hlt, _⟩ := h.2 (by omega)
    simp at hb
    omega
theorem rd_first {w : World} {A : Option Addr} {l D rest : List Nat} (h : Rd w w.heap.size 1 A l.length (u8s l)) (e : l = D ++ rest) : Rd w w.heap.size 1 A D.length (u8s D) := by
  have h1 := h.first (k := D.length) (by rw [e, List.length_append]; omega)
  have e2 : (u8s l).take (D.length * 1) = u8s D := by rw [e, u8s_append, Nat.mul_one, List.take_left' (u8s_length D)]
  rw [e2] at h1
  exact h1

set_option maxRecDepth 100000 in
set_option maxHeartbeats 8000000 in
theorem siponce_any (A : Option Addr) (c : Nat) (l : List Nat) (most : Int) (w : World) (h : Rd w w.heap.size 1 A l.length (u8s l)) (hx : ∀ x ∈ l, x < 256) (hc : l.length ≤ c) (hl : l.length ≤ 9223372036854775807) (hm : -9223372036854775808 ≤ most ∧ most ≤ 9223372036854775807) :
    Calls Try.prog 5 #[.slice A l.length c, .int .i64 most] w (Ret (.bool true) w) := by
  by_cases h1000 : 1000 < l.length
  · have h1000' : (1000 : Int) < (l.length : Int) := by omega
    go_enter Try.func5, Try.ntmps5
    go_wp2_with fail
    refine (lives01_any _).mono ?_
    rintro e w2 ⟨rfl, hb2⟩
    go_wp2_with fail
    go_ret
    exact ⟨rfl, hb2⟩
  · have h1000' : ¬ (1000 : Int) < (l.length : Int) := by omega
    have HC := Lib.hid hc
    have HR := Lib.hid h
    have HX := Lib.hid hx
    have HL := Lib.hid (Nat.not_lt.1 h1000)
    clear hc h hx h1000
    go_enter Try.func5, Try.ntmps5
    go_wp2_with fail
    refine (eyelook_any A c l w HR.out HC.out).mono ?_
    rintro e w1 ⟨rfl, hE, hb1⟩
    have HE := Lib.hid (And.intro hE hb1)
    clear hE hb1
    have hep : w.heap.size ≤ w.heap.size := Nat.le_refl _
    have Hsl := Lib.hid (srcOf_lt HR.out)
    go_wp2_with fail
    refine (eyenum_any w.heap.size _ l 0 18446744073709551615 _ HE.out.1 HX.out (by have := HL.out; omega)).mono ?_
    rintro e w2 ⟨rfl, hE, hO⟩
    have hB2 := hO.below HE.out.2 HE.out.2.size (fun j hj e => by omega)
    have hfine := eyeUp_fine (top := 18446744073709551615) HX.out
    have hE1 := HE.out.1.lt
    generalize eyeUp 18446744073709551615 l 0 = q at hE hfine ⊢
    obtain ⟨n, rest, g⟩ := q
    simp only [] at hE hfine ⊢
    have H2 := Lib.hid (And.intro hE (And.intro hB2 (And.intro hfine (Nat.lt_of_lt_of_le hE1 hO.size))))
    clear hE hO hB2 hfine hE1 HE
    go_wp2_with fail
    refine (eyefault_any _ _ rest g _ H2.out.1).mono ?_
    rintro e w2 ⟨rfl, rfl⟩
    by_cases hg : g = 0
    · subst hg
      have HFE := Lib.hid (H2.out.2.2.1 rfl)
      have hpn := pen_new w2
      have hbn := below_alloc w2 (.cells #[.slice none 0 0] 40)
      have hsn : (w2.alloc (.cells #[.slice none 0 0] 40)).heap.size = w2.heap.size + 1 := by simp
      have H3 := Lib.hid (And.intro hpn (And.intro hbn hsn))
      clear hpn hbn hsn
      go_wp2_with fail
      generalize w2.alloc _ = w3 at H3 ⊢
      rw [← H3.out.2.2]
      refine (pennum_any w2.heap.size none [] [n] w3.heap.size 1 _ (H3.out.1.below (below_alloc _ _)) (by intro y hy; simp at hy; subst hy; exact HFE.out.2.2) (told_new H3.out.1 (u64n [n]) _) (by simp)).mono ?_
      rintro e w4 ⟨rfl, r4, hrel⟩
      replace hrel := PenRel.of_below (below_alloc _ _) hrel
      rw [show ([] ++ [n].flatMap dig) = dig n from by simp] at hrel
      have hw2 : w.heap.size ≤ w2.heap.size := H2.out.2.1.size
      have K := hrel.keeps (below_of H2.out.2.1 H3.out.2.1) (by have := H3.out.2.2; omega) hw2 (by simp)
      have hey := (H2.out.1.below H3.out.2.1).off hrel.2.1 (fun e => e.elim (fun e => by have := H2.out.2.2.2; omega) (fun e => by cases e)) (fun b hb e => e.elim (fun e => by have := Hsl.out b hb; omega) (fun e => by cases e))
      have hrd := (rd_first HR.out HFE.out.1).up K.1
      have hdl := dig_len n
      have hlen := congrArg List.length HFE.out.1
      rw [List.length_append] at hlen
      have H4 := Lib.hid (And.intro hrel.1 (And.intro hey (And.intro hrd K.1)))
      clear hey hrd K hrel H3 HFE
      generalize dig n = D at H4 hdl hlen
      have HC2 := Lib.hid (show D.length ≤ c by have := HC.out; omega)
      have HLEN := Lib.hid hlen
      have hDl : D.length ≤ 2000 := by omega
      have s1 : IntKind.i64.wrap ((l.length : Int) - (rest.length : Int)) = (D.length : Int) := by rw [IntWalk.i64_in _ (by omega)]; omega
      have s2 : (D.length : Int) ≤ (c : Int) := by have := HC2.out; omega
      have hrl : rest.length ≤ 1000 := by have := HL.out; omega
      clear hdl hlen
      go_upto_region 8 with fail
      go_cut [35] (fun s wx => s = .bool false ∧ Below w4.heap.size w4 wx)
      case first =>
        have hcur : Below w4.heap.size w4 w4.drew := Below.drew (Below.refl _ _)
        first | go_region_with (first | (go_at_call 28; refine (penbytes_any w2.heap.size r4 D _ (H4.out.1.below hcur) (by omega)).mono ?_; rintro e wn ⟨A3, c3, rfl, ho3, hb3⟩; replace hcur := below_of hcur hb3; have hc2 := made_conv ho3; have hcb := conv_any (c := c) (H4.out.2.2.1.up hcur)) | (go_at_call 33; refine (eyeleft_any w.heap.size (srcOf A l) rest 0 _ (H4.out.2.1.below hcur) (by omega)).mono ?_; rintro e wn ⟨rfl, rfl⟩)) | fail
        all_goals
          go_wp2_with fail
          go_meet
          exact ⟨rfl, hcur⟩
      case rest =>
        obtain ⟨rfl, hbx⟩ := hcut
        have HBz := Lib.hid (below_of H4.out.2.2.2 hbx)
        clear hbx H4 H2
        go_wp2_with fail
        generalize wc = wz at HBz ⊢
        have hwz : w.heap.size ≤ wz.heap.size := HBz.out.size
        have HRz := Lib.hid (HR.out.up HBz.out)
        refine (eyelook_any A c l wz HRz.out HC.out).mono ?_
        rintro e w5 ⟨rfl, hE, hb5⟩
        have HE5 := Lib.hid (And.intro hE (below_of HBz.out hb5))
        clear hE hb5 HBz HRz
        go_wp2_with fail
        refine (eyetext_any wz.heap.size _ l 0 most _ HE5.out.1 HX.out (by have := HL.out; omega) hm).mono ?_
        rintro e w2 ⟨rfl, hE, hO⟩
        have hB2 := hO.below HE5.out.2 HE5.out.2.size (fun j hj e => by omega)
        have hfine := eyeTxt_fine (top := most) HX.out
        have hE1 := HE5.out.1.lt
        generalize eyeTxt most l 0 = q at hE hfine ⊢
        obtain ⟨t, rest, g⟩ := q
        simp only [] at hE hfine ⊢
        have H2 := Lib.hid (And.intro hE (And.intro hB2 (And.intro hfine (Nat.lt_of_lt_of_le hE1 hO.size))))
        clear hE hO hB2 hfine hE1 HE5
        go_wp2_with fail
        refine (eyefault_any _ _ rest g _ H2.out.1).mono ?_
        rintro e w2 ⟨rfl, rfl⟩
        by_cases hg : g = 0
        · subst hg
          have HFE := Lib.hid (H2.out.2.2.1 rfl)
          have hlen0 := congrArg List.length HFE.out.1
          rw [List.length_append, List.length_append, tb_length] at hlen0
          have hts : t.size ≤ 1000 := by have := HL.out; omega
          have hts2 : t.size ≤ 9223372036854775807 := by omega
          have hmost : decide (most < (t.size : Int)) = false := decide_eq_false (by have := HFE.out.2; omega)
          have hpn := pen_new w2
          have hbn := below_alloc w2 (.cells #[.slice none 0 0] 40)
          have hsn : (w2.alloc (.cells #[.slice none 0 0] 40)).heap.size = w2.heap.size + 1 := by simp
          have H3 := Lib.hid (And.intro hpn (And.intro hbn hsn))
          clear hpn hbn hsn hlen0
          go_wp2_with fail
          generalize w2.alloc _ = w3 at H3 ⊢
          refine (pentext_any w2.heap.size none [] t _ H3.out.1 (by simp; omega)).mono ?_
          rintro e w4 ⟨rfl, r4, hrel⟩
          rw [show ([] ++ (dig t.size ++ tb t)) = dig t.size ++ tb t from rfl] at hrel
          have hw2 : w.heap.size ≤ w2.heap.size := H2.out.2.1.size
          have K := hrel.keeps (below_of H2.out.2.1 H3.out.2.1) (by have := H3.out.2.2; omega) hw2 (by simp)
          have hey := (H2.out.1.below H3.out.2.1).off hrel.2.1 (fun e => e.elim (fun e => by have := H2.out.2.2.2; omega) (fun e => by cases e)) (fun b hb e => e.elim (fun e => by have := Hsl.out b hb; omega) (fun e => by cases e))
          have hrd := (rd_first HR.out HFE.out.1).up K.1
          have hlen := congrArg List.length HFE.out.1
          rw [List.length_append] at hlen
          have H4 := Lib.hid (And.intro hrel.1 (And.intro hey (And.intro hrd K.1)))
          clear hey hrd K hrel H3 HFE
          generalize dig t.size ++ tb t = D at H4 hlen
          have HC2 := Lib.hid (show D.length ≤ c by have := HC.out; omega)
          have hDl : D.length ≤ 2000 := by have := HL.out; omega
          have s1 : IntKind.i64.wrap ((l.length : Int) - (rest.length : Int)) = (D.length : Int) := by rw [IntWalk.i64_in _ (by omega)]; omega
          have s2 : (D.length : Int) ≤ (c : Int) := by have := HC2.out; omega
          have hrl : rest.length ≤ 1000 := by have := HL.out; omega
          clear hlen
          go_upto_region 15 with fail
          generalize w4 = W at H4 ⊢
          go_cut [62] (fun s wx => s = .bool false ∧ Below W.heap.size W wx)
          case first =>
            refine wp_region_held_drew (S := fun w' => Below W.heap.size W w') (by kernel_rfl) (Below.drew (Below.refl _ _)) (fun hcur => ?_)
            replace hcur : Below W.heap.size W W.drew := hcur
            refine wpAnyH_take (i := 0) (v := ?_) rfl (by decide +kernel) (by decide +kernel) (by decide +kernel) (fun _ _ _ h => h) (Or.inl ⟨by rfl, ?hy⟩) hcur ?_
            case hy =>
              intro w1 hSw
              replace hSw : Below W.heap.size W w1 := hSw
              have hcD := conv_any (c := c) (H4.out.2.2.1.up hSw)
              go_simp
              (try with_reducible rfl)
            (try simp only [Act.put, List.getElem_toArray, List.getElem_cons_zero, List.getElem_cons_succ, List.setIfInBounds_toArray, List.set_cons_zero, List.set_cons_succ])
            refine wpAnyH_take (i := 1) (v := ?_) rfl (by decide +kernel) (by decide +kernel) (by decide +kernel) (fun _ _ _ h => h) (Or.inl ⟨by rfl, ?hy⟩) hcur ?_
            case hy =>
              intro w1 hSw
              replace hSw : Below W.heap.size W w1 := hSw
              have hcD := conv_any (c := c) (H4.out.2.2.1.up hSw)
              go_simp
              (try with_reducible rfl)
            (try simp only [Act.put, List.getElem_toArray, List.getElem_cons_zero, List.getElem_cons_succ, List.setIfInBounds_toArray, List.set_cons_zero, List.set_cons_succ])
            refine wpAnyH_take (i := 2) (v := ?_) rfl (by decide +kernel) (by decide +kernel) (by decide +kernel) (fun _ _ _ h => h) (Or.inl ⟨by rfl, ?hy⟩) hcur ?_
            case hy =>
              intro w1 hSw
              replace hSw : Below W.heap.size W w1 := hSw
              have hcD := conv_any (c := c) (H4.out.2.2.1.up hSw)
              go_simp
              (try with_reducible rfl)
            (try simp only [Act.put, List.getElem_toArray, List.getElem_cons_zero, List.getElem_cons_succ, List.setIfInBounds_toArray, List.set_cons_zero, List.set_cons_succ])
            refine wpAnyH_take (i := 3) (v := ?_) rfl (by decide +kernel) (by decide +kernel) (by decide +kernel) (fun _ _ _ h => h) (Or.inl ⟨by rfl, ?hy⟩) hcur ?_
            case hy =>
              intro w1 hSw
              replace hSw : Below W.heap.size W w1 := hSw
              have hcD := conv_any (c := c) (H4.out.2.2.1.up hSw)
              go_simp
              (try with_reducible rfl)
            (try simp only [Act.put, List.getElem_toArray, List.getElem_cons_zero, List.getElem_cons_succ, List.setIfInBounds_toArray, List.set_cons_zero, List.set_cons_succ])
            refine wpAnyH_take (i := 4) (v := ?_) rfl (by decide +kernel) (by decide +kernel) (by decide +kernel) (fun _ _ _ h => h) (Or.inl ⟨by rfl, ?hy⟩) hcur ?_
            case hy =>
              intro w1 hSw
              replace hSw : Below W.heap.size W w1 := hSw
              have hcD := conv_any (c := c) (H4.out.2.2.1.up hSw)
              go_simp
              (try with_reducible rfl)
            (try simp only [Act.put, List.getElem_toArray, List.getElem_cons_zero, List.getElem_cons_succ, List.setIfInBounds_toArray, List.set_cons_zero, List.set_cons_succ])
            refine wpAnyH_take (i := 7) (v := ?_) rfl (by decide +kernel) (by decide +kernel) (by decide +kernel) (fun _ _ _ h => h) (Or.inl ⟨by rfl, ?hy⟩) hcur ?_
            case hy =>
              intro w1 hSw
              replace hSw : Below W.heap.size W w1 := hSw
              have hcD := conv_any (c := c) (H4.out.2.2.1.up hSw)
              go_simp
              (try with_reducible rfl)
            (try simp only [Act.put, List.getElem_toArray, List.getElem_cons_zero, List.getElem_cons_succ, List.setIfInBounds_toArray, List.set_cons_zero, List.set_cons_succ])
            refine wpAnyH_take (i := 8) (v := ?_) rfl (by decide +kernel) (by decide +kernel) (by decide +kernel) (fun _ _ _ h => h) (Or.inl ⟨by rfl, ?hy⟩) hcur ?_
            case hy =>
              intro w1 hSw
              replace hSw : Below W.heap.size W w1 := hSw
              have hcD := conv_any (c := c) (H4.out.2.2.1.up hSw)
              go_simp
              (try with_reducible rfl)
            (try simp only [Act.put, List.getElem_toArray, List.getElem_cons_zero, List.getElem_cons_succ, List.setIfInBounds_toArray, List.set_cons_zero, List.set_cons_succ])
            refine wpAnyH_take (i := 9) (v := ?_) rfl (by decide +kernel) (by decide +kernel) (by decide +kernel) (fun _ _ _ h => h) (Or.inl ⟨by rfl, ?hy⟩) hcur ?_
            case hy =>
              intro w1 hSw
              replace hSw : Below W.heap.size W w1 := hSw
              have hcD := conv_any (c := c) (H4.out.2.2.1.up hSw)
              go_simp
              (try with_reducible rfl)
            (try simp only [Act.put, List.getElem_toArray, List.getElem_cons_zero, List.getElem_cons_succ, List.setIfInBounds_toArray, List.set_cons_zero, List.set_cons_succ])
            refine wpAnyH_take (i := 10) (v := ?_) rfl (by decide +kernel) (by decide +kernel) (by decide +kernel) (fun _ _ _ h => h) (Or.inl ⟨by rfl, ?hy⟩) hcur ?_
            case hy =>
              intro w1 hSw
              replace hSw : Below W.heap.size W w1 := hSw
              have hcD := conv_any (c := c) (H4.out.2.2.1.up hSw)
              go_simp
              (try with_reducible rfl)
            (try simp only [Act.put, List.getElem_toArray, List.getElem_cons_zero, List.getElem_cons_succ, List.setIfInBounds_toArray, List.set_cons_zero, List.set_cons_succ])
            refine wpAnyH_ready (rs := [5]) (by decide +kernel) (by simp) ?_
            refine AllReadyH.cons rfl (fun K hK => ?_) AllReadyH.nil
            go_simp
            refine (penbytes_any w2.heap.size r4 D _ (H4.out.1.below hcur) (by omega)).mono ?_
            rintro e wn ⟨A3, c3, rfl, ho3, hb3⟩
            go_wp2_with fail
            refine hK.out _ _ (below_of hcur hb3) (fun _ => ?_)
            clear hK K
            replace hcur := below_of hcur hb3
            (try simp only [Act.put, List.getElem_toArray, List.getElem_cons_zero, List.getElem_cons_succ, List.setIfInBounds_toArray, List.set_cons_zero, List.set_cons_succ])
            have hc2 := made_conv ho3
            refine wpAnyH_ready (rs := [6, 11]) (by decide +kernel) (by simp) ?_
            refine AllReadyH.cons rfl (fun K hK => ?_) (AllReadyH.cons rfl (fun K hK => ?_) AllReadyH.nil)
            · go_simp
              refine hK.out _ _ hcur (fun _ => ?_)
              clear hK K
              (try simp only [Act.put, List.getElem_toArray, List.getElem_cons_zero, List.getElem_cons_succ, List.setIfInBounds_toArray, List.set_cons_zero, List.set_cons_succ])
              refine wpAnyH_ready (rs := [11]) (by decide +kernel) (by simp) ?_
              refine AllReadyH.cons rfl (fun K hK => ?_) AllReadyH.nil
              go_simp
              refine (eyeleft_any wz.heap.size (srcOf A l) rest 0 _ (H4.out.2.1.below hcur) (by omega)).mono ?_
              rintro e wn2 ⟨rfl, rfl⟩
              go_wp2_with fail
              refine hK.out _ _ hcur (fun _ => ?_)
              clear hK K
              (try simp only [Act.put, List.getElem_toArray, List.getElem_cons_zero, List.getElem_cons_succ, List.setIfInBounds_toArray, List.set_cons_zero, List.set_cons_succ])
              refine wpAnyH_take (i := 12) (v := ?_) rfl (by decide +kernel) (by decide +kernel) (by decide +kernel) (fun _ _ _ h => h) (Or.inl ⟨by rfl, ?hy⟩) hcur ?_
              case hy =>
                intro w1 hSw
                replace hSw : Below W.heap.size W w1 := hSw
                have hcD := conv_any (c := c) (H4.out.2.2.1.up hSw)
                go_simp
                (try with_reducible rfl)
              (try simp only [Act.put, List.getElem_toArray, List.getElem_cons_zero, List.getElem_cons_succ, List.setIfInBounds_toArray, List.set_cons_zero, List.set_cons_succ])
              refine wpAnyH_take (i := 13) (v := ?_) rfl (by decide +kernel) (by decide +kernel) (by decide +kernel) (fun _ _ _ h => h) (Or.inl ⟨by rfl, ?hy⟩) hcur ?_
              case hy =>
                intro w1 hSw
                replace hSw : Below W.heap.size W w1 := hSw
                have hcD := conv_any (c := c) (H4.out.2.2.1.up hSw)
                go_simp
                (try with_reducible rfl)
              (try simp only [Act.put, List.getElem_toArray, List.getElem_cons_zero, List.getElem_cons_succ, List.setIfInBounds_toArray, List.set_cons_zero, List.set_cons_succ])
              refine wpAnyH_take (i := 14) (v := ?_) rfl (by decide +kernel) (by decide +kernel) (by decide +kernel) (fun _ _ _ h => h) (Or.inl ⟨by rfl, ?hy⟩) hcur ?_
              case hy =>
                intro w1 hSw
                replace hSw : Below W.heap.size W w1 := hSw
                have hcD := conv_any (c := c) (H4.out.2.2.1.up hSw)
                go_simp
                (try with_reducible rfl)
              (try simp only [Act.put, List.getElem_toArray, List.getElem_cons_zero, List.getElem_cons_succ, List.setIfInBounds_toArray, List.set_cons_zero, List.set_cons_succ])
              refine wpAnyH_take (i := 15) (v := ?_) rfl (by decide +kernel) (by decide +kernel) (by decide +kernel) (fun _ _ _ h => h) (Or.inl ⟨by rfl, ?hy⟩) hcur ?_
              case hy =>
                intro w1 hSw
                replace hSw : Below W.heap.size W w1 := hSw
                have hcD := conv_any (c := c) (H4.out.2.2.1.up hSw)
                go_simp
                (try with_reducible rfl)
              (try simp only [Act.put, List.getElem_toArray, List.getElem_cons_zero, List.getElem_cons_succ, List.setIfInBounds_toArray, List.set_cons_zero, List.set_cons_succ])
              refine wpAnyH_take (i := 16) (v := ?_) rfl (by decide +kernel) (by decide +kernel) (by decide +kernel) (fun _ _ _ h => h) (Or.inl ⟨by rfl, ?hy⟩) hcur ?_
              case hy =>
                intro w1 hSw
                replace hSw : Below W.heap.size W w1 := hSw
                have hcD := conv_any (c := c) (H4.out.2.2.1.up hSw)
                go_simp
                (try with_reducible rfl)
              (try simp only [Act.put, List.getElem_toArray, List.getElem_cons_zero, List.getElem_cons_succ, List.setIfInBounds_toArray, List.set_cons_zero, List.set_cons_succ])
              refine wpAnyH_done (by decide +kernel) ?_ _
              go_wp2_with fail
              go_meet
              exact ⟨rfl, hcur⟩
            · go_simp
              refine (eyeleft_any wz.heap.size (srcOf A l) rest 0 _ (H4.out.2.1.below hcur) (by omega)).mono ?_
              rintro e wn2 ⟨rfl, rfl⟩
              go_wp2_with fail
              refine hK.out _ _ hcur (fun _ => ?_)
              clear hK K
              (try simp only [Act.put, List.getElem_toArray, List.getElem_cons_zero, List.getElem_cons_succ, List.setIfInBounds_toArray, List.set_cons_zero, List.set_cons_succ])
              refine wpAnyH_take (i := 12) (v := ?_) rfl (by decide +kernel) (by decide +kernel) (by decide +kernel) (fun _ _ _ h => h) (Or.inl ⟨by rfl, ?hy⟩) hcur ?_
              case hy =>
                intro w1 hSw
                replace hSw : Below W.heap.size W w1 := hSw
                have hcD := conv_any (c := c) (H4.out.2.2.1.up hSw)
                go_simp
                (try with_reducible rfl)
              (try simp only [Act.put, List.getElem_toArray, List.getElem_cons_zero, List.getElem_cons_succ, List.setIfInBounds_toArray, List.set_cons_zero, List.set_cons_succ])
              refine wpAnyH_take (i := 13) (v := ?_) rfl (by decide +kernel) (by decide +kernel) (by decide +kernel) (fun _ _ _ h => h) (Or.inl ⟨by rfl, ?hy⟩) hcur ?_
              case hy =>
                intro w1 hSw
                replace hSw : Below W.heap.size W w1 := hSw
                have hcD := conv_any (c := c) (H4.out.2.2.1.up hSw)
                go_simp
                (try with_reducible rfl)
              (try simp only [Act.put, List.getElem_toArray, List.getElem_cons_zero, List.getElem_cons_succ, List.setIfInBounds_toArray, List.set_cons_zero, List.set_cons_succ])
              refine wpAnyH_take (i := 14) (v := ?_) rfl (by decide +kernel) (by decide +kernel) (by decide +kernel) (fun _ _ _ h => h) (Or.inl ⟨by rfl, ?hy⟩) hcur ?_
              case hy =>
                intro w1 hSw
                replace hSw : Below W.heap.size W w1 := hSw
                have hcD := conv_any (c := c) (H4.out.2.2.1.up hSw)
                go_simp
                (try with_reducible rfl)
              (try simp only [Act.put, List.getElem_toArray, List.getElem_cons_zero, List.getElem_cons_succ, List.setIfInBounds_toArray, List.set_cons_zero, List.set_cons_succ])
              refine wpAnyH_ready (rs := [6]) (by decide +kernel) (by simp) ?_
              refine AllReadyH.cons rfl (fun K hK => ?_) AllReadyH.nil
              go_simp
              refine hK.out _ _ hcur (fun _ => ?_)
              clear hK K
              (try simp only [Act.put, List.getElem_toArray, List.getElem_cons_zero, List.getElem_cons_succ, List.setIfInBounds_toArray, List.set_cons_zero, List.set_cons_succ])
              refine wpAnyH_take (i := 15) (v := ?_) rfl (by decide +kernel) (by decide +kernel) (by decide +kernel) (fun _ _ _ h => h) (Or.inl ⟨by rfl, ?hy⟩) hcur ?_
              case hy =>
                intro w1 hSw
                replace hSw : Below W.heap.size W w1 := hSw
                have hcD := conv_any (c := c) (H4.out.2.2.1.up hSw)
                go_simp
                (try with_reducible rfl)
              (try simp only [Act.put, List.getElem_toArray, List.getElem_cons_zero, List.getElem_cons_succ, List.setIfInBounds_toArray, List.set_cons_zero, List.set_cons_succ])
              refine wpAnyH_take (i := 16) (v := ?_) rfl (by decide +kernel) (by decide +kernel) (by decide +kernel) (fun _ _ _ h => h) (Or.inl ⟨by rfl, ?hy⟩) hcur ?_
              case hy =>
                intro w1 hSw
                replace hSw : Below W.heap.size W w1 := hSw
                have hcD := conv_any (c := c) (H4.out.2.2.1.up hSw)
                go_simp
                (try with_reducible rfl)
              (try simp only [Act.put, List.getElem_toArray, List.getElem_cons_zero, List.getElem_cons_succ, List.setIfInBounds_toArray, List.set_cons_zero, List.set_cons_succ])
              refine wpAnyH_done (by decide +kernel) ?_ _
              go_wp2_with fail
              go_meet
              exact ⟨rfl, hcur⟩
          case rest =>
            obtain ⟨rfl, hbx⟩ := hcut
            have HBz := Lib.hid (below_of H4.out.2.2.2 hbx)
            clear hbx H4 H2
            go_wp2_with fail
            refine (lives01_any _).mono ?_
            rintro e w9 ⟨rfl, hb9⟩
            go_wp2_with fail
            go_ret
            exact ⟨rfl, below_of HBz.out hb9⟩
        · have hgb : (g == (0 : Int)) = false := by simp [hg]
          have HBz := Lib.hid H2.out.2.1
          clear H2 hg
          go_wp2_with fail
          refine (lives01_any _).mono ?_
          rintro e w9 ⟨rfl, hb9⟩
          go_wp2_with fail
          go_ret
          exact ⟨rfl, below_of HBz.out hb9⟩
    · have hgb : (g == (0 : Int)) = false := by simp [hg]
      have HBz := Lib.hid H2.out.2.1
      clear H2 hg
      go_wp2_with fail
      generalize w2 = wz at HBz ⊢
      have hwz : w.heap.size ≤ wz.heap.size := HBz.out.size
      have HRz := Lib.hid (HR.out.up HBz.out)
      refine (eyelook_any A c l wz HRz.out HC.out).mono ?_
      rintro e w5 ⟨rfl, hE, hb5⟩
      have HE5 := Lib.hid (And.intro hE (below_of HBz.out hb5))
      clear hE hb5 HBz HRz
      go_wp2_with fail
      refine (eyetext_any wz.heap.size _ l 0 most _ HE5.out.1 HX.out (by have := HL.out; omega) hm).mono ?_
      rintro e w2 ⟨rfl, hE, hO⟩
      have hB2 := hO.below HE5.out.2 HE5.out.2.size (fun j hj e => by omega)
      have hfine := eyeTxt_fine (top := most) HX.out
      have hE1 := HE5.out.1.lt
      generalize eyeTxt most l 0 = q at hE hfine ⊢
      obtain ⟨t, rest, g⟩ := q
      simp only [] at hE hfine ⊢
      have H2 := Lib.hid (And.intro hE (And.intro hB2 (And.intro hfine (Nat.lt_of_lt_of_le hE1 hO.size))))
      clear hE hO hB2 hfine hE1 HE5
      go_wp2_with fail
      refine (eyefault_any _ _ rest g _ H2.out.1).mono ?_
      rintro e w2 ⟨rfl, rfl⟩
      by_cases hg : g = 0
      · subst hg
        have HFE := Lib.hid (H2.out.2.2.1 rfl)
        have hlen0 := congrArg List.length HFE.out.1
        rw [List.length_append, List.length_append, tb_length] at hlen0
        have hts : t.size ≤ 1000 := by have := HL.out; omega
        have hts2 : t.size ≤ 9223372036854775807 := by omega
        have hmost : decide (most < (t.size : Int)) = false := decide_eq_false (by have := HFE.out.2; omega)
        have hpn := pen_new w2
        have hbn := below_alloc w2 (.cells #[.slice none 0 0] 40)
        have hsn : (w2.alloc (.cells #[.slice none 0 0] 40)).heap.size = w2.heap.size + 1 := by simp
        have H3 := Lib.hid (And.intro hpn (And.intro hbn hsn))
        clear hpn hbn hsn hlen0
        go_wp2_with fail
        generalize w2.alloc _ = w3 at H3 ⊢
        refine (pentext_any w2.heap.size none [] t _ H3.out.1 (by simp; omega)).mono ?_
        rintro e w4 ⟨rfl, r4, hrel⟩
        rw [show ([] ++ (dig t.size ++ tb t)) = dig t.size ++ tb t from rfl] at hrel
        have hw2 : w.heap.size ≤ w2.heap.size := H2.out.2.1.size
        have K := hrel.keeps (below_of H2.out.2.1 H3.out.2.1) (by have := H3.out.2.2; omega) hw2 (by simp)
        have hey := (H2.out.1.below H3.out.2.1).off hrel.2.1 (fun e => e.elim (fun e => by have := H2.out.2.2.2; omega) (fun e => by cases e)) (fun b hb e => e.elim (fun e => by have := Hsl.out b hb; omega) (fun e => by cases e))
        have hrd := (rd_first HR.out HFE.out.1).up K.1
        have hlen := congrArg List.length HFE.out.1
        rw [List.length_append] at hlen
        have H4 := Lib.hid (And.intro hrel.1 (And.intro hey (And.intro hrd K.1)))
        clear hey hrd K hrel H3 HFE
        generalize dig t.size ++ tb t = D at H4 hlen
        have HC2 := Lib.hid (show D.length ≤ c by have := HC.out; omega)
        have hDl : D.length ≤ 2000 := by have := HL.out; omega
        have s1 : IntKind.i64.wrap ((l.length : Int) - (rest.length : Int)) = (D.length : Int) := by rw [IntWalk.i64_in _ (by omega)]; omega
        have s2 : (D.length : Int) ≤ (c : Int) := by have := HC2.out; omega
        have hrl : rest.length ≤ 1000 := by have := HL.out; omega
        clear hlen
        go_upto_region 15 with fail
        generalize w4 = W at H4 ⊢
        go_cut [62] (fun s wx => s = .bool false ∧ Below W.heap.size W wx)
        case first =>
          refine wp_region_held_drew (S := fun w' => Below W.heap.size W w') (by kernel_rfl) (Below.drew (Below.refl _ _)) (fun hcur => ?_)
          replace hcur : Below W.heap.size W W.drew := hcur
          refine wpAnyH_take (i := 0) (v := ?_) rfl (by decide +kernel) (by decide +kernel) (by decide +kernel) (fun _ _ _ h => h) (Or.inl ⟨by rfl, ?hy⟩) hcur ?_
          case hy =>
            intro w1 hSw
            replace hSw : Below W.heap.size W w1 := hSw
            have hcD := conv_any (c := c) (H4.out.2.2.1.up hSw)
            go_simp
            (try with_reducible rfl)
          (try simp only [Act.put, List.getElem_toArray, List.getElem_cons_zero, List.getElem_cons_succ, List.setIfInBounds_toArray, List.set_cons_zero, List.set_cons_succ])
          refine wpAnyH_take (i := 1) (v := ?_) rfl (by decide +kernel) (by decide +kernel) (by decide +kernel) (fun _ _ _ h => h) (Or.inl ⟨by rfl, ?hy⟩) hcur ?_
          case hy =>
            intro w1 hSw
            replace hSw : Below W.heap.size W w1 := hSw
            have hcD := conv_any (c := c) (H4.out.2.2.1.up hSw)
            go_simp
            (try with_reducible rfl)
          (try simp only [Act.put, List.getElem_toArray, List.getElem_cons_zero, List.getElem_cons_succ, List.setIfInBounds_toArray, List.set_cons_zero, List.set_cons_succ])
          refine wpAnyH_take (i := 2) (v := ?_) rfl (by decide +kernel) (by decide +kernel) (by decide +kernel) (fun _ _ _ h => h) (Or.inl ⟨by rfl, ?hy⟩) hcur ?_
          case hy =>
            intro w1 hSw
            replace hSw : Below W.heap.size W w1 := hSw
            have hcD := conv_any (c := c) (H4.out.2.2.1.up hSw)
            go_simp
            (try with_reducible rfl)
          (try simp only [Act.put, List.getElem_toArray, List.getElem_cons_zero, List.getElem_cons_succ, List.setIfInBounds_toArray, List.set_cons_zero, List.set_cons_succ])
          refine wpAnyH_take (i := 3) (v := ?_) rfl (by decide +kernel) (by decide +kernel) (by decide +kernel) (fun _ _ _ h => h) (Or.inl ⟨by rfl, ?hy⟩) hcur ?_
          case hy =>
            intro w1 hSw
            replace hSw : Below W.heap.size W w1 := hSw
            have hcD := conv_any (c := c) (H4.out.2.2.1.up hSw)
            go_simp
            (try with_reducible rfl)
          (try simp only [Act.put, List.getElem_toArray, List.getElem_cons_zero, List.getElem_cons_succ, List.setIfInBounds_toArray, List.set_cons_zero, List.set_cons_succ])
          refine wpAnyH_take (i := 4) (v := ?_) rfl (by decide +kernel) (by decide +kernel) (by decide +kernel) (fun _ _ _ h => h) (Or.inl ⟨by rfl, ?hy⟩) hcur ?_
          case hy =>
            intro w1 hSw
            replace hSw : Below W.heap.size W w1 := hSw
            have hcD := conv_any (c := c) (H4.out.2.2.1.up hSw)
            go_simp
            (try with_reducible rfl)
          (try simp only [Act.put, List.getElem_toArray, List.getElem_cons_zero, List.getElem_cons_succ, List.setIfInBounds_toArray, List.set_cons_zero, List.set_cons_succ])
          refine wpAnyH_take (i := 7) (v := ?_) rfl (by decide +kernel) (by decide +kernel) (by decide +kernel) (fun _ _ _ h => h) (Or.inl ⟨by rfl, ?hy⟩) hcur ?_
          case hy =>
            intro w1 hSw
            replace hSw : Below W.heap.size W w1 := hSw
            have hcD := conv_any (c := c) (H4.out.2.2.1.up hSw)
            go_simp
            (try with_reducible rfl)
          (try simp only [Act.put, List.getElem_toArray, List.getElem_cons_zero, List.getElem_cons_succ, List.setIfInBounds_toArray, List.set_cons_zero, List.set_cons_succ])
          refine wpAnyH_take (i := 8) (v := ?_) rfl (by decide +kernel) (by decide +kernel) (by decide +kernel) (fun _ _ _ h => h) (Or.inl ⟨by rfl, ?hy⟩) hcur ?_
          case hy =>
            intro w1 hSw
            replace hSw : Below W.heap.size W w1 := hSw
            have hcD := conv_any (c := c) (H4.out.2.2.1.up hSw)
            go_simp
            (try with_reducible rfl)
          (try simp only [Act.put, List.getElem_toArray, List.getElem_cons_zero, List.getElem_cons_succ, List.setIfInBounds_toArray, List.set_cons_zero, List.set_cons_succ])
          refine wpAnyH_take (i := 9) (v := ?_) rfl (by decide +kernel) (by decide +kernel) (by decide +kernel) (fun _ _ _ h => h) (Or.inl ⟨by rfl, ?hy⟩) hcur ?_
          case hy =>
            intro w1 hSw
            replace hSw : Below W.heap.size W w1 := hSw
            have hcD := conv_any (c := c) (H4.out.2.2.1.up hSw)
            go_simp
            (try with_reducible rfl)
          (try simp only [Act.put, List.getElem_toArray, List.getElem_cons_zero, List.getElem_cons_succ, List.setIfInBounds_toArray, List.set_cons_zero, List.set_cons_succ])
          refine wpAnyH_take (i := 10) (v := ?_) rfl (by decide +kernel) (by decide +kernel) (by decide +kernel) (fun _ _ _ h => h) (Or.inl ⟨by rfl, ?hy⟩) hcur ?_
          case hy =>
            intro w1 hSw
            replace hSw : Below W.heap.size W w1 := hSw
            have hcD := conv_any (c := c) (H4.out.2.2.1.up hSw)
            go_simp
            (try with_reducible rfl)
          (try simp only [Act.put, List.getElem_toArray, List.getElem_cons_zero, List.getElem_cons_succ, List.setIfInBounds_toArray, List.set_cons_zero, List.set_cons_succ])
          refine wpAnyH_ready (rs := [5]) (by decide +kernel) (by simp) ?_
          refine AllReadyH.cons rfl (fun K hK => ?_) AllReadyH.nil
          go_simp
          refine (penbytes_any w2.heap.size r4 D _ (H4.out.1.below hcur) (by omega)).mono ?_
          rintro e wn ⟨A3, c3, rfl, ho3, hb3⟩
          go_wp2_with fail
          refine hK.out _ _ (below_of hcur hb3) (fun _ => ?_)
          clear hK K
          replace hcur := below_of hcur hb3
          (try simp only [Act.put, List.getElem_toArray, List.getElem_cons_zero, List.getElem_cons_succ, List.setIfInBounds_toArray, List.set_cons_zero, List.set_cons_succ])
          have hc2 := made_conv ho3
          refine wpAnyH_ready (rs := [6, 11]) (by decide +kernel) (by simp) ?_
          refine AllReadyH.cons rfl (fun K hK => ?_) (AllReadyH.cons rfl (fun K hK => ?_) AllReadyH.nil)
          · go_simp
            refine hK.out _ _ hcur (fun _ => ?_)
            clear hK K
            (try simp only [Act.put, List.getElem_toArray, List.getElem_cons_zero, List.getElem_cons_succ, List.setIfInBounds_toArray, List.set_cons_zero, List.set_cons_succ])
            refine wpAnyH_ready (rs := [11]) (by decide +kernel) (by simp) ?_
            refine AllReadyH.cons rfl (fun K hK => ?_) AllReadyH.nil
            go_simp
            refine (eyeleft_any wz.heap.size (srcOf A l) rest 0 _ (H4.out.2.1.below hcur) (by omega)).mono ?_
            rintro e wn2 ⟨rfl, rfl⟩
            go_wp2_with fail
            refine hK.out _ _ hcur (fun _ => ?_)
            clear hK K
            (try simp only [Act.put, List.getElem_toArray, List.getElem_cons_zero, List.getElem_cons_succ, List.setIfInBounds_toArray, List.set_cons_zero, List.set_cons_succ])
            refine wpAnyH_take (i := 12) (v := ?_) rfl (by decide +kernel) (by decide +kernel) (by decide +kernel) (fun _ _ _ h => h) (Or.inl ⟨by rfl, ?hy⟩) hcur ?_
            case hy =>
              intro w1 hSw
              replace hSw : Below W.heap.size W w1 := hSw
              have hcD := conv_any (c := c) (H4.out.2.2.1.up hSw)
              go_simp
              (try with_reducible rfl)
            (try simp only [Act.put, List.getElem_toArray, List.getElem_cons_zero, List.getElem_cons_succ, List.setIfInBounds_toArray, List.set_cons_zero, List.set_cons_succ])
            refine wpAnyH_take (i := 13) (v := ?_) rfl (by decide +kernel) (by decide +kernel) (by decide +kernel) (fun _ _ _ h => h) (Or.inl ⟨by rfl, ?hy⟩) hcur ?_
            case hy =>
              intro w1 hSw
              replace hSw : Below W.heap.size W w1 := hSw
              have hcD := conv_any (c := c) (H4.out.2.2.1.up hSw)
              go_simp
              (try with_reducible rfl)
            (try simp only [Act.put, List.getElem_toArray, List.getElem_cons_zero, List.getElem_cons_succ, List.setIfInBounds_toArray, List.set_cons_zero, List.set_cons_succ])
            refine wpAnyH_take (i := 14) (v := ?_) rfl (by decide +kernel) (by decide +kernel) (by decide +kernel) (fun _ _ _ h => h) (Or.inl ⟨by rfl, ?hy⟩) hcur ?_
            case hy =>
              intro w1 hSw
              replace hSw : Below W.heap.size W w1 := hSw
              have hcD := conv_any (c := c) (H4.out.2.2.1.up hSw)
              go_simp
              (try with_reducible rfl)
            (try simp only [Act.put, List.getElem_toArray, List.getElem_cons_zero, List.getElem_cons_succ, List.setIfInBounds_toArray, List.set_cons_zero, List.set_cons_succ])
            refine wpAnyH_take (i := 15) (v := ?_) rfl (by decide +kernel) (by decide +kernel) (by decide +kernel) (fun _ _ _ h => h) (Or.inl ⟨by rfl, ?hy⟩) hcur ?_
            case hy =>
              intro w1 hSw
              replace hSw : Below W.heap.size W w1 := hSw
              have hcD := conv_any (c := c) (H4.out.2.2.1.up hSw)
              go_simp
              (try with_reducible rfl)
            (try simp only [Act.put, List.getElem_toArray, List.getElem_cons_zero, List.getElem_cons_succ, List.setIfInBounds_toArray, List.set_cons_zero, List.set_cons_succ])
            refine wpAnyH_take (i := 16) (v := ?_) rfl (by decide +kernel) (by decide +kernel) (by decide +kernel) (fun _ _ _ h => h) (Or.inl ⟨by rfl, ?hy⟩) hcur ?_
            case hy =>
              intro w1 hSw
              replace hSw : Below W.heap.size W w1 := hSw
              have hcD := conv_any (c := c) (H4.out.2.2.1.up hSw)
              go_simp
              (try with_reducible rfl)
            (try simp only [Act.put, List.getElem_toArray, List.getElem_cons_zero, List.getElem_cons_succ, List.setIfInBounds_toArray, List.set_cons_zero, List.set_cons_succ])
            refine wpAnyH_done (by decide +kernel) ?_ _
            go_wp2_with fail
            go_meet
            exact ⟨rfl, hcur⟩
          · go_simp
            refine (eyeleft_any wz.heap.size (srcOf A l) rest 0 _ (H4.out.2.1.below hcur) (by omega)).mono ?_
            rintro e wn2 ⟨rfl, rfl⟩
            go_wp2_with fail
            refine hK.out _ _ hcur (fun _ => ?_)
            clear hK K
            (try simp only [Act.put, List.getElem_toArray, List.getElem_cons_zero, List.getElem_cons_succ, List.setIfInBounds_toArray, List.set_cons_zero, List.set_cons_succ])
            refine wpAnyH_take (i := 12) (v := ?_) rfl (by decide +kernel) (by decide +kernel) (by decide +kernel) (fun _ _ _ h => h) (Or.inl ⟨by rfl, ?hy⟩) hcur ?_
            case hy =>
              intro w1 hSw
              replace hSw : Below W.heap.size W w1 := hSw
              have hcD := conv_any (c := c) (H4.out.2.2.1.up hSw)
              go_simp
              (try with_reducible rfl)
            (try simp only [Act.put, List.getElem_toArray, List.getElem_cons_zero, List.getElem_cons_succ, List.setIfInBounds_toArray, List.set_cons_zero, List.set_cons_succ])
            refine wpAnyH_take (i := 13) (v := ?_) rfl (by decide +kernel) (by decide +kernel) (by decide +kernel) (fun _ _ _ h => h) (Or.inl ⟨by rfl, ?hy⟩) hcur ?_
            case hy =>
              intro w1 hSw
              replace hSw : Below W.heap.size W w1 := hSw
              have hcD := conv_any (c := c) (H4.out.2.2.1.up hSw)
              go_simp
              (try with_reducible rfl)
            (try simp only [Act.put, List.getElem_toArray, List.getElem_cons_zero, List.getElem_cons_succ, List.setIfInBounds_toArray, List.set_cons_zero, List.set_cons_succ])
            refine wpAnyH_take (i := 14) (v := ?_) rfl (by decide +kernel) (by decide +kernel) (by decide +kernel) (fun _ _ _ h => h) (Or.inl ⟨by rfl, ?hy⟩) hcur ?_
            case hy =>
              intro w1 hSw
              replace hSw : Below W.heap.size W w1 := hSw
              have hcD := conv_any (c := c) (H4.out.2.2.1.up hSw)
              go_simp
              (try with_reducible rfl)
            (try simp only [Act.put, List.getElem_toArray, List.getElem_cons_zero, List.getElem_cons_succ, List.setIfInBounds_toArray, List.set_cons_zero, List.set_cons_succ])
            refine wpAnyH_ready (rs := [6]) (by decide +kernel) (by simp) ?_
            refine AllReadyH.cons rfl (fun K hK => ?_) AllReadyH.nil
            go_simp
            refine hK.out _ _ hcur (fun _ => ?_)
            clear hK K
            (try simp only [Act.put, List.getElem_toArray, List.getElem_cons_zero, List.getElem_cons_succ, List.setIfInBounds_toArray, List.set_cons_zero, List.set_cons_succ])
            refine wpAnyH_take (i := 15) (v := ?_) rfl (by decide +kernel) (by decide +kernel) (by decide +kernel) (fun _ _ _ h => h) (Or.inl ⟨by rfl, ?hy⟩) hcur ?_
            case hy =>
              intro w1 hSw
              replace hSw : Below W.heap.size W w1 := hSw
              have hcD := conv_any (c := c) (H4.out.2.2.1.up hSw)
              go_simp
              (try with_reducible rfl)
            (try simp only [Act.put, List.getElem_toArray, List.getElem_cons_zero, List.getElem_cons_succ, List.setIfInBounds_toArray, List.set_cons_zero, List.set_cons_succ])
            refine wpAnyH_take (i := 16) (v := ?_) rfl (by decide +kernel) (by decide +kernel) (by decide +kernel) (fun _ _ _ h => h) (Or.inl ⟨by rfl, ?hy⟩) hcur ?_
            case hy =>
              intro w1 hSw
              replace hSw : Below W.heap.size W w1 := hSw
              have hcD := conv_any (c := c) (H4.out.2.2.1.up hSw)
              go_simp
              (try with_reducible rfl)
            (try simp only [Act.put, List.getElem_toArray, List.getElem_cons_zero, List.getElem_cons_succ, List.setIfInBounds_toArray, List.set_cons_zero, List.set_cons_succ])
            refine wpAnyH_done (by decide +kernel) ?_ _
            go_wp2_with fail
            go_meet
            exact ⟨rfl, hcur⟩
        case rest =>
          obtain ⟨rfl, hbx⟩ := hcut
          have HBz := Lib.hid (below_of H4.out.2.2.2 hbx)
          clear hbx H4 H2
          go_wp2_with fail
          refine (lives01_any _).mono ?_
          rintro e w9 ⟨rfl, hb9⟩
          go_wp2_with fail
          go_ret
          exact ⟨rfl, below_of HBz.out hb9⟩
      · have hgb : (g == (0 : Int)) = false := by simp [hg]
        have HBz := Lib.hid H2.out.2.1
        clear H2 hg
        go_wp2_with fail
        refine (lives01_any _).mono ?_
        rintro e w9 ⟨rfl, hb9⟩
        go_wp2_with fail
        go_ret
        exact ⟨rfl, below_of HBz.out hb9⟩

theorem siponce_row (A : Option Addr) (c : Nat) (l : List Nat) (most : Int) (w : World) (h : Rd w w.heap.size 1 A l.length (u8s l)) (hx : ∀ x ∈ l, x < 256) (hc : l.length ≤ c) (hl : l.length ≤ 9223372036854775807) (hm : -9223372036854775808 ≤ most ∧ most ≤ 9223372036854775807) :
    Calls Try.prog 5 #[.slice A l.length c, .int .i64 most] w (Ret (.bool true) w) := siponce_any A c l most w h hx hc hl hm

end Go.Proofs.Ythbafbgnclpbpaa
