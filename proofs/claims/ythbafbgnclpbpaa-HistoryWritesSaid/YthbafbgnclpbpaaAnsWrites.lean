/- The law AnswerWrites: the walk. -/
import Derived.Test.YthbafbgnclpbpaaARead
import Derived.Test.YthbafbgnclpbpaaAns5
namespace Go.Proofs.Ythbafbgnclpbpaa
open Go.RowKit

theorem ret_kept {P : Program} {f : FuncId} {a : Array Value} {w : World} {v : Value} (h : Calls P f a w fun e w' => e = .returned v ∧ w' = w) : Calls P f a w (Ret v w) := by
  refine h.mono ?_
  rintro e w' ⟨rfl, rfl⟩
  exact ⟨rfl, Below.refl _ _⟩
theorem tb_lt (s : ByteArray) : ∀ b ∈ tb s, b < 256 := by
  intro b hb
  simp [tb] at hb
  obtain ⟨u, _, rfl⟩ := hb
  exact u.toNat_lt
theorem tx_lt {s : ByteArray} (h : s.size ≤ maxLen) : ∀ b ∈ dig s.size ++ tb s, b < 256 := by
  intro b hb
  rw [List.mem_append] at hb
  rcases hb with hb | hb
  · exact dig_lt (by unfold maxLen at h; omega) b hb
  · exact tb_lt s b hb
theorem ansBytes_lt {a : AnsD} (h : AnsOk a) : ∀ b ∈ ansBytes a, b < 256 := by
  intro b hb
  unfold ansBytes at hb
  split at hb
  · rename_i hs
    have hc := sndA_code hs
    rw [List.mem_append] at hb
    rcases hb with hb | hb
    · unfold ansHead at hb
      rw [List.mem_append, List.mem_append (s := dig a.key.size ++ tb a.key), List.mem_append (s := dig a.val)] at hb
      rcases hb with hb | hb | hb | hb
      · exact dig_lt (by omega) b hb
      · exact tx_lt h.key b hb
      · exact dig_lt h.val b hb
      · exact dig_lt (by have := h.len; omega) b hb
    · rw [List.mem_flatMap] at hb
      obtain ⟨p, hp, hb⟩ := hb
      unfold prBytes at hb
      rw [List.mem_append] at hb
      rcases hb with hb | hb
      · exact tx_lt (h.pairs p hp).1 b hb
      · exact dig_lt (h.pairs p hp).2 b hb
  · simp at hb; omega
theorem ansBytes_len {a : AnsD} (h : lightA a = true) : (ansBytes a).length ≤ 20000 := by
  have hl := lightA_spec h
  unfold ansBytes
  split
  · have h1 := prs_len a.pairs hl.1
    unfold ansHead
    simp only [List.length_append]
    have := dig_len a.code.toNat
    have := dig_len a.key.size
    have := tb_length a.key
    have := dig_len a.val
    have := dig_len a.pairs.length
    omega
  · simp

set_option maxRecDepth 100000 in
set_option maxHeartbeats 16000000 in
theorem answerwrites_any (a : AnsD) (A : Option Addr) (c : Nat) (w : World) (h : Prs w A a.pairs.length a.pairs) (ha : AnsOk a) :
    Calls Try.prog 9 #[.agg (ansCells a A c)] w (Ret (.bool true) w) := by
  have hn := AnsAt.new w a A c 25
  have hb := below_alloc w (.cells (ansCells a A c) 25)
  have hz : w.heap.size < (w.alloc (.cells (ansCells a A c) 25)).heap.size := by simp
  have HP := Lib.hid (h.up hb)
  have HLi := Lib.hid (fun W (hW : Prs W A a.pairs.length a.pairs) => light17_any a A c W hW ha)
  have HWr := Lib.hid (fun bp r (W : World) (hp : PenAt W bp r []) (hW : Prs W A a.pairs.length a.pairs) hf (hs : lightA a = true) => answrite_any bp r [] a A c W hp hW hf ha hs (by decide))
  have HRB := Lib.hid (fun W (hW : Prs W A a.pairs.length a.pairs) (hs : lightA a = true) => refbytes17_any a A c W hW ha hs)
  have HSo := Lib.hid (fun W (hW : Prs W A a.pairs.length a.pairs) => refsound17_any a A c W hW ha)
  have hsb : ansB a a = true := by simp [ansB]
  have HSa := Lib.hid (fun W (B : Option Addr) (d : Nat) (hW : Prs W A a.pairs.length a.pairs) (hB : Prs W B a.pairs.length a.pairs) => Calls.as_ (anssame_any a a A B c d W hW hB ha.len) (congrArg Value.bool hsb))
  have HBl := Lib.hid (ansBytes_lt ha)
  have HBn := Lib.hid (ansBytes_len (a := a))
  have hgood := fun hs : sndA a = true => ansRd_good hs ha []
  have hbad := fun hs : sndA a = false => ansRd_bad hs
  rw [List.append_nil] at hgood
  simp only [List.nil_append] at HWr
  clear h ha
  generalize sndA a = s at HSo hgood hbad
  generalize ansBytes a = D at HWr HRB HBl HBn hgood hbad
  cases hli : lightA a
  · rw [hli] at HLi
    obtain ⟨code, key, val, pairs⟩ := a
    simp only [ansCells] at hn hb hz HP HLi ⊢
    go_enter Try.func9, Try.ntmps9
    go_upto_region 1 with fail
    generalize w.alloc _ = W at hn hb hz HP ⊢
    obtain ⟨x0, x1, x2, x3⟩ := id hn
    simp only [] at x0 x1 x2 x3
    go_wp2_with fail
    refine (HLi.out _ HP.out).mono ?_
    rintro e wn ⟨rfl, hbn⟩
    have HB := Lib.hid (below_of hb hbn)
    clear x0 x1 x2 x3 hbn
    go_wp2_with fail
    refine (lives17_any _).mono ?_
    rintro e w2 ⟨rfl, hb2⟩
    go_wp2_with fail
    go_ret
    exact ⟨rfl, below_of HB.out hb2⟩
  · rw [hli] at HLi
    have hDl := HBn.out hli
    have HLI := Lib.hid hli
    have HRD := Lib.hid (fun ep sb W hE hs => ansread_any ep sb D 0 W hE HBl.out (by omega) hs)
    have HG := Lib.hid (And.intro hgood hbad)
    clear hli hgood hbad HBn
    generalize ansRd D 0 = q at HRD HG
    obtain ⟨ok, b, rest, f⟩ := q
    simp only [] at HRD HG
    cases s
    · obtain rfl : ok = false := HG.out.2 rfl
      clear HSa
      obtain ⟨code, key, val, pairs⟩ := a
      obtain ⟨code', key', val', pairs'⟩ := b
      simp only [ansCells] at hn hb hz HP HLi HWr HRB HSo HRD ⊢
      go_enter Try.func9, Try.ntmps9
      go_upto_region 1 with fail
      generalize w.alloc _ = W0 at hn hb hz HP ⊢
      obtain ⟨x0, x1, x2, x3⟩ := id hn
      simp only [] at x0 x1 x2 x3
      go_wp2_with fail
      refine (HLi.out _ HP.out).mono ?_
      rintro e Wb ⟨rfl, hbn⟩
      have HB := Lib.hid (below_of hb hbn)
      replace hn := hn.up hbn hz
      replace hz := Nat.lt_of_lt_of_le hz hbn.size
      replace HP := Lib.hid (HP.out.up hbn)
      have hp2 := pen_new Wb
      have hb2 := below_alloc Wb (.cells #[.slice none 0 0] 40)
      have H2 := Lib.hid (And.intro hp2 hb2)
      have hfar : Hid (0 < pairs.length → ∀ q, A = some q → ¬ penS Wb.heap.size none q.block) := Lib.hid (fun h0 q e => by
        obtain ⟨b, off, e2, hbl, _⟩ := HP.out.2 h0
        rw [e] at e2
        injection e2 with e2
        subst e2
        rintro (e3 | e3)
        · simp only [] at e3; omega
        · cases e3)
      clear x0 x1 x2 x3 hbn hb hp2 hb2
      go_upto_region 4 with fail
      generalize Wb.alloc _ = W1 at H2 ⊢
      obtain ⟨x0, x1, x2, x3⟩ := id (hn.up H2.out.2 hz)
      simp only [] at x0 x1 x2 x3
      go_wp2_with fail
      refine (HWr.out _ none _ H2.out.1 (HP.out.up H2.out.2) hfar.out HLI.out).mono ?_
      rintro e W2 ⟨rfl, r4, hrel⟩
      have K := PenRel.keeps (B := Wb.heap.size) H2.out.2 hrel H2.out.2.size (Nat.le_refl _) (by simp)
      have H3 := Lib.hid (And.intro hrel.1 K.1)
      clear hrel K H2 x0 x1 x2 x3 hfar
      go_wp2_with fail
      refine (penbytes_any Wb.heap.size r4 D _ H3.out.1 (by omega)).mono ?_
      rintro e W3 ⟨A3, c3, rfl, ho3, hb3⟩
      have HM := Lib.hid (And.intro (Rd.of_own ho3) (And.intro (owns_cap ho3) (below_of H3.out.2 hb3)))
      have H3b := Lib.hid (H3.out.1.below hb3)
      have HRT := Lib.hid (fun k (e : r4 = some k) => (H3b.out.lt.2 k e : k < W3.heap.size))
      clear ho3 hb3
      go_wp2_with fail
      have hsl := srcOf_lt HM.out.1
      refine (eyelook_any A3 c3 D _ HM.out.1 HM.out.2.1).mono ?_
      rintro e W4 ⟨rfl, hE, hb5⟩
      have hsz3 := HM.out.2.2.size
      have hs45 := hE.lt
      have H5 := Lib.hid (And.intro hE (And.intro (below_of HM.out.2.2 hb5) (And.intro (H3b.out.below hb5) (show Wb.heap.size < W3.heap.size by have := H3b.out.lt; omega))))
      clear hE hb5 H3 H3b
      go_wp2_with fail
      refine (HRD.out W3.heap.size (srcOf A3 D) _ H5.out.1 (fun b hb => by have := hsl b hb; omega)).mono ?_
      rintro e W5 ⟨A4, c4, rfl, hP4, hE4, hO4, -⟩
      have hax := AnsAt.new W5 ⟨code', key', val', pairs'⟩ A4 c4 25
      have hba := below_alloc W5 (.cells (ansCells ⟨code', key', val', pairs'⟩ A4 c4) 25)
      have hg5 : W5.heap.size < (W5.alloc (.cells (ansCells ⟨code', key', val', pairs'⟩ A4 c4) 25)).heap.size := by simp
      have hep3 := H5.out.2.2.2
      have hB5 := hO4.below H5.out.2.1 H5.out.2.1.size (fun j hj e => by omega)
      have hpen5 := H5.out.2.2.1.off hO4 (fun q hq e => by
        subst e
        rintro (e | e)
        · omega
        · have := HRT.out _ e.symm; omega)
      have HQ := Lib.hid (And.intro (below_of hB5 hba) (And.intro (hpen5.below hba) (And.intro (hE4.below hba) (And.intro (hP4.up hba) (And.intro hax hg5)))))
      clear hax hba hg5 hep3 hB5 hpen5 hP4 hE4 hO4 H5 HRT hsl hsz3 hs45 HM HRD HWr HLi
      simp only [ansCells] at HQ ⊢
      go_upto_region 7 with fail
      generalize W5.alloc _ = W at HQ ⊢
      generalize W5.heap.size = g5 at HQ ⊢
      refine wp_region_held_drew (S := fun w' => Below W.heap.size W w') (by kernel_rfl) (Below.drew (Below.refl _ _)) (fun hcur => ?_)
      replace hcur : Below W.heap.size W W.drew := hcur
      refine wpAnyH_take (i := 2) (v := ?_) rfl (by decide +kernel) (by decide +kernel) (by decide +kernel) (fun _ _ _ h => h) (Or.inl ⟨by rfl, ?hy⟩) hcur ?_
      case hy =>
        intro w1 hSw
        replace hSw : Below W.heap.size W w1 := hSw
        obtain ⟨x0, x1, x2, x3⟩ := hn.up (below_of HQ.out.1 hSw) hz
        simp only [] at x0 x1 x2 x3
        go_simp
        (try with_reducible rfl)
      (try simp only [Act.put, List.getElem_toArray, List.getElem_cons_zero, List.getElem_cons_succ, List.setIfInBounds_toArray, List.set_cons_zero, List.set_cons_succ])
      refine wpAnyH_ready (rs := [0]) (by decide +kernel) (by simp) ?_
      refine AllReadyH.cons rfl (fun K hK => ?_) AllReadyH.nil
      go_simp
      refine (penbytes_any Wb.heap.size r4 D _ (HQ.out.2.1.below hcur) (by omega)).mono ?_
      rintro e W8 ⟨A5, c5, rfl, ho5, hb5⟩
      have hc5 := made_conv ho5
      go_wp2_with fail
      refine hK.out _ _ (below_of hcur hb5) (fun _ => ?_)
      clear hK K
      replace hcur := below_of hcur hb5
      (try simp only [Act.put, List.getElem_toArray, List.getElem_cons_zero, List.getElem_cons_succ, List.setIfInBounds_toArray, List.set_cons_zero, List.set_cons_succ])
      refine wpAnyH_ready (rs := [1, 3]) (by decide +kernel) (by simp) ?_
      refine AllReadyH.cons rfl (fun K hK => ?_) (AllReadyH.cons rfl (fun K hK => ?_) AllReadyH.nil)
      · go_simp
        refine hK.out _ _ hcur (fun _ => ?_)
        clear hK K
        (try simp only [Act.put, List.getElem_toArray, List.getElem_cons_zero, List.getElem_cons_succ, List.setIfInBounds_toArray, List.set_cons_zero, List.set_cons_succ])
        refine wpAnyH_ready (rs := [3]) (by decide +kernel) (by simp) ?_
        refine AllReadyH.cons rfl (fun K hK => ?_) AllReadyH.nil
        go_simp
        refine (HRB.out _ (HP.out.up (below_of HQ.out.1 hcur)) HLI.out).mono ?_
        rintro e W9 ⟨A6, c6, rfl, ho6, hb6⟩
        have hc6 := made_conv ho6
        have hc7 := conv_any (c := c5) ((Rd.of_own ho5).up hb6)
        go_wp2_with fail
        refine hK.out _ _ (below_of hcur hb6) (fun _ => ?_)
        clear hK K
        replace hcur := below_of hcur hb6
        (try simp only [Act.put, List.getElem_toArray, List.getElem_cons_zero, List.getElem_cons_succ, List.setIfInBounds_toArray, List.set_cons_zero, List.set_cons_succ])
        refine wpAnyH_ready (rs := [4]) (by decide +kernel) (by simp) ?_
        refine AllReadyH.cons rfl (fun K hK => ?_) AllReadyH.nil
        go_simp
        refine hK.out _ _ hcur (fun _ => ?_)
        clear hK K
        (try simp only [Act.put, List.getElem_toArray, List.getElem_cons_zero, List.getElem_cons_succ, List.setIfInBounds_toArray, List.set_cons_zero, List.set_cons_succ])
        refine wpAnyH_take (i := 5) (v := ?_) rfl (by decide +kernel) (by decide +kernel) (by decide +kernel) (fun _ _ _ h => h) (Or.inl ⟨by rfl, ?hy⟩) hcur ?_
        case hy =>
          intro w1 hSw
          replace hSw : Below W.heap.size W w1 := hSw
          obtain ⟨x0, x1, x2, x3⟩ := hn.up (below_of HQ.out.1 hSw) hz
          simp only [] at x0 x1 x2 x3
          go_simp
          (try with_reducible rfl)
        (try simp only [Act.put, List.getElem_toArray, List.getElem_cons_zero, List.getElem_cons_succ, List.setIfInBounds_toArray, List.set_cons_zero, List.set_cons_succ])
        refine wpAnyH_take (i := 6) (v := ?_) rfl (by decide +kernel) (by decide +kernel) (by decide +kernel) (fun _ _ _ h => h) (Or.inl ⟨by rfl, ?hy⟩) hcur ?_
        case hy =>
          intro w1 hSw
          replace hSw : Below W.heap.size W w1 := hSw
          obtain ⟨x0, x1, x2, x3⟩ := hn.up (below_of HQ.out.1 hSw) hz
          simp only [] at x0 x1 x2 x3
          go_simp
          (try with_reducible rfl)
        (try simp only [Act.put, List.getElem_toArray, List.getElem_cons_zero, List.getElem_cons_succ, List.setIfInBounds_toArray, List.set_cons_zero, List.set_cons_succ])
        refine wpAnyH_take (i := 7) (v := ?_) rfl (by decide +kernel) (by decide +kernel) (by decide +kernel) (fun _ _ _ h => h) (Or.inl ⟨by rfl, ?hy⟩) hcur ?_
        case hy =>
          intro w1 hSw
          replace hSw : Below W.heap.size W w1 := hSw
          obtain ⟨x0, x1, x2, x3⟩ := hn.up (below_of HQ.out.1 hSw) hz
          simp only [] at x0 x1 x2 x3
          go_simp
          (try with_reducible rfl)
        (try simp only [Act.put, List.getElem_toArray, List.getElem_cons_zero, List.getElem_cons_succ, List.setIfInBounds_toArray, List.set_cons_zero, List.set_cons_succ])
        refine wpAnyH_take (i := 8) (v := ?_) rfl (by decide +kernel) (by decide +kernel) (by decide +kernel) (fun _ _ _ h => h) (Or.inl ⟨by rfl, ?hy⟩) hcur ?_
        case hy =>
          intro w1 hSw
          replace hSw : Below W.heap.size W w1 := hSw
          obtain ⟨x0, x1, x2, x3⟩ := hn.up (below_of HQ.out.1 hSw) hz
          simp only [] at x0 x1 x2 x3
          go_simp
          (try with_reducible rfl)
        (try simp only [Act.put, List.getElem_toArray, List.getElem_cons_zero, List.getElem_cons_succ, List.setIfInBounds_toArray, List.set_cons_zero, List.set_cons_succ])
        refine wpAnyH_ready (rs := [9]) (by decide +kernel) (by simp) ?_
        refine AllReadyH.cons rfl (fun K hK => ?_) AllReadyH.nil
        go_simp
        refine (HSo.out _ (HP.out.up (below_of HQ.out.1 hcur))).mono ?_
        rintro e wn ⟨rfl, hbn⟩
        go_wp2_with fail
        refine hK.out _ _ (below_of hcur hbn) (fun _ => ?_)
        clear hK K
        replace hcur := below_of hcur hbn
        clear hbn
        (try simp only [Act.put, List.getElem_toArray, List.getElem_cons_zero, List.getElem_cons_succ, List.setIfInBounds_toArray, List.set_cons_zero, List.set_cons_succ])
        refine wpAnyH_take (i := 10) (v := ?_) rfl (by decide +kernel) (by decide +kernel) (by decide +kernel) (fun _ _ _ h => h) (Or.inl ⟨by rfl, ?hy⟩) hcur ?_
        case hy =>
          intro w1 hSw
          replace hSw : Below W.heap.size W w1 := hSw
          obtain ⟨x0, x1, x2, x3⟩ := hn.up (below_of HQ.out.1 hSw) hz
          simp only [] at x0 x1 x2 x3
          go_simp
          (try with_reducible rfl)
        (try simp only [Act.put, List.getElem_toArray, List.getElem_cons_zero, List.getElem_cons_succ, List.setIfInBounds_toArray, List.set_cons_zero, List.set_cons_succ])
        refine wpAnyH_take (i := 11) (v := ?_) rfl (by decide +kernel) (by decide +kernel) (by decide +kernel) (fun _ _ _ h => h) (Or.inl ⟨by rfl, ?hy⟩) hcur ?_
        case hy =>
          intro w1 hSw
          replace hSw : Below W.heap.size W w1 := hSw
          obtain ⟨x0, x1, x2, x3⟩ := hn.up (below_of HQ.out.1 hSw) hz
          simp only [] at x0 x1 x2 x3
          go_simp
          (try with_reducible rfl)
        (try simp only [Act.put, List.getElem_toArray, List.getElem_cons_zero, List.getElem_cons_succ, List.setIfInBounds_toArray, List.set_cons_zero, List.set_cons_succ])
        refine wpAnyH_done (by decide +kernel) ?_ _
        go_wp2_with fail
        refine (lives17_any _).mono ?_
        rintro e w9 ⟨rfl, hb9⟩
        go_wp2_with fail
        go_ret
        exact ⟨rfl, below_of HB.out (below_of (HQ.out.1.trans (hcur.mono HQ.out.1.size)) hb9)⟩
      · go_simp
        refine (HRB.out _ (HP.out.up (below_of HQ.out.1 hcur)) HLI.out).mono ?_
        rintro e W9 ⟨A6, c6, rfl, ho6, hb6⟩
        have hc6 := made_conv ho6
        have hc7 := conv_any (c := c5) ((Rd.of_own ho5).up hb6)
        go_wp2_with fail
        refine hK.out _ _ (below_of hcur hb6) (fun _ => ?_)
        clear hK K
        replace hcur := below_of hcur hb6
        (try simp only [Act.put, List.getElem_toArray, List.getElem_cons_zero, List.getElem_cons_succ, List.setIfInBounds_toArray, List.set_cons_zero, List.set_cons_succ])
        refine wpAnyH_ready (rs := [1, 4]) (by decide +kernel) (by simp) ?_
        refine AllReadyH.cons rfl (fun K hK => ?_) (AllReadyH.cons rfl (fun K hK => ?_) AllReadyH.nil)
        · go_simp
          refine hK.out _ _ hcur (fun _ => ?_)
          clear hK K
          (try simp only [Act.put, List.getElem_toArray, List.getElem_cons_zero, List.getElem_cons_succ, List.setIfInBounds_toArray, List.set_cons_zero, List.set_cons_succ])
          refine wpAnyH_ready (rs := [4]) (by decide +kernel) (by simp) ?_
          refine AllReadyH.cons rfl (fun K hK => ?_) AllReadyH.nil
          go_simp
          refine hK.out _ _ hcur (fun _ => ?_)
          clear hK K
          (try simp only [Act.put, List.getElem_toArray, List.getElem_cons_zero, List.getElem_cons_succ, List.setIfInBounds_toArray, List.set_cons_zero, List.set_cons_succ])
          refine wpAnyH_take (i := 5) (v := ?_) rfl (by decide +kernel) (by decide +kernel) (by decide +kernel) (fun _ _ _ h => h) (Or.inl ⟨by rfl, ?hy⟩) hcur ?_
          case hy =>
            intro w1 hSw
            replace hSw : Below W.heap.size W w1 := hSw
            obtain ⟨x0, x1, x2, x3⟩ := hn.up (below_of HQ.out.1 hSw) hz
            simp only [] at x0 x1 x2 x3
            go_simp
            (try with_reducible rfl)
          (try simp only [Act.put, List.getElem_toArray, List.getElem_cons_zero, List.getElem_cons_succ, List.setIfInBounds_toArray, List.set_cons_zero, List.set_cons_succ])
          refine wpAnyH_take (i := 6) (v := ?_) rfl (by decide +kernel) (by decide +kernel) (by decide +kernel) (fun _ _ _ h => h) (Or.inl ⟨by rfl, ?hy⟩) hcur ?_
          case hy =>
            intro w1 hSw
            replace hSw : Below W.heap.size W w1 := hSw
            obtain ⟨x0, x1, x2, x3⟩ := hn.up (below_of HQ.out.1 hSw) hz
            simp only [] at x0 x1 x2 x3
            go_simp
            (try with_reducible rfl)
          (try simp only [Act.put, List.getElem_toArray, List.getElem_cons_zero, List.getElem_cons_succ, List.setIfInBounds_toArray, List.set_cons_zero, List.set_cons_succ])
          refine wpAnyH_take (i := 7) (v := ?_) rfl (by decide +kernel) (by decide +kernel) (by decide +kernel) (fun _ _ _ h => h) (Or.inl ⟨by rfl, ?hy⟩) hcur ?_
          case hy =>
            intro w1 hSw
            replace hSw : Below W.heap.size W w1 := hSw
            obtain ⟨x0, x1, x2, x3⟩ := hn.up (below_of HQ.out.1 hSw) hz
            simp only [] at x0 x1 x2 x3
            go_simp
            (try with_reducible rfl)
          (try simp only [Act.put, List.getElem_toArray, List.getElem_cons_zero, List.getElem_cons_succ, List.setIfInBounds_toArray, List.set_cons_zero, List.set_cons_succ])
          refine wpAnyH_take (i := 8) (v := ?_) rfl (by decide +kernel) (by decide +kernel) (by decide +kernel) (fun _ _ _ h => h) (Or.inl ⟨by rfl, ?hy⟩) hcur ?_
          case hy =>
            intro w1 hSw
            replace hSw : Below W.heap.size W w1 := hSw
            obtain ⟨x0, x1, x2, x3⟩ := hn.up (below_of HQ.out.1 hSw) hz
            simp only [] at x0 x1 x2 x3
            go_simp
            (try with_reducible rfl)
          (try simp only [Act.put, List.getElem_toArray, List.getElem_cons_zero, List.getElem_cons_succ, List.setIfInBounds_toArray, List.set_cons_zero, List.set_cons_succ])
          refine wpAnyH_ready (rs := [9]) (by decide +kernel) (by simp) ?_
          refine AllReadyH.cons rfl (fun K hK => ?_) AllReadyH.nil
          go_simp
          refine (HSo.out _ (HP.out.up (below_of HQ.out.1 hcur))).mono ?_
          rintro e wn ⟨rfl, hbn⟩
          go_wp2_with fail
          refine hK.out _ _ (below_of hcur hbn) (fun _ => ?_)
          clear hK K
          replace hcur := below_of hcur hbn
          clear hbn
          (try simp only [Act.put, List.getElem_toArray, List.getElem_cons_zero, List.getElem_cons_succ, List.setIfInBounds_toArray, List.set_cons_zero, List.set_cons_succ])
          refine wpAnyH_take (i := 10) (v := ?_) rfl (by decide +kernel) (by decide +kernel) (by decide +kernel) (fun _ _ _ h => h) (Or.inl ⟨by rfl, ?hy⟩) hcur ?_
          case hy =>
            intro w1 hSw
            replace hSw : Below W.heap.size W w1 := hSw
            obtain ⟨x0, x1, x2, x3⟩ := hn.up (below_of HQ.out.1 hSw) hz
            simp only [] at x0 x1 x2 x3
            go_simp
            (try with_reducible rfl)
          (try simp only [Act.put, List.getElem_toArray, List.getElem_cons_zero, List.getElem_cons_succ, List.setIfInBounds_toArray, List.set_cons_zero, List.set_cons_succ])
          refine wpAnyH_take (i := 11) (v := ?_) rfl (by decide +kernel) (by decide +kernel) (by decide +kernel) (fun _ _ _ h => h) (Or.inl ⟨by rfl, ?hy⟩) hcur ?_
          case hy =>
            intro w1 hSw
            replace hSw : Below W.heap.size W w1 := hSw
            obtain ⟨x0, x1, x2, x3⟩ := hn.up (below_of HQ.out.1 hSw) hz
            simp only [] at x0 x1 x2 x3
            go_simp
            (try with_reducible rfl)
          (try simp only [Act.put, List.getElem_toArray, List.getElem_cons_zero, List.getElem_cons_succ, List.setIfInBounds_toArray, List.set_cons_zero, List.set_cons_succ])
          refine wpAnyH_done (by decide +kernel) ?_ _
          go_wp2_with fail
          refine (lives17_any _).mono ?_
          rintro e w9 ⟨rfl, hb9⟩
          go_wp2_with fail
          go_ret
          exact ⟨rfl, below_of HB.out (below_of (HQ.out.1.trans (hcur.mono HQ.out.1.size)) hb9)⟩
        · go_simp
          refine hK.out _ _ hcur (fun _ => ?_)
          clear hK K
          (try simp only [Act.put, List.getElem_toArray, List.getElem_cons_zero, List.getElem_cons_succ, List.setIfInBounds_toArray, List.set_cons_zero, List.set_cons_succ])
          refine wpAnyH_ready (rs := [1]) (by decide +kernel) (by simp) ?_
          refine AllReadyH.cons rfl (fun K hK => ?_) AllReadyH.nil
          go_simp
          refine hK.out _ _ hcur (fun _ => ?_)
          clear hK K
          (try simp only [Act.put, List.getElem_toArray, List.getElem_cons_zero, List.getElem_cons_succ, List.setIfInBounds_toArray, List.set_cons_zero, List.set_cons_succ])
          refine wpAnyH_take (i := 5) (v := ?_) rfl (by decide +kernel) (by decide +kernel) (by decide +kernel) (fun _ _ _ h => h) (Or.inl ⟨by rfl, ?hy⟩) hcur ?_
          case hy =>
            intro w1 hSw
            replace hSw : Below W.heap.size W w1 := hSw
            obtain ⟨x0, x1, x2, x3⟩ := hn.up (below_of HQ.out.1 hSw) hz
            simp only [] at x0 x1 x2 x3
            go_simp
            (try with_reducible rfl)
          (try simp only [Act.put, List.getElem_toArray, List.getElem_cons_zero, List.getElem_cons_succ, List.setIfInBounds_toArray, List.set_cons_zero, List.set_cons_succ])
          refine wpAnyH_take (i := 6) (v := ?_) rfl (by decide +kernel) (by decide +kernel) (by decide +kernel) (fun _ _ _ h => h) (Or.inl ⟨by rfl, ?hy⟩) hcur ?_
          case hy =>
            intro w1 hSw
            replace hSw : Below W.heap.size W w1 := hSw
            obtain ⟨x0, x1, x2, x3⟩ := hn.up (below_of HQ.out.1 hSw) hz
            simp only [] at x0 x1 x2 x3
            go_simp
            (try with_reducible rfl)
          (try simp only [Act.put, List.getElem_toArray, List.getElem_cons_zero, List.getElem_cons_succ, List.setIfInBounds_toArray, List.set_cons_zero, List.set_cons_succ])
          refine wpAnyH_take (i := 7) (v := ?_) rfl (by decide +kernel) (by decide +kernel) (by decide +kernel) (fun _ _ _ h => h) (Or.inl ⟨by rfl, ?hy⟩) hcur ?_
          case hy =>
            intro w1 hSw
            replace hSw : Below W.heap.size W w1 := hSw
            obtain ⟨x0, x1, x2, x3⟩ := hn.up (below_of HQ.out.1 hSw) hz
            simp only [] at x0 x1 x2 x3
            go_simp
            (try with_reducible rfl)
          (try simp only [Act.put, List.getElem_toArray, List.getElem_cons_zero, List.getElem_cons_succ, List.setIfInBounds_toArray, List.set_cons_zero, List.set_cons_succ])
          refine wpAnyH_take (i := 8) (v := ?_) rfl (by decide +kernel) (by decide +kernel) (by decide +kernel) (fun _ _ _ h => h) (Or.inl ⟨by rfl, ?hy⟩) hcur ?_
          case hy =>
            intro w1 hSw
            replace hSw : Below W.heap.size W w1 := hSw
            obtain ⟨x0, x1, x2, x3⟩ := hn.up (below_of HQ.out.1 hSw) hz
            simp only [] at x0 x1 x2 x3
            go_simp
            (try with_reducible rfl)
          (try simp only [Act.put, List.getElem_toArray, List.getElem_cons_zero, List.getElem_cons_succ, List.setIfInBounds_toArray, List.set_cons_zero, List.set_cons_succ])
          refine wpAnyH_ready (rs := [9]) (by decide +kernel) (by simp) ?_
          refine AllReadyH.cons rfl (fun K hK => ?_) AllReadyH.nil
          go_simp
          refine (HSo.out _ (HP.out.up (below_of HQ.out.1 hcur))).mono ?_
          rintro e wn ⟨rfl, hbn⟩
          go_wp2_with fail
          refine hK.out _ _ (below_of hcur hbn) (fun _ => ?_)
          clear hK K
          replace hcur := below_of hcur hbn
          clear hbn
          (try simp only [Act.put, List.getElem_toArray, List.getElem_cons_zero, List.getElem_cons_succ, List.setIfInBounds_toArray, List.set_cons_zero, List.set_cons_succ])
          refine wpAnyH_take (i := 10) (v := ?_) rfl (by decide +kernel) (by decide +kernel) (by decide +kernel) (fun _ _ _ h => h) (Or.inl ⟨by rfl, ?hy⟩) hcur ?_
          case hy =>
            intro w1 hSw
            replace hSw : Below W.heap.size W w1 := hSw
            obtain ⟨x0, x1, x2, x3⟩ := hn.up (below_of HQ.out.1 hSw) hz
            simp only [] at x0 x1 x2 x3
            go_simp
            (try with_reducible rfl)
          (try simp only [Act.put, List.getElem_toArray, List.getElem_cons_zero, List.getElem_cons_succ, List.setIfInBounds_toArray, List.set_cons_zero, List.set_cons_succ])
          refine wpAnyH_take (i := 11) (v := ?_) rfl (by decide +kernel) (by decide +kernel) (by decide +kernel) (fun _ _ _ h => h) (Or.inl ⟨by rfl, ?hy⟩) hcur ?_
          case hy =>
            intro w1 hSw
            replace hSw : Below W.heap.size W w1 := hSw
            obtain ⟨x0, x1, x2, x3⟩ := hn.up (below_of HQ.out.1 hSw) hz
            simp only [] at x0 x1 x2 x3
            go_simp
            (try with_reducible rfl)
          (try simp only [Act.put, List.getElem_toArray, List.getElem_cons_zero, List.getElem_cons_succ, List.setIfInBounds_toArray, List.set_cons_zero, List.set_cons_succ])
          refine wpAnyH_done (by decide +kernel) ?_ _
          go_wp2_with fail
          refine (lives17_any _).mono ?_
          rintro e w9 ⟨rfl, hb9⟩
          go_wp2_with fail
          go_ret
          exact ⟨rfl, below_of HB.out (below_of (HQ.out.1.trans (hcur.mono HQ.out.1.size)) hb9)⟩
    · have hq := HG.out.1 rfl
      simp only [Prod.mk.injEq] at hq
      obtain ⟨rfl, rfl, rfl, rfl⟩ := hq
      obtain ⟨code, key, val, pairs⟩ := b
      simp only [ansCells] at HSa
      simp only [ansCells] at hn hb hz HP HLi HWr HRB HSo HRD ⊢
      go_enter Try.func9, Try.ntmps9
      go_upto_region 1 with fail
      generalize w.alloc _ = W0 at hn hb hz HP ⊢
      obtain ⟨x0, x1, x2, x3⟩ := id hn
      simp only [] at x0 x1 x2 x3
      go_wp2_with fail
      refine (HLi.out _ HP.out).mono ?_
      rintro e Wb ⟨rfl, hbn⟩
      have HB := Lib.hid (below_of hb hbn)
      replace hn := hn.up hbn hz
      replace hz := Nat.lt_of_lt_of_le hz hbn.size
      replace HP := Lib.hid (HP.out.up hbn)
      have hp2 := pen_new Wb
      have hb2 := below_alloc Wb (.cells #[.slice none 0 0] 40)
      have H2 := Lib.hid (And.intro hp2 hb2)
      have hfar : Hid (0 < pairs.length → ∀ q, A = some q → ¬ penS Wb.heap.size none q.block) := Lib.hid (fun h0 q e => by
        obtain ⟨b, off, e2, hbl, _⟩ := HP.out.2 h0
        rw [e] at e2
        injection e2 with e2
        subst e2
        rintro (e3 | e3)
        · simp only [] at e3; omega
        · cases e3)
      clear x0 x1 x2 x3 hbn hb hp2 hb2
      go_upto_region 4 with fail
      generalize Wb.alloc _ = W1 at H2 ⊢
      obtain ⟨x0, x1, x2, x3⟩ := id (hn.up H2.out.2 hz)
      simp only [] at x0 x1 x2 x3
      go_wp2_with fail
      refine (HWr.out _ none _ H2.out.1 (HP.out.up H2.out.2) hfar.out HLI.out).mono ?_
      rintro e W2 ⟨rfl, r4, hrel⟩
      have K := PenRel.keeps (B := Wb.heap.size) H2.out.2 hrel H2.out.2.size (Nat.le_refl _) (by simp)
      have H3 := Lib.hid (And.intro hrel.1 K.1)
      clear hrel K H2 x0 x1 x2 x3 hfar
      go_wp2_with fail
      refine (penbytes_any Wb.heap.size r4 D _ H3.out.1 (by omega)).mono ?_
      rintro e W3 ⟨A3, c3, rfl, ho3, hb3⟩
      have HM := Lib.hid (And.intro (Rd.of_own ho3) (And.intro (owns_cap ho3) (below_of H3.out.2 hb3)))
      have H3b := Lib.hid (H3.out.1.below hb3)
      have HRT := Lib.hid (fun k (e : r4 = some k) => (H3b.out.lt.2 k e : k < W3.heap.size))
      clear ho3 hb3
      go_wp2_with fail
      have hsl := srcOf_lt HM.out.1
      refine (eyelook_any A3 c3 D _ HM.out.1 HM.out.2.1).mono ?_
      rintro e W4 ⟨rfl, hE, hb5⟩
      have hsz3 := HM.out.2.2.size
      have hs45 := hE.lt
      have H5 := Lib.hid (And.intro hE (And.intro (below_of HM.out.2.2 hb5) (And.intro (H3b.out.below hb5) (show Wb.heap.size < W3.heap.size by have := H3b.out.lt; omega))))
      clear hE hb5 H3 H3b
      go_wp2_with fail
      refine (HRD.out W3.heap.size (srcOf A3 D) _ H5.out.1 (fun b hb => by have := hsl b hb; omega)).mono ?_
      rintro e W5 ⟨A4, c4, rfl, hP4, hE4, hO4, -⟩
      have hax := AnsAt.new W5 ⟨code, key, val, pairs⟩ A4 c4 25
      have hba := below_alloc W5 (.cells (ansCells ⟨code, key, val, pairs⟩ A4 c4) 25)
      have hg5 : W5.heap.size < (W5.alloc (.cells (ansCells ⟨code, key, val, pairs⟩ A4 c4) 25)).heap.size := by simp
      have hep3 := H5.out.2.2.2
      have hB5 := hO4.below H5.out.2.1 H5.out.2.1.size (fun j hj e => by omega)
      have hpen5 := H5.out.2.2.1.off hO4 (fun q hq e => by
        subst e
        rintro (e | e)
        · omega
        · have := HRT.out _ e.symm; omega)
      have HQ := Lib.hid (And.intro (below_of hB5 hba) (And.intro (hpen5.below hba) (And.intro (hE4.below hba) (And.intro (hP4.up hba) (And.intro hax hg5)))))
      clear hax hba hg5 hep3 hB5 hpen5 hP4 hE4 hO4 H5 HRT hsl hsz3 hs45 HM HRD HWr HLi
      simp only [ansCells] at HQ ⊢
      go_upto_region 7 with fail
      generalize W5.alloc _ = W at HQ ⊢
      generalize W5.heap.size = g5 at HQ ⊢
      refine wp_region_held_drew (S := fun w' => Below W.heap.size W w') (by kernel_rfl) (Below.drew (Below.refl _ _)) (fun hcur => ?_)
      replace hcur : Below W.heap.size W W.drew := hcur
      refine wpAnyH_take (i := 2) (v := ?_) rfl (by decide +kernel) (by decide +kernel) (by decide +kernel) (fun _ _ _ h => h) (Or.inl ⟨by rfl, ?hy⟩) hcur ?_
      case hy =>
        intro w1 hSw
        replace hSw : Below W.heap.size W w1 := hSw
        obtain ⟨x0, x1, x2, x3⟩ := hn.up (below_of HQ.out.1 hSw) hz
        simp only [] at x0 x1 x2 x3
        go_simp
        (try with_reducible rfl)
      (try simp only [Act.put, List.getElem_toArray, List.getElem_cons_zero, List.getElem_cons_succ, List.setIfInBounds_toArray, List.set_cons_zero, List.set_cons_succ])
      refine wpAnyH_ready (rs := [0]) (by decide +kernel) (by simp) ?_
      refine AllReadyH.cons rfl (fun K hK => ?_) AllReadyH.nil
      go_simp
      refine (penbytes_any Wb.heap.size r4 D _ (HQ.out.2.1.below hcur) (by omega)).mono ?_
      rintro e W8 ⟨A5, c5, rfl, ho5, hb5⟩
      have hc5 := made_conv ho5
      go_wp2_with fail
      refine hK.out _ _ (below_of hcur hb5) (fun _ => ?_)
      clear hK K
      replace hcur := below_of hcur hb5
      (try simp only [Act.put, List.getElem_toArray, List.getElem_cons_zero, List.getElem_cons_succ, List.setIfInBounds_toArray, List.set_cons_zero, List.set_cons_succ])
      refine wpAnyH_ready (rs := [1, 3]) (by decide +kernel) (by simp) ?_
      refine AllReadyH.cons rfl (fun K hK => ?_) (AllReadyH.cons rfl (fun K hK => ?_) AllReadyH.nil)
      · go_simp
        refine hK.out _ _ hcur (fun _ => ?_)
        clear hK K
        (try simp only [Act.put, List.getElem_toArray, List.getElem_cons_zero, List.getElem_cons_succ, List.setIfInBounds_toArray, List.set_cons_zero, List.set_cons_succ])
        refine wpAnyH_ready (rs := [3]) (by decide +kernel) (by simp) ?_
        refine AllReadyH.cons rfl (fun K hK => ?_) AllReadyH.nil
        go_simp
        refine (HRB.out _ (HP.out.up (below_of HQ.out.1 hcur)) HLI.out).mono ?_
        rintro e W9 ⟨A6, c6, rfl, ho6, hb6⟩
        have hc6 := made_conv ho6
        have hc7 := conv_any (c := c5) ((Rd.of_own ho5).up hb6)
        go_wp2_with fail
        refine hK.out _ _ (below_of hcur hb6) (fun _ => ?_)
        clear hK K
        replace hcur := below_of hcur hb6
        (try simp only [Act.put, List.getElem_toArray, List.getElem_cons_zero, List.getElem_cons_succ, List.setIfInBounds_toArray, List.set_cons_zero, List.set_cons_succ])
        refine wpAnyH_ready (rs := [4]) (by decide +kernel) (by simp) ?_
        refine AllReadyH.cons rfl (fun K hK => ?_) AllReadyH.nil
        go_simp
        refine hK.out _ _ hcur (fun _ => ?_)
        clear hK K
        (try simp only [Act.put, List.getElem_toArray, List.getElem_cons_zero, List.getElem_cons_succ, List.setIfInBounds_toArray, List.set_cons_zero, List.set_cons_succ])
        refine wpAnyH_take (i := 5) (v := ?_) rfl (by decide +kernel) (by decide +kernel) (by decide +kernel) (fun _ _ _ h => h) (Or.inl ⟨by rfl, ?hy⟩) hcur ?_
        case hy =>
          intro w1 hSw
          replace hSw : Below W.heap.size W w1 := hSw
          obtain ⟨x0, x1, x2, x3⟩ := hn.up (below_of HQ.out.1 hSw) hz
          simp only [] at x0 x1 x2 x3
          go_simp
          (try with_reducible rfl)
        (try simp only [Act.put, List.getElem_toArray, List.getElem_cons_zero, List.getElem_cons_succ, List.setIfInBounds_toArray, List.set_cons_zero, List.set_cons_succ])
        refine wpAnyH_take (i := 6) (v := ?_) rfl (by decide +kernel) (by decide +kernel) (by decide +kernel) (fun _ _ _ h => h) (Or.inl ⟨by rfl, ?hy⟩) hcur ?_
        case hy =>
          intro w1 hSw
          replace hSw : Below W.heap.size W w1 := hSw
          obtain ⟨x0, x1, x2, x3⟩ := hn.up (below_of HQ.out.1 hSw) hz
          simp only [] at x0 x1 x2 x3
          go_simp
          (try with_reducible rfl)
        (try simp only [Act.put, List.getElem_toArray, List.getElem_cons_zero, List.getElem_cons_succ, List.setIfInBounds_toArray, List.set_cons_zero, List.set_cons_succ])
        refine wpAnyH_take (i := 7) (v := ?_) rfl (by decide +kernel) (by decide +kernel) (by decide +kernel) (fun _ _ _ h => h) (Or.inl ⟨by rfl, ?hy⟩) hcur ?_
        case hy =>
          intro w1 hSw
          replace hSw : Below W.heap.size W w1 := hSw
          obtain ⟨x0, x1, x2, x3⟩ := hn.up (below_of HQ.out.1 hSw) hz
          simp only [] at x0 x1 x2 x3
          go_simp
          (try with_reducible rfl)
        (try simp only [Act.put, List.getElem_toArray, List.getElem_cons_zero, List.getElem_cons_succ, List.setIfInBounds_toArray, List.set_cons_zero, List.set_cons_succ])
        refine wpAnyH_take (i := 8) (v := ?_) rfl (by decide +kernel) (by decide +kernel) (by decide +kernel) (fun _ _ _ h => h) (Or.inl ⟨by rfl, ?hy⟩) hcur ?_
        case hy =>
          intro w1 hSw
          replace hSw : Below W.heap.size W w1 := hSw
          obtain ⟨x0, x1, x2, x3⟩ := hn.up (below_of HQ.out.1 hSw) hz
          simp only [] at x0 x1 x2 x3
          go_simp
          (try with_reducible rfl)
        (try simp only [Act.put, List.getElem_toArray, List.getElem_cons_zero, List.getElem_cons_succ, List.setIfInBounds_toArray, List.set_cons_zero, List.set_cons_succ])
        refine wpAnyH_ready (rs := [9]) (by decide +kernel) (by simp) ?_
        refine AllReadyH.cons rfl (fun K hK => ?_) AllReadyH.nil
        go_simp
        refine (HSo.out _ (HP.out.up (below_of HQ.out.1 hcur))).mono ?_
        rintro e wn ⟨rfl, hbn⟩
        go_wp2_with fail
        refine hK.out _ _ (below_of hcur hbn) (fun _ => ?_)
        clear hK K
        replace hcur := below_of hcur hbn
        clear hbn
        (try simp only [Act.put, List.getElem_toArray, List.getElem_cons_zero, List.getElem_cons_succ, List.setIfInBounds_toArray, List.set_cons_zero, List.set_cons_succ])
        refine wpAnyH_take (i := 10) (v := ?_) rfl (by decide +kernel) (by decide +kernel) (by decide +kernel) (fun _ _ _ h => h) (Or.inl ⟨by rfl, ?hy⟩) hcur ?_
        case hy =>
          intro w1 hSw
          replace hSw : Below W.heap.size W w1 := hSw
          obtain ⟨x0, x1, x2, x3⟩ := hn.up (below_of HQ.out.1 hSw) hz
          simp only [] at x0 x1 x2 x3
          go_simp
          (try with_reducible rfl)
        (try simp only [Act.put, List.getElem_toArray, List.getElem_cons_zero, List.getElem_cons_succ, List.setIfInBounds_toArray, List.set_cons_zero, List.set_cons_succ])
        refine wpAnyH_take (i := 11) (v := ?_) rfl (by decide +kernel) (by decide +kernel) (by decide +kernel) (fun _ _ _ h => h) (Or.inl ⟨by rfl, ?hy⟩) hcur ?_
        case hy =>
          intro w1 hSw
          replace hSw : Below W.heap.size W w1 := hSw
          obtain ⟨x0, x1, x2, x3⟩ := hn.up (below_of HQ.out.1 hSw) hz
          simp only [] at x0 x1 x2 x3
          go_simp
          (try with_reducible rfl)
        (try simp only [Act.put, List.getElem_toArray, List.getElem_cons_zero, List.getElem_cons_succ, List.setIfInBounds_toArray, List.set_cons_zero, List.set_cons_succ])
        refine wpAnyH_done (by decide +kernel) ?_ _
        obtain ⟨x0, x1, x2, x3⟩ := hn.up (below_of HQ.out.1 hcur) hz
        obtain ⟨y0, y1, y2, y3⟩ := HQ.out.2.2.2.2.1.up hcur HQ.out.2.2.2.2.2
        simp only [] at x0 x1 x2 x3 y0 y1 y2 y3
        go_wp2_with fail
        refine (HSa.out _ A4 c4 (HP.out.up (below_of HQ.out.1 hcur)) (HQ.out.2.2.2.1.up hcur)).mono ?_
        rintro e w9 ⟨rfl, hb9⟩
        have hE9 := (HQ.out.2.2.1.below hcur).below hb9
        have H9 := Lib.hid (And.intro hE9 (below_of (HQ.out.1.trans (hcur.mono HQ.out.1.size)) hb9))
        clear hb9 hE9 x0 x1 x2 x3 y0 y1 y2 y3
        go_wp2_with fail
        refine (eyeclose_any W3.heap.size (srcOf A3 D) [] 0 _ H9.out.1 (by decide)).mono ?_
        rintro e w10 ⟨rfl, rfl⟩
        have hcl : eyeClose [] 0 = 0 := by decide
        rw [hcl]
        go_wp2_with fail
        refine (lives17_any _).mono ?_
        rintro e w11 ⟨rfl, hb11⟩
        go_wp2_with fail
        go_ret
        exact ⟨rfl, below_of HB.out (below_of H9.out.2 hb11)⟩
      · go_simp
        refine (HRB.out _ (HP.out.up (below_of HQ.out.1 hcur)) HLI.out).mono ?_
        rintro e W9 ⟨A6, c6, rfl, ho6, hb6⟩
        have hc6 := made_conv ho6
        have hc7 := conv_any (c := c5) ((Rd.of_own ho5).up hb6)
        go_wp2_with fail
        refine hK.out _ _ (below_of hcur hb6) (fun _ => ?_)
        clear hK K
        replace hcur := below_of hcur hb6
        (try simp only [Act.put, List.getElem_toArray, List.getElem_cons_zero, List.getElem_cons_succ, List.setIfInBounds_toArray, List.set_cons_zero, List.set_cons_succ])
        refine wpAnyH_ready (rs := [1, 4]) (by decide +kernel) (by simp) ?_
        refine AllReadyH.cons rfl (fun K hK => ?_) (AllReadyH.cons rfl (fun K hK => ?_) AllReadyH.nil)
        · go_simp
          refine hK.out _ _ hcur (fun _ => ?_)
          clear hK K
          (try simp only [Act.put, List.getElem_toArray, List.getElem_cons_zero, List.getElem_cons_succ, List.setIfInBounds_toArray, List.set_cons_zero, List.set_cons_succ])
          refine wpAnyH_ready (rs := [4]) (by decide +kernel) (by simp) ?_
          refine AllReadyH.cons rfl (fun K hK => ?_) AllReadyH.nil
          go_simp
          refine hK.out _ _ hcur (fun _ => ?_)
          clear hK K
          (try simp only [Act.put, List.getElem_toArray, List.getElem_cons_zero, List.getElem_cons_succ, List.setIfInBounds_toArray, List.set_cons_zero, List.set_cons_succ])
          refine wpAnyH_take (i := 5) (v := ?_) rfl (by decide +kernel) (by decide +kernel) (by decide +kernel) (fun _ _ _ h => h) (Or.inl ⟨by rfl, ?hy⟩) hcur ?_
          case hy =>
            intro w1 hSw
            replace hSw : Below W.heap.size W w1 := hSw
            obtain ⟨x0, x1, x2, x3⟩ := hn.up (below_of HQ.out.1 hSw) hz
            simp only [] at x0 x1 x2 x3
            go_simp
            (try with_reducible rfl)
          (try simp only [Act.put, List.getElem_toArray, List.getElem_cons_zero, List.getElem_cons_succ, List.setIfInBounds_toArray, List.set_cons_zero, List.set_cons_succ])
          refine wpAnyH_take (i := 6) (v := ?_) rfl (by decide +kernel) (by decide +kernel) (by decide +kernel) (fun _ _ _ h => h) (Or.inl ⟨by rfl, ?hy⟩) hcur ?_
          case hy =>
            intro w1 hSw
            replace hSw : Below W.heap.size W w1 := hSw
            obtain ⟨x0, x1, x2, x3⟩ := hn.up (below_of HQ.out.1 hSw) hz
            simp only [] at x0 x1 x2 x3
            go_simp
            (try with_reducible rfl)
          (try simp only [Act.put, List.getElem_toArray, List.getElem_cons_zero, List.getElem_cons_succ, List.setIfInBounds_toArray, List.set_cons_zero, List.set_cons_succ])
          refine wpAnyH_take (i := 7) (v := ?_) rfl (by decide +kernel) (by decide +kernel) (by decide +kernel) (fun _ _ _ h => h) (Or.inl ⟨by rfl, ?hy⟩) hcur ?_
          case hy =>
            intro w1 hSw
            replace hSw : Below W.heap.size W w1 := hSw
            obtain ⟨x0, x1, x2, x3⟩ := hn.up (below_of HQ.out.1 hSw) hz
            simp only [] at x0 x1 x2 x3
            go_simp
            (try with_reducible rfl)
          (try simp only [Act.put, List.getElem_toArray, List.getElem_cons_zero, List.getElem_cons_succ, List.setIfInBounds_toArray, List.set_cons_zero, List.set_cons_succ])
          refine wpAnyH_take (i := 8) (v := ?_) rfl (by decide +kernel) (by decide +kernel) (by decide +kernel) (fun _ _ _ h => h) (Or.inl ⟨by rfl, ?hy⟩) hcur ?_
          case hy =>
            intro w1 hSw
            replace hSw : Below W.heap.size W w1 := hSw
            obtain ⟨x0, x1, x2, x3⟩ := hn.up (below_of HQ.out.1 hSw) hz
            simp only [] at x0 x1 x2 x3
            go_simp
            (try with_reducible rfl)
          (try simp only [Act.put, List.getElem_toArray, List.getElem_cons_zero, List.getElem_cons_succ, List.setIfInBounds_toArray, List.set_cons_zero, List.set_cons_succ])
          refine wpAnyH_ready (rs := [9]) (by decide +kernel) (by simp) ?_
          refine AllReadyH.cons rfl (fun K hK => ?_) AllReadyH.nil
          go_simp
          refine (HSo.out _ (HP.out.up (below_of HQ.out.1 hcur))).mono ?_
          rintro e wn ⟨rfl, hbn⟩
          go_wp2_with fail
          refine hK.out _ _ (below_of hcur hbn) (fun _ => ?_)
          clear hK K
          replace hcur := below_of hcur hbn
          clear hbn
          (try simp only [Act.put, List.getElem_toArray, List.getElem_cons_zero, List.getElem_cons_succ, List.setIfInBounds_toArray, List.set_cons_zero, List.set_cons_succ])
          refine wpAnyH_take (i := 10) (v := ?_) rfl (by decide +kernel) (by decide +kernel) (by decide +kernel) (fun _ _ _ h => h) (Or.inl ⟨by rfl, ?hy⟩) hcur ?_
          case hy =>
            intro w1 hSw
            replace hSw : Below W.heap.size W w1 := hSw
            obtain ⟨x0, x1, x2, x3⟩ := hn.up (below_of HQ.out.1 hSw) hz
            simp only [] at x0 x1 x2 x3
            go_simp
            (try with_reducible rfl)
          (try simp only [Act.put, List.getElem_toArray, List.getElem_cons_zero, List.getElem_cons_succ, List.setIfInBounds_toArray, List.set_cons_zero, List.set_cons_succ])
          refine wpAnyH_take (i := 11) (v := ?_) rfl (by decide +kernel) (by decide +kernel) (by decide +kernel) (fun _ _ _ h => h) (Or.inl ⟨by rfl, ?hy⟩) hcur ?_
          case hy =>
            intro w1 hSw
            replace hSw : Below W.heap.size W w1 := hSw
            obtain ⟨x0, x1, x2, x3⟩ := hn.up (below_of HQ.out.1 hSw) hz
            simp only [] at x0 x1 x2 x3
            go_simp
            (try with_reducible rfl)
          (try simp only [Act.put, List.getElem_toArray, List.getElem_cons_zero, List.getElem_cons_succ, List.setIfInBounds_toArray, List.set_cons_zero, List.set_cons_succ])
          refine wpAnyH_done (by decide +kernel) ?_ _
          obtain ⟨x0, x1, x2, x3⟩ := hn.up (below_of HQ.out.1 hcur) hz
          obtain ⟨y0, y1, y2, y3⟩ := HQ.out.2.2.2.2.1.up hcur HQ.out.2.2.2.2.2
          simp only [] at x0 x1 x2 x3 y0 y1 y2 y3
          go_wp2_with fail
          refine (HSa.out _ A4 c4 (HP.out.up (below_of HQ.out.1 hcur)) (HQ.out.2.2.2.1.up hcur)).mono ?_
          rintro e w9 ⟨rfl, hb9⟩
          have hE9 := (HQ.out.2.2.1.below hcur).below hb9
          have H9 := Lib.hid (And.intro hE9 (below_of (HQ.out.1.trans (hcur.mono HQ.out.1.size)) hb9))
          clear hb9 hE9 x0 x1 x2 x3 y0 y1 y2 y3
          go_wp2_with fail
          refine (eyeclose_any W3.heap.size (srcOf A3 D) [] 0 _ H9.out.1 (by decide)).mono ?_
          rintro e w10 ⟨rfl, rfl⟩
          have hcl : eyeClose [] 0 = 0 := by decide
          rw [hcl]
          go_wp2_with fail
          refine (lives17_any _).mono ?_
          rintro e w11 ⟨rfl, hb11⟩
          go_wp2_with fail
          go_ret
          exact ⟨rfl, below_of HB.out (below_of H9.out.2 hb11)⟩
        · go_simp
          refine hK.out _ _ hcur (fun _ => ?_)
          clear hK K
          (try simp only [Act.put, List.getElem_toArray, List.getElem_cons_zero, List.getElem_cons_succ, List.setIfInBounds_toArray, List.set_cons_zero, List.set_cons_succ])
          refine wpAnyH_ready (rs := [1]) (by decide +kernel) (by simp) ?_
          refine AllReadyH.cons rfl (fun K hK => ?_) AllReadyH.nil
          go_simp
          refine hK.out _ _ hcur (fun _ => ?_)
          clear hK K
          (try simp only [Act.put, List.getElem_toArray, List.getElem_cons_zero, List.getElem_cons_succ, List.setIfInBounds_toArray, List.set_cons_zero, List.set_cons_succ])
          refine wpAnyH_take (i := 5) (v := ?_) rfl (by decide +kernel) (by decide +kernel) (by decide +kernel) (fun _ _ _ h => h) (Or.inl ⟨by rfl, ?hy⟩) hcur ?_
          case hy =>
            intro w1 hSw
            replace hSw : Below W.heap.size W w1 := hSw
            obtain ⟨x0, x1, x2, x3⟩ := hn.up (below_of HQ.out.1 hSw) hz
            simp only [] at x0 x1 x2 x3
            go_simp
            (try with_reducible rfl)
          (try simp only [Act.put, List.getElem_toArray, List.getElem_cons_zero, List.getElem_cons_succ, List.setIfInBounds_toArray, List.set_cons_zero, List.set_cons_succ])
          refine wpAnyH_take (i := 6) (v := ?_) rfl (by decide +kernel) (by decide +kernel) (by decide +kernel) (fun _ _ _ h => h) (Or.inl ⟨by rfl, ?hy⟩) hcur ?_
          case hy =>
            intro w1 hSw
            replace hSw : Below W.heap.size W w1 := hSw
            obtain ⟨x0, x1, x2, x3⟩ := hn.up (below_of HQ.out.1 hSw) hz
            simp only [] at x0 x1 x2 x3
            go_simp
            (try with_reducible rfl)
          (try simp only [Act.put, List.getElem_toArray, List.getElem_cons_zero, List.getElem_cons_succ, List.setIfInBounds_toArray, List.set_cons_zero, List.set_cons_succ])
          refine wpAnyH_take (i := 7) (v := ?_) rfl (by decide +kernel) (by decide +kernel) (by decide +kernel) (fun _ _ _ h => h) (Or.inl ⟨by rfl, ?hy⟩) hcur ?_
          case hy =>
            intro w1 hSw
            replace hSw : Below W.heap.size W w1 := hSw
            obtain ⟨x0, x1, x2, x3⟩ := hn.up (below_of HQ.out.1 hSw) hz
            simp only [] at x0 x1 x2 x3
            go_simp
            (try with_reducible rfl)
          (try simp only [Act.put, List.getElem_toArray, List.getElem_cons_zero, List.getElem_cons_succ, List.setIfInBounds_toArray, List.set_cons_zero, List.set_cons_succ])
          refine wpAnyH_take (i := 8) (v := ?_) rfl (by decide +kernel) (by decide +kernel) (by decide +kernel) (fun _ _ _ h => h) (Or.inl ⟨by rfl, ?hy⟩) hcur ?_
          case hy =>
            intro w1 hSw
            replace hSw : Below W.heap.size W w1 := hSw
            obtain ⟨x0, x1, x2, x3⟩ := hn.up (below_of HQ.out.1 hSw) hz
            simp only [] at x0 x1 x2 x3
            go_simp
            (try with_reducible rfl)
          (try simp only [Act.put, List.getElem_toArray, List.getElem_cons_zero, List.getElem_cons_succ, List.setIfInBounds_toArray, List.set_cons_zero, List.set_cons_succ])
          refine wpAnyH_ready (rs := [9]) (by decide +kernel) (by simp) ?_
          refine AllReadyH.cons rfl (fun K hK => ?_) AllReadyH.nil
          go_simp
          refine (HSo.out _ (HP.out.up (below_of HQ.out.1 hcur))).mono ?_
          rintro e wn ⟨rfl, hbn⟩
          go_wp2_with fail
          refine hK.out _ _ (below_of hcur hbn) (fun _ => ?_)
          clear hK K
          replace hcur := below_of hcur hbn
          clear hbn
          (try simp only [Act.put, List.getElem_toArray, List.getElem_cons_zero, List.getElem_cons_succ, List.setIfInBounds_toArray, List.set_cons_zero, List.set_cons_succ])
          refine wpAnyH_take (i := 10) (v := ?_) rfl (by decide +kernel) (by decide +kernel) (by decide +kernel) (fun _ _ _ h => h) (Or.inl ⟨by rfl, ?hy⟩) hcur ?_
          case hy =>
            intro w1 hSw
            replace hSw : Below W.heap.size W w1 := hSw
            obtain ⟨x0, x1, x2, x3⟩ := hn.up (below_of HQ.out.1 hSw) hz
            simp only [] at x0 x1 x2 x3
            go_simp
            (try with_reducible rfl)
          (try simp only [Act.put, List.getElem_toArray, List.getElem_cons_zero, List.getElem_cons_succ, List.setIfInBounds_toArray, List.set_cons_zero, List.set_cons_succ])
          refine wpAnyH_take (i := 11) (v := ?_) rfl (by decide +kernel) (by decide +kernel) (by decide +kernel) (fun _ _ _ h => h) (Or.inl ⟨by rfl, ?hy⟩) hcur ?_
          case hy =>
            intro w1 hSw
            replace hSw : Below W.heap.size W w1 := hSw
            obtain ⟨x0, x1, x2, x3⟩ := hn.up (below_of HQ.out.1 hSw) hz
            simp only [] at x0 x1 x2 x3
            go_simp
            (try with_reducible rfl)
          (try simp only [Act.put, List.getElem_toArray, List.getElem_cons_zero, List.getElem_cons_succ, List.setIfInBounds_toArray, List.set_cons_zero, List.set_cons_succ])
          refine wpAnyH_done (by decide +kernel) ?_ _
          obtain ⟨x0, x1, x2, x3⟩ := hn.up (below_of HQ.out.1 hcur) hz
          obtain ⟨y0, y1, y2, y3⟩ := HQ.out.2.2.2.2.1.up hcur HQ.out.2.2.2.2.2
          simp only [] at x0 x1 x2 x3 y0 y1 y2 y3
          go_wp2_with fail
          refine (HSa.out _ A4 c4 (HP.out.up (below_of HQ.out.1 hcur)) (HQ.out.2.2.2.1.up hcur)).mono ?_
          rintro e w9 ⟨rfl, hb9⟩
          have hE9 := (HQ.out.2.2.1.below hcur).below hb9
          have H9 := Lib.hid (And.intro hE9 (below_of (HQ.out.1.trans (hcur.mono HQ.out.1.size)) hb9))
          clear hb9 hE9 x0 x1 x2 x3 y0 y1 y2 y3
          go_wp2_with fail
          refine (eyeclose_any W3.heap.size (srcOf A3 D) [] 0 _ H9.out.1 (by decide)).mono ?_
          rintro e w10 ⟨rfl, rfl⟩
          have hcl : eyeClose [] 0 = 0 := by decide
          rw [hcl]
          go_wp2_with fail
          refine (lives17_any _).mono ?_
          rintro e w11 ⟨rfl, hb11⟩
          go_wp2_with fail
          go_ret
          exact ⟨rfl, below_of HB.out (below_of H9.out.2 hb11)⟩

end Go.Proofs.Ythbafbgnclpbpaa
