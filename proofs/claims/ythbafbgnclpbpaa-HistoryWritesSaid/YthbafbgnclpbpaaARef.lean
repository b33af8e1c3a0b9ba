/- Contracts of the reference of package answer: Bytes. -/
import Derived.Test.YthbafbgnclpbpaaAns4
import Derived.Test.YthbafbgnclpbpaaSip3
namespace Go.Proofs.Ythbafbgnclpbpaa
open Go.RowKit

theorem own_mono {w : World} {B B' : Nat} {e : TypeId} {s n : Nat} {v : Value} {xs : List Value} (h : w.ownsRow B e s v n xs) (hb : B' ≤ B) : w.ownsRow B' e s v n xs := by
  refine ⟨h.1, ?_⟩
  rcases h.2 with hn | ⟨g, cap, cur, rfl, hbg, rest⟩
  · exact .inl hn
  · exact .inr ⟨g, cap, cur, rfl, Nat.le_trans hb hbg, rest⟩
theorem own_one (w : World) (B : Nat) (hB : B ≤ w.heap.size) (x : Nat) : (w.alloc (.cells #[.int .u8 (x : Int)] 5)).ownsRow B 5 1 (.slice (some ⟨w.heap.size, 0, none⟩) 1 1) 1 (u8s [x]) :=
  ⟨rfl, .inr ⟨w.heap.size, 1, #[.int .u8 (x : Int)], rfl, hB, heap_alloc_new w _, Nat.le_refl _, by decide, rfl, rfl⟩⟩
theorem oper_append_run {P : Program} {w w' : World} {o : Oper} {a : Act} {K : Act → World → Prop} {Q : Exit → Act → World → Prop} (s x : Operand) (t : TypeId)
    (ho : o.op = .call { callee := .builtin .append, args := #[s, x], argTypes := #[t, t] }) {sv xv v' : Value} (hs : a.eval s = sv) (hx : a.eval x = xv)
    (hrun : (Builtin.append_ #[t, t] o.type #[sv, xv]).run P w = .ok v' w') (h : K (a.put o.dst v') w') : o.wp P a w K Q := by
  unfold Oper.wp execOp
  simp only [ho, resolve, invoke, builtin, Sem.run_bind, Sem.run_pure, Result.andThen_ok, List.map_toArray, List.map_cons, List.map_nil, hs, hx, hrun]
  exact h

/-- An own row behind which another row is laid; what is old stays. -/
theorem push_own {w0 w w2 : World} {A A2 : Option Addr} {c c2 : Nat} {L m : List Nat} (hb : Below w0.heap.size w0 w) (ho : w.ownsRow w0.heap.size 5 1 (.slice A L.length c) L.length (u8s L)) (hb2 : Below w.heap.size w w2)
    (h2 : w2.ownsRow w.heap.size 5 1 (.slice A2 m.length c2) m.length (u8s m)) (hm : 0 < m.length) (hl : L.length + m.length ≤ 1000000) :
    ∃ A' c' w3, (Builtin.append_ #[38, 38] 38 #[.slice A L.length c, .slice A2 m.length c2]).run Try.prog w2 = .ok (.slice A' (L.length + m.length) c') w3 ∧
      w3.ownsRow w0.heap.size 5 1 (.slice A' (L ++ m).length c') (L ++ m).length (u8s (L ++ m)) ∧ Below w0.heap.size w0 w3 := by
  have ho2 := owns_off ho (Off.of_below hb2 (fun _ => False)) (fun _ _ q => q)
  have hB : w0.heap.size ≤ w2.heap.size := Nat.le_trans hb.size hb2.size
  obtain ⟨A', c', w3, hrun, g2, g3, _⟩ := want_push (c2 := c2) ho2 hB (Rd.of_own h2) hm hl 38
  exact ⟨A', c', w3, hrun, g2, (hb.trans (hb2.mono hb.size)).grown g3 hB (fun q hq => (ho2.lt q hq).1)⟩

theorem tx_pos (s : ByteArray) : 0 < (dig s.size ++ tb s).length := by rw [List.length_append]; have := dig_pos s.size; omega

set_option maxRecDepth 100000 in
set_option maxHeartbeats 8000000 in
theorem refbytes17_any (a : AnsD) (A : Option Addr) (c : Nat) (w : World) (h : Prs w A a.pairs.length a.pairs) (ha : AnsOk a) (hs : lightA a = true) :
    Calls Try.prog 51 #[.agg (ansCells a A c)] w (Made (ansBytes a) w) := by
  have hn := AnsAt.new w a A c 25
  have hb := below_alloc w (.cells (ansCells a A c) 25)
  have hz : w.heap.size < (w.alloc (.cells (ansCells a A c) 25)).heap.size := by simp
  have HP := Lib.hid (h.up hb)
  have HC := Lib.hid (fun W (hW : Prs W A a.pairs.length a.pairs) => refsound17_any a A c W hW ha)
  have HL := Lib.hid (lightA_spec hs)
  have HA := Lib.hid ha
  have hby : ansBytes a = if sndA a = true then ansHead a ++ a.pairs.flatMap prBytes else [0] := rfl
  have hhd : ansHead a = dig a.code.toNat ++ ((dig a.key.size ++ tb a.key) ++ (dig a.val ++ dig a.pairs.length)) := rfl
  have hcd := sndA_code (a := a)
  clear h hs ha
  generalize ansBytes a = by0 at hby ⊢
  generalize ansHead a = hd at hby hhd
  generalize sndA a = s at hby HC hcd
  obtain ⟨code, key, val, pairs⟩ := a
  simp only [ansCells] at hn hb hz HP HC ⊢
  simp only [] at HL hhd hcd
  have hpl : pairs.length ≤ 60 := HL.out.2.2
  have hks : key.size ≤ 200 := HL.out.2.1
  cases s
  · rw [if_neg Bool.false_ne_true] at hby
    rw [hby]
    clear hby hhd hcd
    go_enter Try.func51, Try.ntmps51
    go_upto_region 1 with fail
    generalize w.alloc _ = W at hn hb hz HP ⊢
    obtain ⟨x0, x1, x2, x3⟩ := id hn
    simp only [] at x0 x1 x2 x3
    go_wp2_with fail
    refine (HC.out _ HP.out).mono ?_
    rintro e wn ⟨rfl, hbn⟩
    have HB := Lib.hid (below_of hb hbn)
    clear x0 x1 x2 x3 hbn
    go_wp2_with fail
    go_ret
    exact ⟨_, 1, rfl, own_one wn _ HB.out.size 0, below_of HB.out (below_alloc _ _)⟩
  · have hcd2 := hcd rfl
    obtain ⟨cn, rfl⟩ := Int.eq_ofNat_of_zero_le (show 0 ≤ code by omega)
    have hcn : cn ≤ 6 := by omega
    have hw : IntKind.u64.wrap (cn : Int) = (cn : Int) := by rw [IntKind.wrap_u64]; omega
    have hw2 : IntKind.u64.wrap (pairs.length : Int) = (pairs.length : Int) := by rw [IntKind.wrap_u64]; omega
    rw [Int.toNat_natCast] at hhd
    rw [if_pos rfl] at hby
    rw [hby]
    have hva : val < 18446744073709551616 := HA.out.val
    have HN1 := Lib.hid (fun W => refnum_any cn W (by omega))
    have HT1 := Lib.hid (fun W => reftext_any key W (by omega))
    have HN2 := Lib.hid (fun W => refnum_any val W hva)
    have HN3 := Lib.hid (fun W => refnum_any pairs.length W (by omega))
    have l1 := dig_len cn
    have l2 := txt_le (s := key) (by omega)
    have l3 := dig_len val
    have l4 := dig_len pairs.length
    have p1 := dig_pos cn
    have p2 := tx_pos key
    have p3 := dig_pos val
    have p4 := dig_pos pairs.length
    generalize dig key.size ++ tb key = D2 at hhd HT1 l2 p2
    generalize dig cn = D1 at hhd HN1 l1 p1
    generalize dig val = D3 at hhd HN2 l3 p3
    generalize dig pairs.length = D4 at hhd HN3 l4 p4
    have HH := Lib.hid hhd
    clear hby hhd hcd hcd2 hva
    go_enter Try.func51, Try.ntmps51
    go_upto_region 1 with fail
    generalize w.alloc _ = W0 at hn hb hz HP ⊢
    obtain ⟨x0, x1, x2, x3⟩ := id hn
    simp only [] at x0 x1 x2 x3
    go_wp2_with fail
    refine (HC.out _ HP.out).mono ?_
    rintro e W ⟨rfl, hbn⟩
    have HB := Lib.hid (below_of hb hbn)
    replace hn := hn.up hbn hz
    replace hz := Nat.lt_of_lt_of_le hz hbn.size
    replace HP := Lib.hid (HP.out.up hbn)
    clear x0 x1 x2 x3 hbn hb HC
    obtain ⟨x0, x1, x2, x3⟩ := id hn
    simp only [] at x0 x1 x2 x3
    go_upto_region 3 with fail
    clear x0 x1 x2 x3
    go_cut [3] (fun s3 wx => ∃ A1 c1, s3 = .slice A1 (D1 ++ D2).length c1 ∧ Hid (wx.ownsRow W.heap.size 5 1 (.slice A1 (D1 ++ D2).length c1) (D1 ++ D2).length (u8s (D1 ++ D2)) ∧ Below W.heap.size W wx))
    case first =>
      refine wp_region_held_drew (S := fun w' => Below W.heap.size W w') (by kernel_rfl) (Below.drew (Below.refl _ _)) (fun hcur => ?_)
      replace hcur : Below W.heap.size W W.drew := hcur
      refine wpAnyH_take (i := 0) (v := ?_) rfl (by decide +kernel) (by decide +kernel) (by decide +kernel) (fun _ _ _ h => h) (Or.inl ⟨by rfl, ?hy⟩) hcur ?_
      case hy =>
        intro w1 hSw
        replace hSw : Below W.heap.size W w1 := hSw
        obtain ⟨x0, x1, x2, x3⟩ := hn.up hSw hz
        simp only [] at x0 x1 x2 x3
        go_simp
        (try with_reducible rfl)
      (try simp only [Act.put, List.getElem_toArray, List.getElem_cons_zero, List.getElem_cons_succ, List.setIfInBounds_toArray, List.set_cons_zero, List.set_cons_succ])
      refine wpAnyH_take (i := 1) (v := ?_) rfl (by decide +kernel) (by decide +kernel) (by decide +kernel) (fun _ _ _ h => h) (Or.inl ⟨by rfl, ?hy⟩) hcur ?_
      case hy =>
        intro w1 hSw
        replace hSw : Below W.heap.size W w1 := hSw
        obtain ⟨x0, x1, x2, x3⟩ := hn.up hSw hz
        simp only [] at x0 x1 x2 x3
        go_simp
        (try with_reducible rfl)
      (try simp only [Act.put, List.getElem_toArray, List.getElem_cons_zero, List.getElem_cons_succ, List.setIfInBounds_toArray, List.set_cons_zero, List.set_cons_succ])
      refine wpAnyH_take (i := 2) (v := ?_) rfl (by decide +kernel) (by decide +kernel) (by decide +kernel) (fun _ _ _ h => h) (Or.inl ⟨by rfl, ?hy⟩) hcur ?_
      case hy =>
        intro w1 hSw
        replace hSw : Below W.heap.size W w1 := hSw
        obtain ⟨x0, x1, x2, x3⟩ := hn.up hSw hz
        simp only [] at x0 x1 x2 x3
        go_simp
        (try with_reducible rfl)
      (try simp only [Act.put, List.getElem_toArray, List.getElem_cons_zero, List.getElem_cons_succ, List.setIfInBounds_toArray, List.set_cons_zero, List.set_cons_succ])
      refine wpAnyH_take (i := 4) (v := ?_) rfl (by decide +kernel) (by decide +kernel) (by decide +kernel) (fun _ _ _ h => h) (Or.inl ⟨by rfl, ?hy⟩) hcur ?_
      case hy =>
        intro w1 hSw
        replace hSw : Below W.heap.size W w1 := hSw
        obtain ⟨x0, x1, x2, x3⟩ := hn.up hSw hz
        simp only [] at x0 x1 x2 x3
        go_simp
        (try with_reducible rfl)
      (try simp only [Act.put, List.getElem_toArray, List.getElem_cons_zero, List.getElem_cons_succ, List.setIfInBounds_toArray, List.set_cons_zero, List.set_cons_succ])
      refine wpAnyH_take (i := 5) (v := ?_) rfl (by decide +kernel) (by decide +kernel) (by decide +kernel) (fun _ _ _ h => h) (Or.inl ⟨by rfl, ?hy⟩) hcur ?_
      case hy =>
        intro w1 hSw
        replace hSw : Below W.heap.size W w1 := hSw
        obtain ⟨x0, x1, x2, x3⟩ := hn.up hSw hz
        simp only [] at x0 x1 x2 x3
        go_simp
        (try with_reducible rfl)
      (try simp only [Act.put, List.getElem_toArray, List.getElem_cons_zero, List.getElem_cons_succ, List.setIfInBounds_toArray, List.set_cons_zero, List.set_cons_succ])
      refine wpAnyH_ready (rs := [3]) (by decide +kernel) (by simp) ?_
      refine AllReadyH.cons rfl (fun K hK => ?_) AllReadyH.nil
      go_simp
      refine (HN1.out _).mono ?_
      rintro e w1 ⟨A1, c1, rfl, ho1, hb1⟩
      replace ho1 := own_mono ho1 hcur.size
      go_wp2_with fail
      refine hK.out _ _ (below_of hcur hb1) (fun _ => ?_)
      clear hK K
      replace hcur := below_of hcur hb1
      clear hb1
      (try simp only [Act.put, List.getElem_toArray, List.getElem_cons_zero, List.getElem_cons_succ, List.setIfInBounds_toArray, List.set_cons_zero, List.set_cons_succ])
      refine wpAnyH_ready (rs := [6]) (by decide +kernel) (by simp) ?_
      refine AllReadyH.cons rfl (fun K hK => ?_) AllReadyH.nil
      go_simp
      refine (HT1.out _).mono ?_
      rintro e w2 ⟨A2, c2, rfl, ho2, hb2⟩
      obtain ⟨A3, c3, w3, hrun, ho3, hb3⟩ := push_own hcur ho1 hb2 ho2 p2 (by omega)
      go_wp2_with fail
      refine hK.out _ _ (below_of hcur hb2) (fun _ => ?_)
      clear hK K ho1 ho2
      replace hcur := below_of hcur hb2
      clear hb2
      (try simp only [Act.put, List.getElem_toArray, List.getElem_cons_zero, List.getElem_cons_succ, List.setIfInBounds_toArray, List.set_cons_zero, List.set_cons_succ])
      refine wpAnyH_ready (rs := [7]) (by decide +kernel) (by simp) ?_
      refine AllReadyH.cons rfl (fun K hK => ?_) AllReadyH.nil
      rw [if_pos (by rfl)]
      refine oper_append_run (.tmp 12) (.tmp 15) 38 rfl rfl rfl hrun ?_
      refine hK.out _ _ hb3 (fun _ => ?_)
      clear hK K hrun
      replace hcur := hb3
      (try simp only [Act.put, List.getElem_toArray, List.getElem_cons_zero, List.getElem_cons_succ, List.setIfInBounds_toArray, List.set_cons_zero, List.set_cons_succ])
      refine wpAnyH_take (i := 8) (v := ?_) rfl (by decide +kernel) (by decide +kernel) (by decide +kernel) (fun _ _ _ h => h) (Or.inl ⟨by rfl, ?hy⟩) hcur ?_
      case hy =>
        intro w1 hSw
        replace hSw : Below W.heap.size W w1 := hSw
        obtain ⟨x0, x1, x2, x3⟩ := hn.up hSw hz
        simp only [] at x0 x1 x2 x3
        go_simp
        (try with_reducible rfl)
      (try simp only [Act.put, List.getElem_toArray, List.getElem_cons_zero, List.getElem_cons_succ, List.setIfInBounds_toArray, List.set_cons_zero, List.set_cons_succ])
      refine wpAnyH_done (by decide +kernel) ?_ _
      go_wp2_with fail
      go_meet
      refine ⟨A3, c3, ?_, Lib.hid (And.intro ho3 hb3)⟩
      rw [List.length_append]
    case rest =>
      obtain ⟨A1, c1, rfl, HN⟩ := hcut
      have hl1 : (D1 ++ D2).length ≤ 1100 := by rw [List.length_append]; omega
      generalize hL1 : D1 ++ D2 = L1 at HN hl1 ⊢
      have HL1 := Lib.hid hL1
      clear hL1
      obtain ⟨x0, x1, x2, x3⟩ := id (hn.up HN.out.2 hz)
      simp only [] at x0 x1 x2 x3
      go_wp2_with fail
      refine (HN2.out _).mono ?_
      rintro e w5 ⟨A2, c2, rfl, ho2, hb2⟩
      obtain ⟨A3, c3, w6, hrun, ho3, hb3⟩ := push_own HN.out.2 HN.out.1 hb2 ho2 (p3) (by omega)
      have Hrun := Lib.hid hrun
      replace HN := Lib.hid (And.intro ho3 hb3)
      clear hrun ho3 hb3 ho2 hb2 x0 x1 x2 x3
      obtain ⟨x0, x1, x2, x3⟩ := id (hn.up HN.out.2 hz)
      simp only [] at x0 x1 x2 x3
      go_wp2_with (at_builtin; refine wpList_append_run rfl (.tmp 17) (.tmp 20) 38 rfl rfl rfl Hrun.out ?_)
      rw [show L1.length + (D3).length = (L1 ++ D3).length from List.length_append.symm]
      clear Hrun
      have hl2 : (L1 ++ D3).length ≤ 1120 := by rw [List.length_append]; omega
      generalize hL2 : L1 ++ D3 = L2 at HN hl2 ⊢
      have HL2 := Lib.hid hL2
      clear hL2
      refine (HN3.out _).mono ?_
      rintro e w5 ⟨A2, c2, rfl, ho2, hb2⟩
      obtain ⟨A3, c3, w6, hrun, ho3, hb3⟩ := push_own HN.out.2 HN.out.1 hb2 ho2 (p4) (by omega)
      have Hrun := Lib.hid hrun
      replace HN := Lib.hid (And.intro ho3 hb3)
      clear hrun ho3 hb3 ho2 hb2 x0 x1 x2 x3
      obtain ⟨x0, x1, x2, x3⟩ := id (hn.up HN.out.2 hz)
      simp only [] at x0 x1 x2 x3
      go_wp2_with (at_builtin; refine wpList_append_run rfl (.tmp 22) (.tmp 27) 38 rfl rfl rfl Hrun.out ?_)
      rw [show L2.length + (D4).length = (L2 ++ D4).length from List.length_append.symm]
      clear Hrun
      have hl3 : (L2 ++ D4).length ≤ 1140 := by rw [List.length_append]; omega
      have hL3 : L2 ++ D4 = hd := by rw [← HL2.out, ← HL1.out, HH.out]; simp [List.append_assoc]
      rw [hL3] at HN hl3 ⊢
      clear hL3 hl2 hl1
      go_loopw [3, 4] (fun b i wr => ∃ (j : Nat) (V : Option Addr) (cv : Nat), i = .int .i64 j ∧ b = .slice V (hd ++ (pairs.take j).flatMap prBytes).length cv ∧ Hid (j ≤ pairs.length ∧ wr.ownsRow W.heap.size 5 1 (.slice V (hd ++ (pairs.take j).flatMap prBytes).length cv) (hd ++ (pairs.take j).flatMap prBytes).length (u8s (hd ++ (pairs.take j).flatMap prBytes)) ∧ Below W.heap.size W wr)) (fun _ i _ => pairs.length - (intOf i).toNat)
      case atStart => exact ⟨0, A3, c3, rfl, by simp, Nat.zero_le _, by simpa using HN.out.1, HN.out.2⟩
      case round =>
        obtain ⟨j, V, cv, rfl, rfl, H⟩ := hrel
        clear x0 x1 x2 x3
        obtain ⟨x0, x1, x2, x3⟩ := id (hn.up H.out.2.2 hz)
        simp only [] at x0 x1 x2 x3
        by_cases hlt : j < pairs.length
        · obtain ⟨b, off, hjl, rfl, hbl, d0, d1⟩ := (HP.out.up H.out.2.2).at_ hlt
          have HT := Lib.hid (flat_take prBytes pairs j hlt)
          have hpk := HL.out.1 _ (List.getElem_mem hlt)
          have hpv := (HA.out.pairs _ (List.getElem_mem hlt)).2
          have hlen : (hd ++ (pairs.take j).flatMap prBytes).length ≤ 15000 := by
            have h1 := prs_len (pairs.take j) (fun p hp => HL.out.1 p (List.mem_of_mem_take hp))
            rw [List.length_take] at h1
            rw [List.length_append]
            omega
          have hPj := HP.out.at_ hlt
          obtain ⟨b', off', hjl', e', hbl', d0', d1'⟩ := hPj
          injection e' with e'
          injection e' with e1 e2
          subst e1; subst e2
          generalize hpj : pairs[j] = p at d0 d1 d0' d1' HT hpk hpv
          generalize hM : hd ++ (pairs.take j).flatMap prBytes = L at H hlen ⊢
          have HM := Lib.hid hM
          clear hpj hM hjl hjl'
          obtain ⟨pk, pv⟩ := p
          simp only [] at d0 d1 d0' d1' hpk hpv
          have HD := Lib.hid (And.intro hbl' d1')
          have HTk := Lib.hid (fun W => reftext_any pk W (by omega))
          have HNk := Lib.hid (fun W => refnum_any pv W hpv)
          have hdv := dig_len pv
          have htl := txt_le (s := pk) (by omega)
          have hpp := dig_pos pv
          have htp := tx_pos pk
          have hpb : prBytes ⟨pk, pv⟩ = (dig pk.size ++ tb pk) ++ dig pv := rfl
          generalize dig pk.size ++ tb pk = D5 at HTk htl htp hpb
          generalize dig pv = D6 at HNk hdv hpp hpb
          have HPB := Lib.hid hpb
          clear hpv d0' d1' hbl' hpb
          go_wp2_with fail
          refine (HTk.out _).mono ?_
          rintro e w5 ⟨A2, c2, rfl, ho2, hb2⟩
          obtain ⟨A4, c4, w6, hrun, ho3, hb3⟩ := push_own H.out.2.2 H.out.2.1 hb2 ho2 htp (by omega)
          have Hrun := Lib.hid hrun
          have HN5 := Lib.hid (And.intro ho3 hb3)
          have d1b := (HN5.out.2.cell (p := ⟨b, off + j * 2 + 1, none⟩) HD.out.1).trans HD.out.2
          clear hrun ho3 hb3 ho2 hb2 x0 x1 x2 x3 d0 d1
          obtain ⟨x0, x1, x2, x3⟩ := id (hn.up HN5.out.2 hz)
          simp only [] at x0 x1 x2 x3
          go_wp2_with (at_builtin; refine wpList_append_run rfl (.tmp 36) (.tmp 43) 38 rfl rfl rfl Hrun.out ?_)
          rw [show L.length + D5.length = (L ++ D5).length from List.length_append.symm]
          have hl5 : (L ++ D5).length ≤ 17000 := by rw [List.length_append]; omega
          generalize hL5 : L ++ D5 = L5 at HN5 hl5 ⊢
          have HL5 := Lib.hid hL5
          clear hL5 Hrun
          refine (HNk.out _).mono ?_
          rintro e w5 ⟨A2, c2, rfl, ho2, hb2⟩
          obtain ⟨A5, c5, w7, hrun, ho3, hb3⟩ := push_own HN5.out.2 HN5.out.1 hb2 ho2 hpp (by omega)
          have Hrun := Lib.hid hrun
          have HN6 := Lib.hid (And.intro ho3 hb3)
          clear hrun ho3 hb3 ho2 hb2 x0 x1 x2 x3 d1b
          go_wp2_with (at_builtin; refine wpList_append_run rfl (.tmp 45) (.tmp 52) 38 rfl rfl rfl Hrun.out ?_)
          rw [show L5.length + D6.length = (L5 ++ D6).length from List.length_append.symm]
          have hfin : L5 ++ D6 = hd ++ (pairs.take (j + 1)).flatMap prBytes := by
            rw [← HL5.out, ← HM.out, HT.out, HPB.out]
            simp [List.append_assoc]
          have HN4 := Lib.hid (hfin ▸ HN6.out)
          have HFI := Lib.hid hfin
          clear hfin
          go_roundw
          case rel => exact ⟨j + 1, A5, c5, by go_num, by rw [HFI.out], by omega, HN4.out.1, HN4.out.2⟩
          case measure => simp [intOf]; omega
        · have hj : j = pairs.length := by have := H.out.1; omega
          subst hj
          have hH := H.out
          rw [List.take_length] at hH ⊢
          have H' := Lib.hid hH
          clear hH H
          go_wp2_with fail
          go_ret
          exact ⟨V, cv, rfl, own_mono H'.out.2.1 HB.out.size, HB.out.trans (H'.out.2.2.mono HB.out.size)⟩

end Go.Proofs.Ythbafbgnclpbpaa
