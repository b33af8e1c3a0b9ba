/- Contracts of the reference of package op: Bytes. -/
import Derived.Test.YthbafbgnclpbpaaOpTells
import Derived.Test.YthbafbgnclpbpaaSip3
namespace Go.Proofs.Ythbafbgnclpbpaa
open Go.RowKit

theorem owns_mono {w : World} {B B' : Nat} {e : TypeId} {s n : Nat} {v : Value} {xs : List Value} (h : w.ownsRow B e s v n xs) (hb : B' ≤ B) : w.ownsRow B' e s v n xs := by
  refine ⟨h.1, ?_⟩
  rcases h.2 with hn | ⟨g, cap, cur, rfl, hbg, rest⟩
  · exact .inl hn
  · exact .inr ⟨g, cap, cur, rfl, Nat.le_trans hb hbg, rest⟩

theorem txt_pos (s : ByteArray) : 0 < (dig s.size ++ tb s).length := by rw [List.length_append]; have := dig_pos s.size; omega

/-- The bytes of what a letter stands for. -/
def letB (o : OpD) (c : Nat) : List Nat :=
  if c = 107 then dig o.key.size ++ tb o.key else if c = 116 then dig o.upto.size ++ tb o.upto else if c = 118 then dig o.val else if c = 108 then dig o.limit.toNat else []
theorem opBytes_bad {o : OpD} (h : opB o = false) : opBytes o = [0] := by
  unfold opBytes
  rw [h]
  exact if_neg Bool.false_ne_true
theorem opBytes_let {o : OpD} (h : opB o = true) : opBytes o = dig o.kind.toNat ++ (tb (usesS o.kind)).flatMap (letB o) := by
  have hk := opB_kind h
  unfold opBytes
  rw [if_pos h]
  congr 1
  obtain ⟨kind, key, upto, val, limit⟩ := o
  simp only [] at hk
  clear h
  rcases kind_cases kind with rfl | rfl | rfl | rfl | rfl | rfl | rfl | rfl | rfl | rfl | h
  case inr.inr.inr.inr.inr.inr.inr.inr.inr.inr => omega
  all_goals simp [usesKey, usesTo, usesVal, usesS, tb, letB]

set_option maxRecDepth 100000 in
set_option maxHeartbeats 8000000 in
theorem refbytes16_any (o : OpD) (w : World) (ho : OpOk o) (hks : o.key.size ≤ 1000) (hts : o.upto.size ≤ 1000) :
    Calls Try.prog 64 #[.agg (opCells o)] w (Made (opBytes o) w) := by
  have hn := OpAt.new w o 58
  have hb := below_alloc w (.cells (opCells o) 58)
  have hz : w.heap.size < (w.alloc (.cells (opCells o) 58)).heap.size := by simp
  have HC := Lib.hid (fun W => refsound16_any o W ho)
  have HU := Lib.hid (refuses0_any o.kind)
  cases hB : opB o
  · rw [opBytes_bad hB]
    have HC0 := Lib.hid (fun W => Calls.to (HC.out W) (congrArg Value.bool hB))
    clear hB HC HU
    obtain ⟨kind, key, upto, val, limit⟩ := o
    simp only [opCells] at hn hb hz HC0 ⊢
    go_enter Try.func64, Try.ntmps64
    go_wp2_with fail
    generalize w.alloc _ = W1 at hn hb hz ⊢
    refine (HC0.out _).mono ?_
    rintro e W ⟨rfl, hbn⟩
    replace hb := below_of hb hbn
    replace hn := hn.up hbn hz
    replace hz := Nat.lt_of_lt_of_le hz hbn.size
    clear hbn
    obtain ⟨x0, x1, x2, x3, x4⟩ := id hn
    simp only [] at x0 x1 x2 x3 x4
    go_wp2_with fail
    refine (refnum_any 0 _ (by omega)).mono ?_
    rintro e W3 ⟨A, c, rfl, hown, hb3⟩
    rw [dig_small (show 0 < 128 by omega)] at hown
    have HE := Lib.hid (And.intro (owns_mono hown hb.size) (below_of hb hb3))
    clear hown hb3
    rw [dig_small (show 0 < 128 by omega)]
    go_wp2_with fail
    go_ret
    exact ⟨A, c, rfl, HE.out⟩
  · rw [opBytes_let hB]
    have HC0 := Lib.hid (fun W => Calls.to (HC.out W) (congrArg Value.bool hB))
    have hkd := opB_kind hB
    have HLm := Lib.hid (fun hm : 108 ∈ tb (usesS o.kind) => opB_limit hB ((uses_l o.kind).symm.trans (decide_eq_true hm)))
    have hsz := usesS_size o.kind
    have HV := Lib.hid ho.val
    generalize usesS o.kind = s at HU HLm hsz ⊢
    clear hB HC
    obtain ⟨kind, key, upto, val, limit⟩ := o
    simp only [opCells] at hn hb hz HC0 HU HLm HV hkd hks hts ⊢
    have hlt0 : ∀ c, letB ⟨kind, key, upto, val, limit⟩ c = if c = 107 then dig key.size ++ tb key else if c = 116 then dig upto.size ++ tb upto else if c = 118 then dig val else if c = 108 then dig limit.toNat else [] := fun _ => rfl
    generalize letB ⟨kind, key, upto, val, limit⟩ = lf at hlt0 ⊢
    have HLT := Lib.hid hlt0
    clear hlt0
    obtain ⟨kn, rfl⟩ := Int.eq_ofNat_of_zero_le (show 0 ≤ kind by omega)
    have hkn : kn ≤ 10 := by omega
    have hw : IntKind.u64.wrap (kn : Int) = (kn : Int) := by rw [IntKind.wrap_u64]; omega
    rw [Int.toNat_natCast]
    go_enter Try.func64, Try.ntmps64
    go_wp2_with fail
    generalize w.alloc _ = W1 at hn hb hz ⊢
    refine (HC0.out _).mono ?_
    rintro e W ⟨rfl, hbn⟩
    replace hb := below_of hb hbn
    replace hn := hn.up hbn hz
    replace hz := Nat.lt_of_lt_of_le hz hbn.size
    clear hbn
    obtain ⟨x0, x1, x2, x3, x4⟩ := id hn
    simp only [] at x0 x1 x2 x3 x4
    go_wp2_with fail
    refine (refnum_any kn _ (by omega)).mono ?_
    rintro e W3 ⟨A, c, rfl, hown, hb3⟩
    have hdl := dig_len kn
    have h3 := hn.up hb3 hz
    obtain ⟨x0, x1, x2, x3, x4⟩ := id h3
    simp only [] at x0 x1 x2 x3 x4
    have H3 := Lib.hid (And.intro hown (And.intro hb3 (And.intro hn (And.intro hz hb))))
    clear hown hb3 h3 hkd
    go_wp2_with fail
    refine (HU.out _).mono ?_
    rintro e W4 ⟨rfl, hb4⟩
    have H4 := Lib.hid (And.intro (owns_off H3.out.1 (Off.of_below hb4 (fun _ => False)) (fun _ _ q => q)) (below_of H3.out.2.1 hb4))
    clear x0 x1 x2 x3 x4 hb4
    generalize hL0 : dig kn = L0 at H4 hdl ⊢
    have HL0 := Lib.hid hL0
    clear hL0
    have hs2 : s.size ≤ 9223372036854775807 := by omega
    have hl := tb_length s
    go_wp2_with fail
    go_loopw [3, 5] (fun v i wr => ∃ (j : Nat) (V : Option Addr) (cv : Nat) (L : List Nat), i = .int .i64 j ∧ v = .slice V L.length cv ∧ Hid (j ≤ s.size ∧ L = L0 ++ ((tb s).take j).flatMap lf ∧ wr.ownsRow W.heap.size 5 1 (.slice V L.length cv) L.length (u8s L) ∧ Below W.heap.size W wr ∧ L.length ≤ 11 + 1011 * j)) (fun _ i _ => s.size - (intOf i).toNat)
    case atStart => exact ⟨0, A, c, L0, rfl, rfl, Nat.zero_le _, by simp, H4.out.1, H4.out.2, by omega⟩
    case round =>
      obtain ⟨j, V, cv, L, rfl, rfl, H⟩ := hrel
      by_cases hlt : j < s.size
      · have hat : (tb s)[j]'(by omega) = s[j].toNat := by simp [tb]; rfl
        have hT : ((tb s).take (j + 1)).flatMap lf = ((tb s).take j).flatMap lf ++ lf s[j].toNat := by rw [← hat]; exact flat_take lf (tb s) j (by omega)
        have hmem : s[j].toNat ∈ tb s := by rw [← hat]; exact List.getElem_mem _
        have HT := Lib.hid (And.intro hT hmem)
        obtain ⟨x0, x1, x2, x3, x4⟩ := id (H3.out.2.2.1.up H.out.2.2.2.1 H3.out.2.2.2.1)
        simp only [] at x0 x1 x2 x3 x4
        clear hT hmem hat
        by_cases h1 : s[j].toNat = 107
        · have t1 : ((s[j].toNat : Int) == 107) = true := by rw [beq_iff_eq]; omega
          have HL := Lib.hid ((HLT.out s[j].toNat).trans (if_pos h1))
          have H1 := Lib.hid h1
          clear h1
          go_wp2_with fail
          refine (reftext_any key _ (by omega)).mono ?_
          rintro e W5 ⟨A2, c2, rfl, hown2, hb5⟩
          have hlen5 := txt_len hks
          have hm0 := txt_pos key
          rw [← HL.out] at hown2 hlen5 hm0 ⊢
          generalize lf s[j].toNat = m at hown2 hlen5 HT hm0 ⊢
          have hL := H.out.2.2.2.2
          have ho3 := owns_off H.out.2.2.1 (Off.of_below hb5 (fun _ => False)) (fun _ _ q => q)
          have hB5 : W.heap.size ≤ W5.heap.size := Nat.le_trans H.out.2.2.2.1.size hb5.size
          have hj3 : j < 3 := by omega
          obtain ⟨A', c', W6, hrun, h2, h3, h5⟩ := want_push (c2 := c2) ho3 hB5 (Rd.of_own hown2) hm0 (by omega) 38
          have Hrun := Lib.hid hrun
          have HN := Lib.hid (And.intro h2 ((H.out.2.2.2.1.trans (hb5.mono H.out.2.2.2.1.size)).grown h3 hB5 (fun q hq => (ho3.lt q hq).1)))
          have HLn := Lib.hid (And.intro hlen5 hL)
          clear hrun h2 h3 h5 ho3 hB5 hown2 hb5 hlen5 hL hm0
          go_wp2_with (at_builtin; refine wpList_append_run rfl (.tmp 28) (.tmp 31) 38 rfl rfl rfl Hrun.out ?_)
          have hl2 : L.length + m.length = (L ++ m).length := by rw [List.length_append]
          rw [hl2]
          go_roundw
          case rel =>
            refine ⟨j + 1, A', c', L ++ m, by go_num, rfl, by omega, ?_, HN.out.1, HN.out.2, by rw [List.length_append]; have := HLn.out; omega⟩
            rw [HT.out.1, H.out.2.1, List.append_assoc]
          case measure => simp [intOf]; omega
        · have t1 : ((s[j].toNat : Int) == 107) = false := by rw [beq_eq_false_iff_ne]; omega
          by_cases h2 : s[j].toNat = 116
          · have t2 : ((s[j].toNat : Int) == 116) = true := by rw [beq_iff_eq]; omega
            have HL := Lib.hid ((HLT.out s[j].toNat).trans ((if_neg h1).trans (if_pos h2)))
            clear h1 h2
            go_wp2_with fail
            refine (reftext_any upto _ (by omega)).mono ?_
            rintro e W5 ⟨A2, c2, rfl, hown2, hb5⟩
            have hlen5 := txt_len hts
            have hm0 := txt_pos upto
            rw [← HL.out] at hown2 hlen5 hm0 ⊢
            generalize lf s[j].toNat = m at hown2 hlen5 HT hm0 ⊢
            have hL := H.out.2.2.2.2
            have ho3 := owns_off H.out.2.2.1 (Off.of_below hb5 (fun _ => False)) (fun _ _ q => q)
            have hB5 : W.heap.size ≤ W5.heap.size := Nat.le_trans H.out.2.2.2.1.size hb5.size
            have hj3 : j < 3 := by omega
            obtain ⟨A', c', W6, hrun, h2, h3, h5⟩ := want_push (c2 := c2) ho3 hB5 (Rd.of_own hown2) hm0 (by omega) 38
            have Hrun := Lib.hid hrun
            have HN := Lib.hid (And.intro h2 ((H.out.2.2.2.1.trans (hb5.mono H.out.2.2.2.1.size)).grown h3 hB5 (fun q hq => (ho3.lt q hq).1)))
            have HLn := Lib.hid (And.intro hlen5 hL)
            clear hrun h2 h3 h5 ho3 hB5 hown2 hb5 hlen5 hL hm0
            go_wp2_with (at_builtin; refine wpList_append_run rfl (.tmp 35) (.tmp 38) 38 rfl rfl rfl Hrun.out ?_)
            have hl2 : L.length + m.length = (L ++ m).length := by rw [List.length_append]
            rw [hl2]
            go_roundw
            case rel =>
              refine ⟨j + 1, A', c', L ++ m, by go_num, rfl, by omega, ?_, HN.out.1, HN.out.2, by rw [List.length_append]; have := HLn.out; omega⟩
              rw [HT.out.1, H.out.2.1, List.append_assoc]
            case measure => simp [intOf]; omega
          · have t2 : ((s[j].toNat : Int) == 116) = false := by rw [beq_eq_false_iff_ne]; omega
            by_cases h3 : s[j].toNat = 118
            · have t3 : ((s[j].toNat : Int) == 118) = true := by rw [beq_iff_eq]; omega
              have HL := Lib.hid ((HLT.out s[j].toNat).trans ((if_neg h1).trans ((if_neg h2).trans (if_pos h3))))
              clear h1 h2 h3
              go_wp2_with fail
              refine (refnum_any val _ HV.out).mono ?_
              rintro e W5 ⟨A2, c2, rfl, hown2, hb5⟩
              have hlen5 := Nat.le_trans (dig_len val) (show 11 ≤ 1011 by omega)
              have hm0 := dig_pos val
              rw [← HL.out] at hown2 hlen5 hm0 ⊢
              generalize lf s[j].toNat = m at hown2 hlen5 HT hm0 ⊢
              have hL := H.out.2.2.2.2
              have ho3 := owns_off H.out.2.2.1 (Off.of_below hb5 (fun _ => False)) (fun _ _ q => q)
              have hB5 : W.heap.size ≤ W5.heap.size := Nat.le_trans H.out.2.2.2.1.size hb5.size
              have hj3 : j < 3 := by omega
              obtain ⟨A', c', W6, hrun, h2, h3, h5⟩ := want_push (c2 := c2) ho3 hB5 (Rd.of_own hown2) hm0 (by omega) 38
              have Hrun := Lib.hid hrun
              have HN := Lib.hid (And.intro h2 ((H.out.2.2.2.1.trans (hb5.mono H.out.2.2.2.1.size)).grown h3 hB5 (fun q hq => (ho3.lt q hq).1)))
              have HLn := Lib.hid (And.intro hlen5 hL)
              clear hrun h2 h3 h5 ho3 hB5 hown2 hb5 hlen5 hL hm0
              go_wp2_with (at_builtin; refine wpList_append_run rfl (.tmp 42) (.tmp 45) 38 rfl rfl rfl Hrun.out ?_)
              have hl2 : L.length + m.length = (L ++ m).length := by rw [List.length_append]
              rw [hl2]
              go_roundw
              case rel =>
                refine ⟨j + 1, A', c', L ++ m, by go_num, rfl, by omega, ?_, HN.out.1, HN.out.2, by rw [List.length_append]; have := HLn.out; omega⟩
                rw [HT.out.1, H.out.2.1, List.append_assoc]
              case measure => simp [intOf]; omega
            · have t3 : ((s[j].toNat : Int) == 118) = false := by rw [beq_eq_false_iff_ne]; omega
              by_cases h4 : s[j].toNat = 108
              · have t4 : ((s[j].toNat : Int) == 108) = true := by rw [beq_iff_eq]; omega
                have HL := Lib.hid ((HLT.out s[j].toNat).trans ((if_neg h1).trans ((if_neg h2).trans ((if_neg h3).trans (if_pos h4)))))
                have hlm := HLm.out (by rw [← h4]; exact HT.out.2)
                obtain ⟨ln, rfl⟩ := Int.eq_ofNat_of_zero_le hlm.1
                have hln : ln ≤ 4096 := by omega
                have hw2 : IntKind.u64.wrap (ln : Int) = (ln : Int) := by rw [IntKind.wrap_u64]; omega
                rw [Int.toNat_natCast] at HL
                clear h1 h2 h3 h4 hlm
                go_wp2_with fail
                refine (refnum_any ln _ (by omega)).mono ?_
                rintro e W5 ⟨A2, c2, rfl, hown2, hb5⟩
                have hlen5 := Nat.le_trans (dig_len ln) (show 11 ≤ 1011 by omega)
                have hm0 := dig_pos ln
                rw [← HL.out] at hown2 hlen5 hm0 ⊢
                generalize lf s[j].toNat = m at hown2 hlen5 HT hm0 ⊢
                have hL := H.out.2.2.2.2
                have ho3 := owns_off H.out.2.2.1 (Off.of_below hb5 (fun _ => False)) (fun _ _ q => q)
                have hB5 : W.heap.size ≤ W5.heap.size := Nat.le_trans H.out.2.2.2.1.size hb5.size
                have hj3 : j < 3 := by omega
                obtain ⟨A', c', W6, hrun, h2, h3, h5⟩ := want_push (c2 := c2) ho3 hB5 (Rd.of_own hown2) hm0 (by omega) 38
                have Hrun := Lib.hid hrun
                have HN := Lib.hid (And.intro h2 ((H.out.2.2.2.1.trans (hb5.mono H.out.2.2.2.1.size)).grown h3 hB5 (fun q hq => (ho3.lt q hq).1)))
                have HLn := Lib.hid (And.intro hlen5 hL)
                clear hrun h2 h3 h5 ho3 hB5 hown2 hb5 hlen5 hL hm0
                go_wp2_with (at_builtin; refine wpList_append_run rfl (.tmp 49) (.tmp 53) 38 rfl rfl rfl Hrun.out ?_)
                have hl2 : L.length + m.length = (L ++ m).length := by rw [List.length_append]
                rw [hl2]
                go_roundw
                case rel =>
                  refine ⟨j + 1, A', c', L ++ m, by go_num, rfl, by omega, ?_, HN.out.1, HN.out.2, by rw [List.length_append]; have := HLn.out; omega⟩
                  rw [HT.out.1, H.out.2.1, List.append_assoc]
                case measure => simp [intOf]; omega
              · have t4 : ((s[j].toNat : Int) == 108) = false := by rw [beq_eq_false_iff_ne]; omega
                have HL := Lib.hid ((HLT.out s[j].toNat).trans ((if_neg h1).trans ((if_neg h2).trans ((if_neg h3).trans (if_neg h4)))))
                clear h1 h2 h3 h4
                go_wp2_with fail
                go_roundw
                case rel =>
                  refine ⟨j + 1, V, cv, L, by go_num, rfl, by omega, ?_, H.out.2.2.1, H.out.2.2.2.1, by have := H.out.2.2.2.2; omega⟩
                  rw [HT.out.1, HL.out, List.append_nil]
                  exact H.out.2.1
                case measure => simp [intOf]; omega
      · have hj : j = s.size := by have := H.out.1; omega
        have hH := H.out
        rw [hj, List.take_of_length_le (by omega)] at hH
        have H' := Lib.hid hH
        clear hH H
        go_wp2_with fail
        go_ret
        rw [HL0.out, ← H'.out.2.1]
        exact ⟨V, cv, rfl, owns_mono H'.out.2.2.1 H3.out.2.2.2.2.size, H3.out.2.2.2.2.trans (H'.out.2.2.2.1.mono H3.out.2.2.2.2.size)⟩

end Go.Proofs.Ythbafbgnclpbpaa
