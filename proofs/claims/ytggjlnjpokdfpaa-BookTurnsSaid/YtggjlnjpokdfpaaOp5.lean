/- Contracts of the reference of package op: Sound, Reads; of package op: Reads. -/
import Derived.Test.YtggjlnjpokdfpaaOp4
namespace Go.Proofs.Ytggjlnjpokdfpaa
open Go.RowKit

set_option maxRecDepth 100000 in
set_option maxHeartbeats 16000000 in
theorem refsound16_any (o : OpD) (w : World) (ho : OpOk o) : Calls Try.prog 87 #[.agg (opCells o)] w (Ret (.bool (opB o)) w) := by
  have hn := OpAt.new w o 85
  have hb := below_alloc w (.cells (opCells o) 85)
  have hz : w.heap.size < (w.alloc (.cells (opCells o) 85)).heap.size := by simp
  obtain ⟨kind, key, upto, val, limit⟩ := o
  have hk := ho.key
  have ht := ho.upto
  simp only [] at hk ht
  have hB : opB ⟨kind, key, upto, val, limit⟩ = (isKind kind && ((!usesKey kind || goodK key) && ((!usesTo kind || (goodK upto && !Pl.ls upto.data.toList key.data.toList)) && (!usesTo kind || decide (0 ≤ limit ∧ limit ≤ 4096))))) := rfl
  have HU := Lib.hid (refuses0_any kind)
  have HUk := Lib.hid (fun W => Calls.to (refuses_any kind 107 W) (congrArg Value.bool (uses_k kind)))
  have he := uses_none kind
  have h10 : (kind == (10 : Int)) = usesTo kind := by rw [Bool.eq_iff_iff, beq_iff_eq]; exact (decide_eq_true_iff (p := kind = 10)).symm
  simp only [opCells] at hn hb hz ⊢
  generalize isKind kind = ik at hB he
  generalize usesKey kind = ku at hB HUk
  generalize usesTo kind = tu at hB h10
  generalize usesS kind = us at he HU
  have HK := Lib.hid (And.intro hk ht)
  rw [hB]
  clear hB ho hk ht
  generalize hv : (ik && ((!ku || goodK key) && ((!tu || (goodK upto && !Pl.ls upto.data.toList key.data.toList)) && (!tu || decide (0 ≤ limit ∧ limit ≤ 4096))))) = v
  cases ik
  · have HV := Lib.hid hv
    clear hv
    simp only [Bool.not_false] at he
    go_enter Try.func87, Try.ntmps87
    go_wp2_with fail
    generalize w.alloc _ = W at hn hb hz ⊢
    obtain ⟨x0, x1, x2, x3, x4⟩ := id hn
    simp only [] at x0 x1 x2 x3 x4
    refine (HU.out _).mono ?_
    rintro e wn ⟨rfl, hbn⟩
    replace hb := below_of hb hbn
    replace hn := hn.up hbn hz
    replace hz := Nat.lt_of_lt_of_le hz hbn.size
    clear hbn x0 x1 x2 x3 x4
    obtain ⟨x0, x1, x2, x3, x4⟩ := id hn
    simp only [] at x0 x1 x2 x3 x4
    go_wp2_with fail
    go_ret
    exact ⟨ret_bool HV.out, hb⟩
  · simp only [Bool.not_true] at he
    cases ku
    · cases tu
      · have HV := Lib.hid hv
        clear hv
        go_enter Try.func87, Try.ntmps87
        go_wp2_with fail
        generalize w.alloc _ = W at hn hb hz ⊢
        obtain ⟨x0, x1, x2, x3, x4⟩ := id hn
        simp only [] at x0 x1 x2 x3 x4
        refine (HU.out _).mono ?_
        rintro e wn ⟨rfl, hbn⟩
        replace hb := below_of hb hbn
        replace hn := hn.up hbn hz
        replace hz := Nat.lt_of_lt_of_le hz hbn.size
        clear hbn x0 x1 x2 x3 x4
        obtain ⟨x0, x1, x2, x3, x4⟩ := id hn
        simp only [] at x0 x1 x2 x3 x4
        go_wp2_with fail
        refine (HUk.out _).mono ?_
        rintro e wn ⟨rfl, hbn⟩
        replace hb := below_of hb hbn
        replace hn := hn.up hbn hz
        replace hz := Nat.lt_of_lt_of_le hz hbn.size
        clear hbn x0 x1 x2 x3 x4
        obtain ⟨x0, x1, x2, x3, x4⟩ := id hn
        simp only [] at x0 x1 x2 x3 x4
        go_wp2_with fail
        go_ret
        exact ⟨ret_bool HV.out, hb⟩
      · cases hgt : goodK upto <;> cases hls : Pl.ls upto.data.toList key.data.toList <;> cases hlm : decide (0 ≤ limit ∧ limit ≤ 4096)
        all_goals
          rw [hgt, hls, hlm] at hv
          have HV := Lib.hid hv
          have HG := Lib.hid (And.intro hgt hls)
          clear hv hgt hls
          go_enter Try.func87, Try.ntmps87
          go_wp2_with fail
          generalize w.alloc _ = W at hn hb hz ⊢
          obtain ⟨x0, x1, x2, x3, x4⟩ := id hn
          simp only [] at x0 x1 x2 x3 x4
          refine (HU.out _).mono ?_
          rintro e wn ⟨rfl, hbn⟩
          replace hb := below_of hb hbn
          replace hn := hn.up hbn hz
          replace hz := Nat.lt_of_lt_of_le hz hbn.size
          clear hbn x0 x1 x2 x3 x4
          obtain ⟨x0, x1, x2, x3, x4⟩ := id hn
          simp only [] at x0 x1 x2 x3 x4
          go_wp2_with fail
          refine (HUk.out _).mono ?_
          rintro e wn ⟨rfl, hbn⟩
          replace hb := below_of hb hbn
          replace hn := hn.up hbn hz
          replace hz := Nat.lt_of_lt_of_le hz hbn.size
          clear hbn x0 x1 x2 x3 x4
          obtain ⟨x0, x1, x2, x3, x4⟩ := id hn
          simp only [] at x0 x1 x2 x3 x4
          go_wp2_with fail
          skip
          refine (Calls.to (refkey_any upto _ HK.out.2) (congrArg Value.bool HG.out.1)).mono ?_
          rintro e wn ⟨rfl, hbn⟩
          replace hb := below_of hb hbn
          replace hn := hn.up hbn hz
          replace hz := Nat.lt_of_lt_of_le hz hbn.size
          clear hbn x0 x1 x2 x3 x4
          obtain ⟨x0, x1, x2, x3, x4⟩ := id hn
          simp only [] at x0 x1 x2 x3 x4
          go_wp2_with fail
          first
          | go_ret
            exact ⟨ret_bool HV.out, hb⟩
          | refine (Calls.to (refless_any upto key _ HK.out.2 HK.out.1) (congrArg Value.bool HG.out.2)).mono ?_
            first
            | skip
              rintro e wn ⟨rfl, hbn⟩
              replace hb := below_of hb hbn
              replace hn := hn.up hbn hz
              replace hz := Nat.lt_of_lt_of_le hz hbn.size
              clear hbn x0 x1 x2 x3 x4
              obtain ⟨x0, x1, x2, x3, x4⟩ := id hn
              simp only [] at x0 x1 x2 x3 x4
              go_wp2_with fail
              go_ret
              exact ⟨ret_bool HV.out, hb⟩
            | rcases (show limit < 0 ∨ (0 ≤ limit ∧ 4096 < limit) ∨ (0 ≤ limit ∧ limit ≤ 4096) by omega) with l | ⟨l, l'⟩ | ⟨l, l'⟩
              · first
                | exact (absurd (of_decide_eq_true hlm) (by omega))
                | exact (of_decide_eq_false hlm (by omega)).elim
                | clear hlm
                  have t1 : ¬ 0 ≤ limit := by omega
                  rintro e wn ⟨rfl, hbn⟩
                  replace hb := below_of hb hbn
                  replace hn := hn.up hbn hz
                  replace hz := Nat.lt_of_lt_of_le hz hbn.size
                  clear hbn x0 x1 x2 x3 x4
                  obtain ⟨x0, x1, x2, x3, x4⟩ := id hn
                  simp only [] at x0 x1 x2 x3 x4
                  go_wp2_with fail
                  go_ret
                  exact ⟨ret_bool HV.out, hb⟩
              · first
                | exact (absurd (of_decide_eq_true hlm) (by omega))
                | exact (of_decide_eq_false hlm (by omega)).elim
                | clear hlm
                  have t1 : decide (limit ≤ 4096) = false := decide_eq_false (by omega)
                  rintro e wn ⟨rfl, hbn⟩
                  replace hb := below_of hb hbn
                  replace hn := hn.up hbn hz
                  replace hz := Nat.lt_of_lt_of_le hz hbn.size
                  clear hbn x0 x1 x2 x3 x4
                  obtain ⟨x0, x1, x2, x3, x4⟩ := id hn
                  simp only [] at x0 x1 x2 x3 x4
                  go_wp2_with fail
                  go_ret
                  exact ⟨ret_bool HV.out, hb⟩
              · first
                | exact (absurd (of_decide_eq_true hlm) (by omega))
                | exact (of_decide_eq_false hlm (by omega)).elim
                | clear hlm
                  skip
                  rintro e wn ⟨rfl, hbn⟩
                  replace hb := below_of hb hbn
                  replace hn := hn.up hbn hz
                  replace hz := Nat.lt_of_lt_of_le hz hbn.size
                  clear hbn x0 x1 x2 x3 x4
                  obtain ⟨x0, x1, x2, x3, x4⟩ := id hn
                  simp only [] at x0 x1 x2 x3 x4
                  go_wp2_with fail
                  go_ret
                  exact ⟨ret_bool HV.out, hb⟩
    · cases hgk : goodK key
      · rw [hgk] at hv
        have HV := Lib.hid hv
        have HGK := Lib.hid hgk
        clear hv hgk
        go_enter Try.func87, Try.ntmps87
        go_wp2_with fail
        generalize w.alloc _ = W at hn hb hz ⊢
        obtain ⟨x0, x1, x2, x3, x4⟩ := id hn
        simp only [] at x0 x1 x2 x3 x4
        refine (HU.out _).mono ?_
        rintro e wn ⟨rfl, hbn⟩
        replace hb := below_of hb hbn
        replace hn := hn.up hbn hz
        replace hz := Nat.lt_of_lt_of_le hz hbn.size
        clear hbn x0 x1 x2 x3 x4
        obtain ⟨x0, x1, x2, x3, x4⟩ := id hn
        simp only [] at x0 x1 x2 x3 x4
        go_wp2_with fail
        refine (HUk.out _).mono ?_
        rintro e wn ⟨rfl, hbn⟩
        replace hb := below_of hb hbn
        replace hn := hn.up hbn hz
        replace hz := Nat.lt_of_lt_of_le hz hbn.size
        clear hbn x0 x1 x2 x3 x4
        obtain ⟨x0, x1, x2, x3, x4⟩ := id hn
        simp only [] at x0 x1 x2 x3 x4
        go_wp2_with fail
        refine (Calls.to (refkey_any key _ HK.out.1) (congrArg Value.bool HGK.out)).mono ?_
        rintro e wn ⟨rfl, hbn⟩
        replace hb := below_of hb hbn
        replace hn := hn.up hbn hz
        replace hz := Nat.lt_of_lt_of_le hz hbn.size
        clear hbn x0 x1 x2 x3 x4
        obtain ⟨x0, x1, x2, x3, x4⟩ := id hn
        simp only [] at x0 x1 x2 x3 x4
        go_wp2_with fail
        go_ret
        exact ⟨ret_bool HV.out, hb⟩
      · rw [hgk] at hv
        have HGK := Lib.hid hgk
        clear hgk
        cases tu
        · have HV := Lib.hid hv
          clear hv
          go_enter Try.func87, Try.ntmps87
          go_wp2_with fail
          generalize w.alloc _ = W at hn hb hz ⊢
          obtain ⟨x0, x1, x2, x3, x4⟩ := id hn
          simp only [] at x0 x1 x2 x3 x4
          refine (HU.out _).mono ?_
          rintro e wn ⟨rfl, hbn⟩
          replace hb := below_of hb hbn
          replace hn := hn.up hbn hz
          replace hz := Nat.lt_of_lt_of_le hz hbn.size
          clear hbn x0 x1 x2 x3 x4
          obtain ⟨x0, x1, x2, x3, x4⟩ := id hn
          simp only [] at x0 x1 x2 x3 x4
          go_wp2_with fail
          refine (HUk.out _).mono ?_
          rintro e wn ⟨rfl, hbn⟩
          replace hb := below_of hb hbn
          replace hn := hn.up hbn hz
          replace hz := Nat.lt_of_lt_of_le hz hbn.size
          clear hbn x0 x1 x2 x3 x4
          obtain ⟨x0, x1, x2, x3, x4⟩ := id hn
          simp only [] at x0 x1 x2 x3 x4
          go_wp2_with fail
          refine (Calls.to (refkey_any key _ HK.out.1) (congrArg Value.bool HGK.out)).mono ?_
          rintro e wn ⟨rfl, hbn⟩
          replace hb := below_of hb hbn
          replace hn := hn.up hbn hz
          replace hz := Nat.lt_of_lt_of_le hz hbn.size
          clear hbn x0 x1 x2 x3 x4
          obtain ⟨x0, x1, x2, x3, x4⟩ := id hn
          simp only [] at x0 x1 x2 x3 x4
          go_wp2_with fail
          go_ret
          exact ⟨ret_bool HV.out, hb⟩
        · cases hgt : goodK upto <;> cases hls : Pl.ls upto.data.toList key.data.toList <;> cases hlm : decide (0 ≤ limit ∧ limit ≤ 4096)
          all_goals
            rw [hgt, hls, hlm] at hv
            have HV := Lib.hid hv
            have HG := Lib.hid (And.intro hgt hls)
            clear hv hgt hls
            go_enter Try.func87, Try.ntmps87
            go_wp2_with fail
            generalize w.alloc _ = W at hn hb hz ⊢
            obtain ⟨x0, x1, x2, x3, x4⟩ := id hn
            simp only [] at x0 x1 x2 x3 x4
            refine (HU.out _).mono ?_
            rintro e wn ⟨rfl, hbn⟩
            replace hb := below_of hb hbn
            replace hn := hn.up hbn hz
            replace hz := Nat.lt_of_lt_of_le hz hbn.size
            clear hbn x0 x1 x2 x3 x4
            obtain ⟨x0, x1, x2, x3, x4⟩ := id hn
            simp only [] at x0 x1 x2 x3 x4
            go_wp2_with fail
            refine (HUk.out _).mono ?_
            rintro e wn ⟨rfl, hbn⟩
            replace hb := below_of hb hbn
            replace hn := hn.up hbn hz
            replace hz := Nat.lt_of_lt_of_le hz hbn.size
            clear hbn x0 x1 x2 x3 x4
            obtain ⟨x0, x1, x2, x3, x4⟩ := id hn
            simp only [] at x0 x1 x2 x3 x4
            go_wp2_with fail
            refine (Calls.to (refkey_any key _ HK.out.1) (congrArg Value.bool HGK.out)).mono ?_
            rintro e wn ⟨rfl, hbn⟩
            replace hb := below_of hb hbn
            replace hn := hn.up hbn hz
            replace hz := Nat.lt_of_lt_of_le hz hbn.size
            clear hbn x0 x1 x2 x3 x4
            obtain ⟨x0, x1, x2, x3, x4⟩ := id hn
            simp only [] at x0 x1 x2 x3 x4
            go_wp2_with fail
            refine (Calls.to (refkey_any upto _ HK.out.2) (congrArg Value.bool HG.out.1)).mono ?_
            rintro e wn ⟨rfl, hbn⟩
            replace hb := below_of hb hbn
            replace hn := hn.up hbn hz
            replace hz := Nat.lt_of_lt_of_le hz hbn.size
            clear hbn x0 x1 x2 x3 x4
            obtain ⟨x0, x1, x2, x3, x4⟩ := id hn
            simp only [] at x0 x1 x2 x3 x4
            go_wp2_with fail
            first
            | go_ret
              exact ⟨ret_bool HV.out, hb⟩
            | refine (Calls.to (refless_any upto key _ HK.out.2 HK.out.1) (congrArg Value.bool HG.out.2)).mono ?_
              first
              | skip
                rintro e wn ⟨rfl, hbn⟩
                replace hb := below_of hb hbn
                replace hn := hn.up hbn hz
                replace hz := Nat.lt_of_lt_of_le hz hbn.size
                clear hbn x0 x1 x2 x3 x4
                obtain ⟨x0, x1, x2, x3, x4⟩ := id hn
                simp only [] at x0 x1 x2 x3 x4
                go_wp2_with fail
                go_ret
                exact ⟨ret_bool HV.out, hb⟩
              | rcases (show limit < 0 ∨ (0 ≤ limit ∧ 4096 < limit) ∨ (0 ≤ limit ∧ limit ≤ 4096) by omega) with l | ⟨l, l'⟩ | ⟨l, l'⟩
                · first
                  | exact (absurd (of_decide_eq_true hlm) (by omega))
                  | exact (of_decide_eq_false hlm (by omega)).elim
                  | clear hlm
                    have t1 : ¬ 0 ≤ limit := by omega
                    rintro e wn ⟨rfl, hbn⟩
                    replace hb := below_of hb hbn
                    replace hn := hn.up hbn hz
                    replace hz := Nat.lt_of_lt_of_le hz hbn.size
                    clear hbn x0 x1 x2 x3 x4
                    obtain ⟨x0, x1, x2, x3, x4⟩ := id hn
                    simp only [] at x0 x1 x2 x3 x4
                    go_wp2_with fail
                    go_ret
                    exact ⟨ret_bool HV.out, hb⟩
                · first
                  | exact (absurd (of_decide_eq_true hlm) (by omega))
                  | exact (of_decide_eq_false hlm (by omega)).elim
                  | clear hlm
                    have t1 : decide (limit ≤ 4096) = false := decide_eq_false (by omega)
                    rintro e wn ⟨rfl, hbn⟩
                    replace hb := below_of hb hbn
                    replace hn := hn.up hbn hz
                    replace hz := Nat.lt_of_lt_of_le hz hbn.size
                    clear hbn x0 x1 x2 x3 x4
                    obtain ⟨x0, x1, x2, x3, x4⟩ := id hn
                    simp only [] at x0 x1 x2 x3 x4
                    go_wp2_with fail
                    go_ret
                    exact ⟨ret_bool HV.out, hb⟩
                · first
                  | exact (absurd (of_decide_eq_true hlm) (by omega))
                  | exact (of_decide_eq_false hlm (by omega)).elim
                  | clear hlm
                    skip
                    rintro e wn ⟨rfl, hbn⟩
                    replace hb := below_of hb hbn
                    replace hn := hn.up hbn hz
                    replace hz := Nat.lt_of_lt_of_le hz hbn.size
                    clear hbn x0 x1 x2 x3 x4
                    obtain ⟨x0, x1, x2, x3, x4⟩ := id hn
                    simp only [] at x0 x1 x2 x3 x4
                    go_wp2_with fail
                    go_ret
                    exact ⟨ret_bool HV.out, hb⟩

end Go.Proofs.Ytggjlnjpokdfpaa
