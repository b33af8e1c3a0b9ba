/- The law SortedRows returns true at every row of numbers and three numbers: the other cases, and all. No condition. -/
import Derived.Test.YtggjlnjpokdfpaaSortedRows
namespace Go.Proofs.Ytggjlnjpokdfpaa
open Go.RowKit

set_option maxRecDepth 100000 in
set_option maxHeartbeats 2000000 in
theorem sortedrows_end (A : Option Addr) (n c : Nat) (zs : List Int) (x j : Int) (w : World) (h : RdI w A n zs) (hn : n ≤ 100) :
    Calls Try.prog 8 #[.slice A n c, .int .i64 (n : Int), .int .i64 x, .int .i64 j] w (Ret (.bool true) w) := by
  have hlen := Lib.hid h.len
  obtain ⟨Ao, co, wo, hap, hown, HB, hco⟩ := run_clone (P := Try.prog) 44 44 3 (.int .i64 0) 8 Try.underlying44 joinI_info rfl (by omega) A n c (i64s zs) h (i64s_one zs) (by omega)
  have hro : Rd wo wo.heap.size 1 Ao n (i64s zs) := Rd.of_own hown
  have hrl : Rd wo wo.heap.size 1 A n (i64s zs) := Rd.up h HB
  have Hz1 := Lib.hid (i64s_one zs)
  have hPP : part zs n j = [] := by
    apply List.eq_nil_of_length_eq_zero
    rw [part_length, hlen.out]; unfold pc; omega
  have HPP := Lib.hid hPP
  have Hap := Lib.hid hap
  clear hown hap hPP
  go_enter Try.func8, Try.ntmps8
  go_wp2_with (at_builtin; refine wpList_append_run rfl (.tmp 25) (.tmp 26) 44 rfl rfl rfl Hap.out ?_)
  refine (addI_yes _ n co n x (i64s zs) _ hro Hz1.out (by omega) hco (by omega) (by omega)).mono ?_
  rintro e w1 ⟨rfl, HA, hb1⟩
  rw [i64s_ins, Int.toNat_natCast] at HA
  have HA1 := Lib.hid HA
  clear HA
  go_wp2_with fail
  refine (cutI_no _ n co n _ (by omega)).mono ?_
  rintro e w2 ⟨rfl, hb2⟩
  go_wp2_with fail
  refine (setI_no _ n co n x _ (by omega)).mono ?_
  rintro e w3 ⟨rfl, hb3⟩
  go_wp2_with fail
  refine (partI_any _ n co n j (i64s zs) _ (((hro.up hb1).up hb2).up hb3) Hz1.out (by omega) hco).mono ?_
  rintro e w4 ⟨Ap, rfl, -, hb4⟩
  rw [i64s_part, HPP.out]
  simp only [i64s, List.map_nil, List.length_nil]
  go_wp2_with fail
  refine (joinI_any _ Ap n co 0 0 (i64s zs) [] _ ((((hro.up hb1).up hb2).up hb3).up hb4) (Rd.nil _ _ _ _) Hz1.out (by simp) (by omega) (by omega)).mono ?_
  rintro e w5 ⟨rfl, HJ, hb5⟩
  rw [List.append_nil] at HJ
  have HJ5 := Lib.hid HJ
  clear HJ
  have hb15 := below_of hb2 (below_of hb3 (below_of hb4 hb5))
  have hbo5 := below_of hb1 hb15
  have z1 := (Array.getElem?_eq_some_iff.1 HA1.out).1
  have HA5 := Lib.hid (cells_of_heap ((hb15.block _ z1).trans HA1.out))
  have HJJ := Lib.hid (cells_of_heap HJ5.out)
  have HO5 := Lib.hid ((hro.up hbo5 : RdI w5 _ n zs))
  have HL5 := Lib.hid ((hrl.up hbo5 : RdI w5 _ n zs))
  have HB5 := below_of HB hbo5
  have lA := Lib.hid (ins_length zs n x (by have := hlen.out; omega))
  have cA : w5.cell? ⟨wo.heap.size, n, none⟩ = some (.int .i64 x) := by
    rw [HA5.out n (by rw [lA.out, hlen.out]; omega), ins_at zs n x (by rw [hlen.out]; omega)]
  have t0 : (x != x) = false := by simp
  have t2 : ((n : Int) + 1 != (n : Int) + 1) = false := by simp
  have t4 : ((n : Int) != (n : Int)) = false := by simp
  clear HA1 HJ5 hb1 hb2 hb3 hb4 hb5 hb15 hbo5 z1 HB hrl hro Hap HPP
  go_wp2_with fail
  go_loop [18, 19, 20, 156] (fun sp _ _ si => ∃ k : Nat, k ≤ n ∧ si = .int .i64 k ∧ sp = .int .i64 0) (fun _ _ _ si => n - (intOf si).toNat)
  case atStart => exact ⟨0, Nat.zero_le _, rfl, rfl⟩
  case round =>
    obtain ⟨k, hk, rfl, rfl⟩ := hrel
    by_cases hlt : k < n
    · have hkz : k < zs.length := by rw [hlen.out]; exact hlt
      obtain ⟨bo, oo, rfl, _, hco'⟩ := RdI.spot HO5.out (by omega)
      obtain ⟨bl, ol, rfl, _, hcl'⟩ := RdI.spot HL5.out (by omega)
      have cO := hco' k hkz
      have cL := hcl' k hkz
      have cJ := HJJ.out k hkz
      obtain ⟨z, hz⟩ : ∃ z, zs[k] = z := ⟨_, rfl⟩
      rw [hz] at cO cL cJ
      have tz : (z != z) = false := by simp
      have cA' : w5.cell? ⟨wo.heap.size, k, none⟩ = some (.int .i64 z) := by
        rw [HA5.out k (by rw [lA.out, hlen.out]; omega), ins_lt zs n x k hlt (by rw [hlen.out]; omega), hz]
      clear hz hco' hcl'
      go_wp2_with fail
      go_round
      case rel => exact ⟨k + 1, by omega, by go_num, rfl⟩
      case measure => simp [intOf]; omega
    · obtain rfl : k = n := by omega
      go_wp2_with fail
      refine (lives4_any _).mono ?_
      rintro e w6 ⟨rfl, hb6⟩
      go_wp2_with fail
      go_ret
      exact ⟨rfl, below_of HB5 hb6⟩

set_option maxRecDepth 100000 in
set_option maxHeartbeats 2000000 in
theorem sortedrows_out (A : Option Addr) (n c : Nat) (zs : List Int) (i x j : Int) (w : World) (h : RdI w A n zs) (hn : n ≤ 100) (hi : i < 0 ∨ (n : Int) < i) :
    Calls Try.prog 8 #[.slice A n c, .int .i64 i, .int .i64 x, .int .i64 j] w (Ret (.bool true) w) := by
  have hlen := Lib.hid h.len
  obtain ⟨Ao, co, wo, hap, hown, HB, hco⟩ := run_clone (P := Try.prog) 44 44 3 (.int .i64 0) 8 Try.underlying44 joinI_info rfl (by omega) A n c (i64s zs) h (i64s_one zs) (by omega)
  have hro : Rd wo wo.heap.size 1 Ao n (i64s zs) := Rd.of_own hown
  have hrl : Rd wo wo.heap.size 1 A n (i64s zs) := Rd.up h HB
  have Hz1 := Lib.hid (i64s_one zs)
  have hpl := Lib.hid (part_length zs i j)
  have hpn : (part zs i j).length ≤ 100 := by rw [hpl.out, hlen.out]; unfold pc; omega
  have Hap := Lib.hid hap
  clear hown hap
  go_enter Try.func8, Try.ntmps8
  go_wp2_with (at_builtin; refine wpList_append_run rfl (.tmp 25) (.tmp 26) 44 rfl rfl rfl Hap.out ?_)
  refine (addI_no _ n co i x _ (by omega)).mono ?_
  rintro e w1 ⟨rfl, hb1⟩
  go_wp2_with fail
  refine (cutI_no _ n co i _ (by omega)).mono ?_
  rintro e w2 ⟨rfl, hb2⟩
  go_wp2_with fail
  refine (setI_no _ n co i x _ (by omega)).mono ?_
  rintro e w3 ⟨rfl, hb3⟩
  go_wp2_with fail
  refine (partI_any _ n co i j (i64s zs) _ (((hro.up hb1).up hb2).up hb3) Hz1.out (by omega) hco).mono ?_
  rintro e w4 ⟨Ap, rfl, HP, hb4⟩
  rw [i64s_part] at HP
  rw [i64s_part, i64s_length]
  have HP4 := Lib.hid HP
  clear HP
  go_wp2_with fail
  have hrp : Rd w4 w4.heap.size 1 Ap (part zs i j).length (i64s (part zs i j)) := by have := HP4.out.rd; rwa [i64s_length] at this
  refine (joinI_any _ Ap n co (part zs i j).length (part zs i j).length (i64s zs) (i64s (part zs i j)) _ ((((hro.up hb1).up hb2).up hb3).up hb4) hrp Hz1.out (i64s_one _) (by omega) (by omega)).mono ?_
  rintro e w5 ⟨rfl, HJ, hb5⟩
  rw [i64s_app] at HJ
  have HJ5 := Lib.hid HJ
  clear HJ hrp
  have hbo5 := below_of hb1 (below_of hb2 (below_of hb3 (below_of hb4 hb5)))
  have HP5 : Hid (0 < (part zs i j).length → Ap = some ⟨w3.heap.size, 0, none⟩ ∧ ∀ (m : Nat) (hm : m < (part zs i j).length), w5.cell? ⟨w3.heap.size, m, none⟩ = some (.int .i64 (part zs i j)[m])) := fun h0 => by
    obtain ⟨e, hh⟩ := HP4.out (by rw [i64s_length]; exact h0)
    exact ⟨e, cells_of_heap ((hb5.block _ (Array.getElem?_eq_some_iff.1 hh).1).trans hh)⟩
  have HJJ := Lib.hid (cells_of_heap HJ5.out)
  have HO5 := Lib.hid ((hro.up hbo5 : RdI w5 _ n zs))
  have HL5 := Lib.hid ((hrl.up hbo5 : RdI w5 _ n zs))
  have HB5 := below_of HB hbo5
  have t3 : ((n : Int) + ((part zs i j).length : Int) != (n : Int) + ((part zs i j).length : Int)) = false := by simp
  clear HP4 HJ5 hb1 hb2 hb3 hb4 hb5 hbo5 HB hrl hro Hap
  have Hpl : Hid ((part zs i j).length = pc i j n) := by rw [hpl.out, hlen.out]; exact rfl
  clear hpl
  have HPat : Hid (∀ (k : Nat) (hk : k < zs.length), i < 0 → (k : Int) < j → ∀ hh : k < (part zs i j).length, (part zs i j)[k] = zs[k]) := fun k hk h1 h2 hh => by
    apply get_of_opt
    unfold part
    rw [List.getElem?_take, if_pos (by unfold part at hh; simp at hh; omega), List.getElem?_drop]
    congr 1; omega
  generalize part zs i j = PP at *
  have hpc0 : pc i j 0 = 0 := by unfold pc; omega
  have Hpc0 := Lib.hid hpc0
  clear hpc0
  rcases hi with hi | hi
  all_goals
    go_wp2_with fail
    go_loop [18, 19, 20, 156] (fun sp _ _ si => ∃ k : Nat, k ≤ n ∧ si = .int .i64 k ∧ sp = .int .i64 (pc i j k : Nat)) (fun _ _ _ si => n - (intOf si).toNat)
    case atStart => exact ⟨0, Nat.zero_le _, rfl, by rw [Hpc0.out]; rfl⟩
    case round =>
      obtain ⟨k, hk, rfl, rfl⟩ := hrel
      by_cases hlt : k < n
      · have hkz : k < zs.length := by rw [hlen.out]; exact hlt
        obtain ⟨bo, oo, rfl, _, hco'⟩ := RdI.spot HO5.out (by omega)
        obtain ⟨bl, ol, rfl, _, hcl'⟩ := RdI.spot HL5.out (by omega)
        have cO := hco' k hkz
        have cL := hcl' k hkz
        have cJ : w5.cell? ⟨w4.heap.size, k, none⟩ = some (.int .i64 zs[k]) := by
          rw [HJJ.out k (by rw [List.length_append]; omega), List.getElem_append_left hkz]
        obtain ⟨z, hz⟩ : ∃ z, zs[k] = z := ⟨_, rfl⟩
        rw [hz] at cO cL cJ
        have tz : (z != z) = false := by simp
        clear hco' hcl'
        by_cases hkj : (k : Int) < j ∧ i < 0
        · obtain ⟨hkj, hineg⟩ := hkj
          have hpe : pc i j k = k := by unfold pc; omega
          have hpk : pc i j (k + 1) = k + 1 := by unfold pc; omega
          have hpl : k < PP.length := by rw [Hpl.out]; unfold pc; omega
          obtain ⟨rfl, hcp⟩ := HP5.out (by omega)
          have cP := hcp _ hpl
          rw [HPat.out k hkz hineg hkj hpl, hz] at cP
          have cJ2 : w5.cell? ⟨w4.heap.size, n + k, none⟩ = some (.int .i64 z) := by
            have hln := hlen.out
            rw [HJJ.out (n + k) (by rw [List.length_append]; omega), List.getElem_append_right (by omega), ← hz, ← HPat.out k hkz hineg hkj hpl]
            congr 3; omega
          rw [hpe]
          have Hpk := Lib.hid hpk
          clear hpk hz hcp hpe
          go_wp2_with fail
          all_goals
            go_round
            case rel => exact ⟨k + 1, by omega, by go_num, by rw [Hpk.out]; go_num⟩
            case measure => simp [intOf]; omega
        · have hpk : pc i j (k + 1) = pc i j k := by unfold pc; omega
          have Hpk := Lib.hid hpk
          have hcase : ¬ i ≤ k ∨ ¬ (k : Int) < j := by omega
          clear hpk hz hkj
          rcases hcase with hca | hcb
          · go_wp2_with fail
            all_goals
              go_round
              case rel => exact ⟨k + 1, by omega, by go_num, by rw [Hpk.out]⟩
              case measure => simp [intOf]; omega
          · go_wp2_with fail
            all_goals
              go_round
              case rel => exact ⟨k + 1, by omega, by go_num, by rw [Hpk.out]⟩
              case measure => simp [intOf]; omega
      · obtain rfl : k = n := by omega
        have t9 : ((pc i j k : Nat) : Int) = (PP.length : Int) := by rw [Hpl.out]
        go_wp2_with fail
        refine (lives4_any _).mono ?_
        rintro e w6 ⟨rfl, hb6⟩
        go_wp2_with fail
        go_ret
        exact ⟨rfl, below_of HB5 hb6⟩

set_option maxRecDepth 100000 in
theorem sortedrows_walk (A : Option Addr) (n c : Nat) (zs : List Int) (i x j : Int) (w : World) (h : RdI w A n zs ∧ (∀ z ∈ zs, (Lit.int .i64 z).wf = true) ∧ n ≤ c ∧ n ≤ 9223372036854775807)
    (_hi : -9223372036854775808 ≤ i ∧ i ≤ 9223372036854775807) (_hx : -9223372036854775808 ≤ x ∧ x ≤ 9223372036854775807) (hj : -9223372036854775808 ≤ j ∧ j ≤ 9223372036854775807) :
    Calls Try.prog 8 #[.slice A n c, .int .i64 i, .int .i64 x, .int .i64 j] w (Ret (.bool true) w) := by
  obtain ⟨h, _, _, hn⟩ := h
  by_cases hs : n ≤ 100
  · rcases (show (0 ≤ i ∧ i < n) ∨ i = n ∨ (i < 0 ∨ (n : Int) < i) from by omega) with ⟨h0, h1⟩ | rfl | h1
    · obtain ⟨q, rfl⟩ := Int.eq_ofNat_of_zero_le h0
      exact sortedrows_in A n c zs q x j w h hs (by omega) hj.2
    · exact sortedrows_end A n c zs x j w h hs
    · exact sortedrows_out A n c zs i x j w h hs h1
  · have HB := Below.refl w.heap.size w
    go_enter Try.func8, Try.ntmps8
    go_wp2_with fail
    refine (lives4_any _).mono ?_
    rintro e wn ⟨rfl, hbn⟩
    replace HB := below_of (show Below w.heap.size w _ from (by first | exact HB | exact below_drewN HB _ | exact Below.drew HB | exact below_of HB (below_alloc _ _) | exact below_of (below_drewN HB _) (below_alloc _ _))) hbn
    clear hbn
    go_wp2_with fail
    go_ret
    exact ⟨rfl, HB⟩
end Go.Proofs.Ytggjlnjpokdfpaa
