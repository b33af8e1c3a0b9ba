/- The law SortedApart returns true at every row of numbers and two numbers. No condition. -/
import Derived.Test.YtggjlnjpokdfpaaApart
namespace Go.Proofs.Ytggjlnjpokdfpaa
open Go.RowKit

set_option maxRecDepth 100000 in
set_option maxHeartbeats 2000000 in
theorem sortedapart_long (A : Option Addr) (n c : Nat) (i x : Int) (w : World) (hn : 100 < n) (hn2 : n ≤ 9223372036854775807) :
    Calls Try.prog 9 #[.slice A n c, .int .i64 i, .int .i64 x] w (Ret (.bool true) w) := by
  have HB := Below.refl w.heap.size w
  go_enter Try.func9, Try.ntmps9
  go_wp2_with fail
  refine (lives4_any _).mono ?_
  rintro e wn ⟨rfl, hbn⟩
  replace HB := below_of (show Below w.heap.size w _ from (by first | exact HB | exact below_drewN HB _ | exact Below.drew HB | exact below_of HB (below_alloc _ _) | exact below_of (below_drewN HB _) (below_alloc _ _))) hbn
  clear hbn
  go_wp2_with fail
  go_ret
  exact ⟨rfl, HB⟩

set_option maxRecDepth 100000 in
set_option maxHeartbeats 8000000 in
theorem sortedapart_short (A : Option Addr) (n c : Nat) (zs : List Int) (i x : Int) (w : World) (h : RdI w A n zs) (hn : n ≤ 100) :
    Calls Try.prog 9 #[.slice A n c, .int .i64 i, .int .i64 x] w (Ret (.bool true) w) := by
  obtain ⟨Ao, co, wo, hap, hown, hB0, hco⟩ := run_clone (P := Try.prog) 44 44 3 (.int .i64 0) 8 Try.underlying44 joinI_info rfl (by omega) A n c (i64s zs) h (i64s_one zs) (by omega)
  have hro : RdI wo Ao n zs := Rd.of_own hown
  have Hap := Lib.hid hap
  have HB := Lib.hid hB0
  have HOL := Lib.hid (fun k hk => (own_lt hown (k := k) hk).2)
  have HOW := Lib.hid hown
  have HR0 := Lib.hid hro
  have HS := Lib.hid (Nat.le_refl wo.heap.size)
  clear hap hown hB0 hro h
  go_enter Try.func9, Try.ntmps9
  go_wp2_with (at_builtin; refine wpList_append_run rfl (.tmp 28) (.tmp 29) 44 rfl rfl rfl Hap.out ?_)
  clear Hap
  refine (addI_b Ao n co i x zs _ HR0.out hn hco).mono ?_
  rintro e w1 ⟨A1, m1, c1, z1, b1, rfl, r1, hb⟩
  replace HR0 := Lib.hid (HR0.out.up hb)
  replace HOW := Lib.hid (own_up HOW.out hb)
  replace HB := Lib.hid (below_of HB.out hb)
  (try replace H1 := Lib.hid (H1.out.up hb))
  (try replace H2 := Lib.hid (H2.out.up hb))
  (try replace H3 := Lib.hid (H3.out.up hb))
  (try replace H4 := Lib.hid (H4.out.up hb))
  have H1 := Lib.hid (r1.mono HS.out)
  replace HS := Lib.hid (Nat.le_trans HS.out hb.size)
  clear hb r1
  go_wp2_with fail
  refine (cutI_b Ao n co i zs _ HR0.out hn hco).mono ?_
  rintro e w2 ⟨A2, m2, c2, z2, b2, rfl, r2, hb⟩
  replace HR0 := Lib.hid (HR0.out.up hb)
  replace HOW := Lib.hid (own_up HOW.out hb)
  replace HB := Lib.hid (below_of HB.out hb)
  (try replace H1 := Lib.hid (H1.out.up hb))
  (try replace H2 := Lib.hid (H2.out.up hb))
  (try replace H3 := Lib.hid (H3.out.up hb))
  (try replace H4 := Lib.hid (H4.out.up hb))
  have H2 := Lib.hid (r2.mono HS.out)
  replace HS := Lib.hid (Nat.le_trans HS.out hb.size)
  clear hb r2
  go_wp2_with fail
  refine (setI_b Ao n co i x zs _ HR0.out hn).mono ?_
  rintro e w3 ⟨A3, m3, c3, z3, b3, rfl, r3, hb⟩
  replace HR0 := Lib.hid (HR0.out.up hb)
  replace HOW := Lib.hid (own_up HOW.out hb)
  replace HB := Lib.hid (below_of HB.out hb)
  (try replace H1 := Lib.hid (H1.out.up hb))
  (try replace H2 := Lib.hid (H2.out.up hb))
  (try replace H3 := Lib.hid (H3.out.up hb))
  (try replace H4 := Lib.hid (H4.out.up hb))
  have H3 := Lib.hid (r3.mono HS.out)
  replace HS := Lib.hid (Nat.le_trans HS.out hb.size)
  clear hb r3
  go_wp2_with fail
  refine (partI_b Ao n co i n zs _ HR0.out hn hco).mono ?_
  rintro e w4 ⟨A4, m4, c4, z4, rfl, r4, hb⟩
  replace HR0 := Lib.hid (HR0.out.up hb)
  replace HOW := Lib.hid (own_up HOW.out hb)
  replace HB := Lib.hid (below_of HB.out hb)
  (try replace H1 := Lib.hid (H1.out.up hb))
  (try replace H2 := Lib.hid (H2.out.up hb))
  (try replace H3 := Lib.hid (H3.out.up hb))
  (try replace H4 := Lib.hid (H4.out.up hb))
  have H4 := Lib.hid (r4.mono HS.out)
  replace HS := Lib.hid (Nat.le_trans HS.out hb.size)
  clear hb r4
  go_wp2_with fail
  refine (joinI_b Ao n co zs _ HR0.out hn).mono ?_
  rintro e w5 ⟨A5, rfl, r5, hb⟩
  replace HR0 := Lib.hid (HR0.out.up hb)
  replace HOW := Lib.hid (own_up HOW.out hb)
  replace HB := Lib.hid (below_of HB.out hb)
  (try replace H1 := Lib.hid (H1.out.up hb))
  (try replace H2 := Lib.hid (H2.out.up hb))
  (try replace H3 := Lib.hid (H3.out.up hb))
  (try replace H4 := Lib.hid (H4.out.up hb))
  have H5 := Lib.hid (r5.mono HS.out)
  replace HS := Lib.hid (Nat.le_trans HS.out hb.size)
  clear hb r5
  go_upto_region 10 with fail
  obtain ⟨L, hL⟩ : ∃ L : List (Value × List Int), L = [(.slice A1 m1 c1, z1), (.slice A2 m2 c2, z2), (.slice A3 m3 c3, z3), (.slice A4 m4 c4, z4), (.slice A5 n n, zs)] := ⟨_, rfl⟩
  have hrd : Reads w5 wo.heap.size L := by rw [hL]; exact Reads.cons H1.out (Reads.cons H2.out (Reads.cons H3.out (Reads.cons H4.out (Reads.cons H5.out (Reads.nil _ _)))))
  have hall := heap_new w5 #[.slice A1 m1 c1, .slice A2 m2 c2, .slice A3 m3 c3, .slice A4 m4 c4, .slice A5 n n] 44
  have hb := below_alloc w5 (.cells #[.slice A1 m1 c1, .slice A2 m2 c2, .slice A3 m3 c3, .slice A4 m4 c4, .slice A5 n n] 44)
  have hall2 : (L.map Prod.fst).toArray = #[.slice A1 m1 c1, .slice A2 m2 c2, .slice A3 m3 c3, .slice A4 m4 c4, .slice A5 n n] := by rw [hL]; rfl
  have hL5 : L.length = 5 := by rw [hL]; rfl
  replace hrd := hrd.up hb
  replace HOW := Lib.hid (own_up HOW.out hb)
  replace HB := Lib.hid (below_of HB.out hb)
  have HSG := Lib.hid HS.out
  replace HS := Lib.hid (Nat.le_trans HS.out hb.size)
  clear hb hL H1 H2 H3 H4 H5 HR0
  generalize w5.alloc _ = W at hrd hall HOW HB HS ⊢
  generalize w5.heap.size = ga at hall HSG ⊢
  generalize wo.heap.size = So at hrd HOL HSG HS
  rw [← hall2] at hall
  clear hall2
  have HRD := Lib.hid hrd
  have HALL := Lib.hid hall
  have HL5 := Lib.hid hL5
  clear hrd hall hL5
  have hO := (Ow.start (Sx.start0 W)).nil 44 1
  simp only [List.nil_append] at hO
  have HO := Lib.hid hO
  clear hO
  go_wp2_with fail
  go_loopw [17, 19, 66] (fun v _ i wr => ∃ (j : Nat) (Aw : Option Addr) (cw : Nat) (M : List (Value × List Int)), i = .int .i64 j ∧ v = .slice Aw j cw ∧ Hid (j ≤ 5 ∧ M.length = j ∧ M.map Prod.snd = (L.map Prod.snd).take j ∧
    Ow W.heap.size W wr [] (⟨44, 1, .slice Aw j cw, j, M.map Prod.fst⟩ :: ownR M))) (fun _ _ i _ => 5 - (intOf i).toNat)
  case atStart => exact ⟨0, none, 0, [], rfl, rfl, by omega, rfl, by simp, HO.out⟩
  case round =>
    obtain ⟨j, Aw, cw, M, rfl, rfl, H⟩ := hrel
    clear HO
    have HO := Lib.hid H.out.2.2.2
    have HM := Lib.hid (And.intro H.out.2.1 H.out.2.2.1)
    have hj5 := H.out.1
    clear H
    by_cases hlt : j < 5
    · obtain ⟨p, hp⟩ : ∃ p, L[j]? = some p := ⟨_, List.getElem?_eq_getElem (by rw [HL5.out]; exact hlt)⟩
      obtain ⟨A9, m9, c9, hpv, hr9⟩ := HRD.out j p hp
      obtain ⟨pv, z9⟩ := p
      simp only [] at hpv hr9
      subst hpv
      have hcell : wr.cell? ⟨ga, j, none⟩ = some (.slice A9 m9 c9) := by
        rw [HO.out.below.cell (p := ⟨ga, j, none⟩) (Array.getElem?_eq_some_iff.1 HALL.out).1, cell_of_row W ga j _ _ _ HALL.out]
        simp [hp]
      have hr8 := hr9.rd.up HO.out.below
      obtain ⟨A8, c8, w8, hap8, hown8, hb8, hc8⟩ := run_clone (P := Try.prog) 44 44 3 (.int .i64 0) 8 Try.underlying44 joinI_info rfl (by omega) A9 m9 c9 (i64s z9) hr8 (i64s_one z9) (by have := hr9.le; omega)
      have hO8 := HO.out.row hb8 hown8
      obtain ⟨A7, c7, w7, hap7, hc7, hO7⟩ := hO8.push (P := Try.prog) 0 rfl 51 51 (.slice none 0 0) 24 Try.underlying51 rows_info rfl (by omega) [.slice A8 m9 c8] rfl (fun u hu => by rw [List.mem_singleton] at hu; subst hu; rfl) (by omega) (by omega)
      have Hap8 := Lib.hid hap8
      have Hap7 := Lib.hid hap7
      have HO7 := Lib.hid hO7
      have HZ := Lib.hid (show (M ++ [(Value.slice A8 m9 c8, z9)]).map Prod.snd = (L.map Prod.snd).take (j + 1) by
        rw [List.map_append, HM.out.2, List.take_add_one, List.getElem?_map, hp]; rfl)
      have HML := Lib.hid hr9.rd.len
      clear hap8 hap7 hO7 hO8 hown8 hb8 hr8 hr9 hp
      go_wp2_with (first | (at_builtin; refine wpList_append_run rfl (.tmp 71) (.tmp 72) 44 rfl rfl rfl Hap8.out ?_) | (at_builtin; refine wpList_append_run rfl (.tmp 70) (.tmp 74) 51 rfl rfl rfl Hap7.out ?_))
      go_roundw
      case rel =>
        refine ⟨j + 1, A7, c7, M ++ [(Value.slice A8 m9 c8, z9)], by go_num, rfl, by omega, by rw [List.length_append, HM.out.1]; rfl, HZ.out, ?_⟩
        have := HO7.out
        simp only [List.cons_append, List.set_cons_zero] at this
        rw [ownR_snoc]
        simp only [List.map_append, List.map_cons, List.map_nil, HML.out]
        exact this
      case measure => simp [intOf]; omega
    · obtain rfl : j = 5 := by omega
      clear hlt hj5
      have htw := twins_of (HRD.out.up HO.out.below) HO.out (Nat.le_trans HS.out (Nat.le_refl _)) (by rw [HM.out.2, List.take_of_length_le (by rw [List.length_map, HL5.out]; omega)])
      have HM5 := Lib.hid HM.out.1
      have hwas := Rd.of_own (HO.out.own 0 _ rfl)
      have hwl := own_lt' (HO.out.own 0 _ rfl)
      have hoi := own_ints (own_up HOW.out HO.out.below) (fun k hk => HOL.out k hk)
      have hbe := below_of HB.out HO.out.below
      have hall := (HO.out.below.block ga (Array.getElem?_eq_some_iff.1 HALL.out).1).trans HALL.out
      have HSo := Lib.hid (Nat.le_trans HS.out HO.out.below.size)
      have hwge : ∀ a, Aw = some a → So ≤ a.block := fun a e => Nat.le_trans HS.out (hwl a e)
      clear HO HRD HALL HOW HB HS HM hwl
      have HTW := Lib.hid htw
      have HWA := Lib.hid (And.intro hwas hwge)
      have HOI := Lib.hid hoi
      have HBE := Lib.hid hbe
      have HALL := Lib.hid hall
      clear htw hwas hoi hbe hall hwge
      rename World => Wa
      go_wp2_with fail
      go_loopw [20, 79] (fun _ i wr => ∃ (j : Nat), i = .int .i64 j ∧ Hid (j ≤ n ∧ Off (fun k => k < So) Wa wr ∧ Below w.heap.size w wr ∧ OwnInts w.heap.size So wr Ao n)) (fun _ i _ => n - (intOf i).toNat)
      case atStart => exact ⟨0, rfl, Nat.zero_le _, Off.refl _ _, HBE.out, HOI.out⟩
      case round =>
        obtain ⟨j, rfl, H⟩ := hrel
        have hjn := H.out.1
        have HOF := Lib.hid H.out.2.1
        have HBL := Lib.hid H.out.2.2.1
        have HON := Lib.hid H.out.2.2.2
        clear H
        by_cases hlt : j < n
        · obtain ⟨g, cur, hAo, hg1, hg2, hg3, hg4⟩ := HON.out (by omega)
          subst hAo
          obtain ⟨z, hz⟩ := hg4 j hlt
          have hcell : wr.cell? ⟨g, j, none⟩ = some (.int .i64 z) := by rw [cell_of_row wr g j _ _ _ hg3]; simpa using hz
          have hfr := heap_frozen hg3 j
          have HG := Lib.hid (And.intro hg1 hg2)
          clear hg1 hg2 hg3 hg4 hz
          go_wp2_with fail
          go_roundw
          case rel =>
            refine ⟨j + 1, by go_num, by omega, HOF.out.trans (Off.of_setCell wr ⟨g, j, none⟩ _) (fun q _ e => by have := HG.out; simp only [] at e; omega), (Off.of_setCell wr ⟨g, j, none⟩ _).below HBL.out HBL.out.size (fun q hq e => by have := HG.out; simp only [] at e; omega), HON.out.set hlt⟩
          case measure => simp [intOf]; omega
        · have htw := HTW.out.off HOF.out
          have hwa := rd_offB HWA.out.1 (fun _ => HWA.out.2) HOF.out
          have hall := (HOF.out.block ga (Array.getElem?_eq_some_iff.1 HALL.out).1 (by have := HSG.out; omega)).trans HALL.out
          obtain ⟨bw, offw, rfl, hbw, hcw⟩ := hwa.2 (by omega)
          clear HTW HALL HWA HOF HON HOI HBE hwa
          have HTW := Lib.hid htw
          have HALL := Lib.hid hall
          have HWA := Lib.hid (And.intro hbw hcw)
          clear htw hall hbw hcw
          rename World => Wb
          go_wp2_with fail
          go_loopw [21, 22, 23, 91, 98] (fun _ _ _ i _ wr => ∃ (j : Nat), i = .int .i64 j ∧ j ≤ 5 ∧ Below Wb.heap.size Wb wr) (fun _ _ _ i _ _ => 5 - (intOf i).toNat)
          case atStart => exact ⟨0, rfl, by omega, Below.refl _ _⟩
          case round =>
            obtain ⟨j, rfl, hj5, hbl⟩ := hrel
            have HBr := Lib.hid hbl
            clear hbl
            by_cases hlt : j < 5
            · obtain ⟨p, hp⟩ : ∃ p, L[j]? = some p := ⟨_, List.getElem?_eq_getElem (by rw [HL5.out]; exact hlt)⟩
              obtain ⟨q, hq⟩ : ∃ q, M[j]? = some q := ⟨_, List.getElem?_eq_getElem (by rw [HM5.out]; exact hlt)⟩
              obtain ⟨A7, m7, c7, A8, c8, z7, hpv, hqv, hr7, hr8⟩ := HTW.out j p q hp hq
              obtain ⟨pv, pz⟩ := p
              obtain ⟨qv, qz⟩ := q
              simp only [] at hpv hqv
              subst hpv hqv
              have hcell : wr.cell? ⟨ga, j, none⟩ = some (.slice A7 m7 c7) := by
                rw [HBr.out.cell (p := ⟨ga, j, none⟩) (Array.getElem?_eq_some_iff.1 HALL.out).1, cell_of_row Wb ga j _ _ _ HALL.out]
                simp [hp]
              have HR7 := Lib.hid (And.intro hr7.rd hr8.rd)
              have HQ := Lib.hid hq
              have hm7 : m7 ≤ 1000 := hr7.le
              clear hp hr7 hr8 hq
              go_wp2_with fail
              clear hcell
              go_loopw [23, 98] (fun _ i wr => ∃ (k : Nat), i = .int .i64 k ∧ k ≤ m7 ∧ Below Wb.heap.size Wb wr) (fun _ i _ => m7 - (intOf i).toNat)
              case atStart => exact ⟨0, rfl, by omega, HBr.out⟩
              case round =>
                obtain ⟨k, rfl, hkm, hbl⟩ := hrel
                have HBq := Lib.hid hbl
                clear hbl
                by_cases hlt2 : k < m7
                · obtain ⟨b7, o7, rfl, hb7, hc7⟩ := RdI.spot (HR7.out.1.up HBq.out) (show 0 < m7 by omega)
                  obtain ⟨b8, o8, rfl, hb8, hc8⟩ := RdI.spot (HR7.out.2.up HBq.out) (show 0 < m7 by omega)
                  have hzl : k < z7.length := by rw [HR7.out.1.len]; exact hlt2
                  have k1 := hc7 k hzl
                  have k2 := hc8 k hzl
                  have k3 := (HBq.out.cell (p := ⟨bw, offw + j, none⟩) HWA.out.1).trans (HWA.out.2 j (.slice (some ⟨b8, o8, none⟩) m7 c8) (by rw [List.getElem?_map, HQ.out]; rfl))
                  clear hb7 hc7 hb8 hc8
                  generalize z7[k] = zk at k1 k2
                  have hzz : ((zk : Int) != zk) = false := by simp
                  go_wp2_with fail
                  go_quiet (fail)
                  go_wp2_with fail
                  go_roundw
                  case rel => exact ⟨k + 1, by go_num, by omega, below_drewN HBq.out _⟩
                  case measure => simp [intOf]; omega
                · go_wp2_with fail
                  go_roundw
                  case rel => exact ⟨j + 1, by go_num, by omega, HBq.out⟩
                  case measure => simp [intOf]; omega
            · go_wp2_with fail
              refine (lives4_any _).mono ?_
              rintro e w9 ⟨rfl, hb9⟩
              go_wp2_with fail
              go_ret
              exact ⟨rfl, below_of (below_of HBL.out HBr.out) hb9⟩

theorem sortedapart_walk (A : Option Addr) (n c : Nat) (zs : List Int) (i x : Int) (w : World) (h : RdI w A n zs ∧ (∀ z ∈ zs, (Lit.int .i64 z).wf = true) ∧ n ≤ c ∧ n ≤ 9223372036854775807)
    (_ : -9223372036854775808 ≤ i ∧ i ≤ 9223372036854775807) (_ : -9223372036854775808 ≤ x ∧ x ≤ 9223372036854775807) :
    Calls Try.prog 9 #[.slice A n c, .int .i64 i, .int .i64 x] w (Ret (.bool true) w) := by
  by_cases hn : n ≤ 100
  · exact sortedapart_short A n c zs i x w h.1 hn
  · exact sortedapart_long A n c i x w (by omega) h.2.2.2

end Go.Proofs.Ytggjlnjpokdfpaa
