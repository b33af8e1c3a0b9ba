/- The law SortedRows returns true at every row of numbers and three numbers. No condition. -/
import Derived.Test.YtggjlnjpokdfpaaSortedStays
import Derived.Test.YtggjlnjpokdfpaaClone
namespace Go.Proofs.Ytggjlnjpokdfpaa
open Go.RowKit

/-- A row of numbers, cell by cell: what a walk reads. -/
def Cells (w : World) (g off : Nat) (zs : List Int) : Prop := ∀ (j : Nat) (hj : j < zs.length), w.cell? ⟨g, off + j, none⟩ = some (.int .i64 zs[j])
theorem cells_of_heap {w : World} {g : Nat} {zs : List Int} {E : TypeId} {fr : Nat × Nat} (h : w.heap[g]? = some (.cells (i64s zs).toArray E fr)) : ∀ (j : Nat) (hj : j < zs.length), w.cell? ⟨g, j, none⟩ = some (.int .i64 zs[j]) := by
  intro j hj
  rw [heap_cell h j (by rw [i64s_length]; exact hj)]
  simp [i64s]
theorem RdI.lit {w : World} {b off n : Nat} {zs : List Int} (h : RdI w (some ⟨b, off, none⟩) n zs) : ∀ (j : Nat) (hj : j < zs.length), w.cell? ⟨b, off + j, none⟩ = some (.int .i64 zs[j]) := by
  intro j hj
  obtain ⟨b', off', e, _, hc⟩ := h.spot (by have := h.len; omega)
  injection e with e
  injection e with e1 e2
  subst e1 e2
  exact hc j hj
theorem i64s_ins (zs : List Int) (k : Nat) (x : Int) : ins (i64s zs) k (.int .i64 x) = i64s (ins zs k x) := by simp [ins, i64s]
theorem i64s_erase (zs : List Int) (k : Nat) : (i64s zs).eraseIdx k = i64s (zs.eraseIdx k) := by simp [i64s, List.eraseIdx_eq_take_drop_succ]
theorem i64s_set (zs : List Int) (k : Nat) (x : Int) : (i64s zs).set k (.int .i64 x) = i64s (zs.set k x) := by simp [i64s, List.map_set]
theorem i64s_part (zs : List Int) (i j : Int) : part (i64s zs) i j = i64s (part zs i j) := by simp [part, i64s]
theorem i64s_app (xs ys : List Int) : i64s xs ++ i64s ys = i64s (xs ++ ys) := by simp [i64s]

theorem get_of_opt {α : Type} {xs ys : List α} {i j : Nat} (hi : i < xs.length) (hj : j < ys.length) (h : xs[i]? = ys[j]?) : xs[i] = ys[j] := by
  rw [List.getElem?_eq_getElem hi, List.getElem?_eq_getElem hj] at h
  exact Option.some.inj h
theorem ins_lt {α : Type} (xs : List α) (k : Nat) (x : α) (j : Nat) (hj : j < k) (hk : k ≤ xs.length) (h : j < (ins xs k x).length) : (ins xs k x)[j] = xs[j]'(by omega) := by
  apply get_of_opt
  unfold ins
  rw [List.getElem?_append_left (by simp; omega), List.getElem?_take, if_pos hj]
theorem ins_at {α : Type} (xs : List α) (k : Nat) (x : α) (hk : k ≤ xs.length) (h : k < (ins xs k x).length) : (ins xs k x)[k] = x := by
  have e : (ins xs k x)[k]? = some x := by
    unfold ins
    rw [List.getElem?_append_right (by simp; omega)]
    have e2 : k - (xs.take k).length = 0 := by simp; omega
    rw [e2]; rfl
  rw [List.getElem?_eq_getElem h] at e
  exact Option.some.inj e
theorem ins_gt {α : Type} (xs : List α) (k : Nat) (x : α) (j : Nat) (hj : k ≤ j) (hl : j < xs.length) (h : j + 1 < (ins xs k x).length) : (ins xs k x)[j + 1] = xs[j] := by
  apply get_of_opt
  unfold ins
  rw [List.getElem?_append_right (by simp; omega)]
  have e : j + 1 - (xs.take k).length = j - k + 1 := by simp; omega
  rw [e, List.getElem?_cons_succ, List.getElem?_drop]
  congr 1; omega
/-- How many of the first k places lie in the part. -/
def pc (i j : Int) (k : Nat) : Nat := min k j.toNat - i.toNat
theorem part_length {α : Type} (xs : List α) (i j : Int) : (part xs i j).length = pc i j xs.length := by
  unfold part pc; simp; omega
theorem part_at {α : Type} (xs : List α) (i j : Int) (k : Nat) (hk : k < xs.length) (h1 : i ≤ k) (h2 : (k : Int) < j) (h0 : 0 ≤ i) (h : pc i j k < (part xs i j).length) : (part xs i j)[pc i j k] = xs[k] := by
  apply get_of_opt
  have e : pc i j k = k - i.toNat := by unfold pc; omega
  unfold part
  rw [e, List.getElem?_take, if_pos (by omega), List.getElem?_drop]
  congr 1; omega

set_option maxRecDepth 100000 in
set_option maxHeartbeats 2000000 in
theorem sortedrows_in (A : Option Addr) (n c : Nat) (zs : List Int) (q : Nat) (x j : Int) (w : World) (h : RdI w A n zs) (hn : n ≤ 100) (hin : q < n) (hj : j ≤ 9223372036854775807) :
    Calls Try.prog 8 #[.slice A n c, .int .i64 (q : Int), .int .i64 x, .int .i64 j] w (Ret (.bool true) w) := by
  have hlen := Lib.hid h.len
  obtain ⟨Ao, co, wo, hap, hown, HB, hco⟩ := run_clone (P := Try.prog) 44 44 3 (.int .i64 0) 8 Try.underlying44 joinI_info rfl (by omega) A n c (i64s zs) h (i64s_one zs) (by omega)
  have hro : Rd wo wo.heap.size 1 Ao n (i64s zs) := Rd.of_own hown
  have hrl : Rd wo wo.heap.size 1 A n (i64s zs) := Rd.up h HB
  obtain ⟨bo, oo, rfl, hbo, _⟩ := hro.2 (by omega)
  obtain ⟨bl, ol, rfl, hbl, _⟩ := hrl.2 (by omega)
  have Hz1 := Lib.hid (i64s_one zs)
  have hpl := Lib.hid (part_length zs q j)
  have hpn : (part zs q j).length ≤ 100 := by rw [hpl.out, hlen.out]; unfold pc; omega
  have Hap := Lib.hid hap
  clear hown hap
  go_enter Try.func8, Try.ntmps8
  go_wp2_with (at_builtin; refine wpList_append_run rfl (.tmp 25) (.tmp 26) 44 rfl rfl rfl Hap.out ?_)
  refine (addI_yes _ n co q x (i64s zs) _ hro Hz1.out (by omega) hco (by omega) (by omega)).mono ?_
  rintro e w1 ⟨rfl, HA, hb1⟩
  rw [i64s_ins, Int.toNat_natCast] at HA
  have HA1 := Lib.hid HA
  clear HA
  go_wp2_with fail
  refine (cutI_yes _ n co q (i64s zs) _ (hro.up hb1) Hz1.out (by omega) hco (by omega) (by omega)).mono ?_
  rintro e w2 ⟨rfl, HC, hb2⟩
  rw [i64s_erase, Int.toNat_natCast] at HC
  have HC2 := Lib.hid HC
  clear HC
  go_wp2_with fail
  refine (setI_yes _ n co q x (i64s zs) _ ((hro.up hb1).up hb2) Hz1.out (by omega) (by omega) (by omega)).mono ?_
  rintro e w3 ⟨rfl, HS, hb3⟩
  rw [i64s_set, Int.toNat_natCast] at HS
  have HS3 := Lib.hid HS
  clear HS
  go_wp2_with fail
  refine (partI_any _ n co q j (i64s zs) _ (((hro.up hb1).up hb2).up hb3) Hz1.out (by omega) hco).mono ?_
  rintro e w4 ⟨Ap, rfl, HP, hb4⟩
  rw [i64s_part] at HP
  rw [i64s_part, i64s_length]
  have HP4 := Lib.hid HP
  clear HP
  go_wp2_with fail
  have hrp : Rd w4 w4.heap.size 1 Ap (part zs q j).length (i64s (part zs q j)) := by have := HP4.out.rd; rwa [i64s_length] at this
  refine (joinI_any _ Ap n co (part zs q j).length (part zs q j).length (i64s zs) (i64s (part zs q j)) _ ((((hro.up hb1).up hb2).up hb3).up hb4) hrp Hz1.out (i64s_one _) (by omega) (by omega)).mono ?_
  rintro e w5 ⟨rfl, HJ, hb5⟩
  rw [i64s_app] at HJ
  have HJ5 := Lib.hid HJ
  clear HJ hrp
  have hb45 := hb5
  have hb35 := below_of hb4 hb45
  have hb25 := below_of hb3 hb35
  have hb15 := below_of hb2 hb25
  have hbo5 := below_of hb1 hb15
  have z1 := (Array.getElem?_eq_some_iff.1 HA1.out).1
  have z2 := (Array.getElem?_eq_some_iff.1 HC2.out).1
  have z3 := (Array.getElem?_eq_some_iff.1 HS3.out).1
  have HA5 := Lib.hid (cells_of_heap ((hb15.block _ z1).trans HA1.out))
  have HC5 := Lib.hid (cells_of_heap ((hb25.block _ z2).trans HC2.out))
  have HS5 := Lib.hid (cells_of_heap ((hb35.block _ z3).trans HS3.out))
  have HP5 : Hid (0 < (part zs q j).length → Ap = some ⟨w3.heap.size, 0, none⟩ ∧ ∀ (m : Nat) (hm : m < (part zs q j).length), w5.cell? ⟨w3.heap.size, m, none⟩ = some (.int .i64 (part zs q j)[m])) := fun h0 => by
    obtain ⟨e, hh⟩ := HP4.out (by rw [i64s_length]; exact h0)
    exact ⟨e, cells_of_heap ((hb45.block _ (Array.getElem?_eq_some_iff.1 hh).1).trans hh)⟩
  have HJJ := Lib.hid (cells_of_heap HJ5.out)
  have HO5 := Lib.hid (RdI.lit (zs := zs) ((hro.up hbo5 : RdI w5 _ n zs)))
  have HL5 := Lib.hid (RdI.lit (zs := zs) ((hrl.up hbo5 : RdI w5 _ n zs)))
  have HB5 := below_of HB hbo5
  have lA := Lib.hid (ins_length zs q x (by have := hlen.out; omega))
  have cA : w5.cell? ⟨wo.heap.size, q, none⟩ = some (.int .i64 x) := by
    rw [HA5.out q (by rw [lA.out, hlen.out]; omega), ins_at zs q x (by rw [hlen.out]; omega)]
  have cS : w5.cell? ⟨w2.heap.size, q, none⟩ = some (.int .i64 x) := by
    rw [HS5.out q (by rw [List.length_set, hlen.out]; omega), List.getElem_set_self]
  have t0 : (x != x) = false := by simp
  have t1 : (((n - 1 : Nat) : Int) != (n : Int) - 1) = false := by rw [bne_eq_false_iff_eq]; omega
  have t2 : ((n : Int) + 1 != (n : Int) + 1) = false := by simp
  have t3 : ((n : Int) + ((part zs q j).length : Int) != (n : Int) + ((part zs q j).length : Int)) = false := by simp
  have t4 : ((n : Int) != (n : Int)) = false := by simp
  clear HA1 HC2 HS3 HP4 HJ5 hb1 hb2 hb3 hb4 hb5 hb45 hb35 hb25 hb15 hbo5 z1 z2 z3 HB hrl hro Hap
  have Hpl : Hid ((part zs q j).length = pc q j n) := by rw [hpl.out, hlen.out]; exact rfl
  clear hpl
  have HPat : Hid (∀ (k : Nat) (hk : k < zs.length), q ≤ k → (k : Int) < j → ∀ hh : pc q j k < (part zs q j).length, (part zs q j)[pc q j k] = zs[k]) :=
    fun k hk h1 h2 hh => part_at zs q j k hk (by omega) h2 (by omega) hh
  generalize part zs q j = PP at *
  go_wp2_with fail
  have hpc0 : pc q j 0 = 0 := by unfold pc; omega
  have Hpc0 := Lib.hid hpc0
  clear hpc0
  go_loop [18, 19, 20, 156] (fun sp _ _ si => ∃ k : Nat, k ≤ n ∧ si = .int .i64 k ∧ sp = .int .i64 (pc q j k : Nat)) (fun _ _ _ si => n - (intOf si).toNat)
  case atStart => exact ⟨0, Nat.zero_le _, rfl, by rw [Hpc0.out]; rfl⟩
  case round =>
    obtain ⟨k, hk, rfl, rfl⟩ := hrel
    by_cases hlt : k < n
    · have hkz : k < zs.length := by rw [hlen.out]; exact hlt
      have cO := HO5.out k hkz
      have cL := HL5.out k hkz
      have cJ : w5.cell? ⟨w4.heap.size, k, none⟩ = some (.int .i64 zs[k]) := by
        rw [HJJ.out k (by rw [List.length_append]; omega), List.getElem_append_left hkz]
      obtain ⟨z, hz⟩ : ∃ z, zs[k] = z := ⟨_, rfl⟩
      rw [hz] at cO cL cJ
      have tz : (z != z) = false := by simp
      rcases (show k < q ∨ k = q ∨ q < k from by omega) with hkq | rfl | hkq
      · have cA' : w5.cell? ⟨wo.heap.size, k, none⟩ = some (.int .i64 z) := by
          rw [HA5.out k (by rw [lA.out, hlen.out]; omega), ins_lt zs q x k hkq (by rw [hlen.out]; omega), hz]
        have cC' : w5.cell? ⟨w1.heap.size, k, none⟩ = some (.int .i64 z) := by
          rw [HC5.out k (by rw [List.length_eraseIdx, if_pos (by rw [hlen.out]; exact hin), hlen.out]; omega), List.getElem_eraseIdx_of_lt _ hkq, hz]
        have cS' : w5.cell? ⟨w2.heap.size, k, none⟩ = some (.int .i64 z) := by
          rw [HS5.out k (by rw [List.length_set]; exact hkz), List.getElem_set_ne (by omega), hz]
        have u1 : ((k : Int) != (q : Int)) = true := by rw [bne_iff_ne]; omega
        have hpk : pc q j (k + 1) = pc q j k := by unfold pc; omega
        have Hpk := Lib.hid hpk
        clear hpk hz
        go_wp2_with fail
        go_round
        case rel => exact ⟨k + 1, by omega, by go_num, by rw [Hpk.out]⟩
        case measure => simp [intOf]; omega
      · have cA' : w5.cell? ⟨wo.heap.size, k + 1, none⟩ = some (.int .i64 z) := by
          rw [HA5.out (k + 1) (by rw [lA.out, hlen.out]; omega), ins_gt zs k x k (Nat.le_refl _) hkz, hz]
        have u1 : ((k : Int) != (k : Int)) = false := by simp
        by_cases hkj : (k : Int) < j
        · have hpk : pc k j (k + 1) = pc k j k + 1 := by unfold pc; omega
          have hpl : pc k j k < PP.length := by rw [Hpl.out]; unfold pc; omega
          obtain ⟨rfl, hcp⟩ := HP5.out (by omega)
          have cP := hcp _ hpl
          rw [HPat.out k hkz (by omega) hkj hpl, hz] at cP
          have cJ2 : w5.cell? ⟨w4.heap.size, n + pc k j k, none⟩ = some (.int .i64 z) := by
            have hln := hlen.out
            rw [HJJ.out (n + pc k j k) (by rw [List.length_append]; omega), List.getElem_append_right (by omega), ← hz, ← HPat.out k hkz (by omega) hkj hpl]
            congr 3; omega
          have Hpk := Lib.hid hpk
          clear hpk hz hcp
          go_wp2_with fail
          go_round
          case rel => exact ⟨k + 1, by omega, by go_num, by rw [Hpk.out]; go_num⟩
          case measure => simp [intOf]; omega
        · have hpk : pc k j (k + 1) = pc k j k := by unfold pc; omega
          have Hpk := Lib.hid hpk
          clear hpk hz
          go_wp2_with fail
          go_round
          case rel => exact ⟨k + 1, by omega, by go_num, by rw [Hpk.out]⟩
          case measure => simp [intOf]; omega
      · have cA' : w5.cell? ⟨wo.heap.size, k + 1, none⟩ = some (.int .i64 z) := by
          rw [HA5.out (k + 1) (by rw [lA.out, hlen.out]; omega), ins_gt zs q x k (by omega) hkz, hz]
        have cC' : w5.cell? ⟨w1.heap.size, k - 1, none⟩ = some (.int .i64 z) := by
          rw [HC5.out (k - 1) (by rw [List.length_eraseIdx, if_pos (by rw [hlen.out]; exact hin), hlen.out]; omega), List.getElem_eraseIdx_of_ge _ (by omega), ← hz]
          congr 3; omega
        have cS' : w5.cell? ⟨w2.heap.size, k, none⟩ = some (.int .i64 z) := by
          rw [HS5.out k (by rw [List.length_set]; exact hkz), List.getElem_set_ne (by omega), hz]
        have u1 : ((k : Int) != (q : Int)) = true := by rw [bne_iff_ne]; omega
        have s8 : ((k : Int) - 1).toNat = k - 1 := by omega
        by_cases hkj : (k : Int) < j
        · have hpk : pc q j (k + 1) = pc q j k + 1 := by unfold pc; omega
          have hpl : pc q j k < PP.length := by rw [Hpl.out]; unfold pc; omega
          obtain ⟨rfl, hcp⟩ := HP5.out (by omega)
          have cP := hcp _ hpl
          rw [HPat.out k hkz (by omega) hkj hpl, hz] at cP
          have cJ2 : w5.cell? ⟨w4.heap.size, n + pc q j k, none⟩ = some (.int .i64 z) := by
            have hln := hlen.out
            rw [HJJ.out (n + pc q j k) (by rw [List.length_append]; omega), List.getElem_append_right (by omega), ← hz, ← HPat.out k hkz (by omega) hkj hpl]
            congr 3; omega
          have Hpk := Lib.hid hpk
          clear hpk hz hcp
          go_wp2_with fail
          go_round
          case rel => exact ⟨k + 1, by omega, by go_num, by rw [Hpk.out]; go_num⟩
          case measure => simp [intOf]; omega
        · have hpk : pc q j (k + 1) = pc q j k := by unfold pc; omega
          have Hpk := Lib.hid hpk
          clear hpk hz
          go_wp2_with fail
          go_round
          case rel => exact ⟨k + 1, by omega, by go_num, by rw [Hpk.out]⟩
          case measure => simp [intOf]; omega
    · obtain rfl : k = n := by omega
      have t9 : ((pc q j k : Nat) : Int) = (PP.length : Int) := by rw [Hpl.out]
      go_wp2_with fail
      refine (lives4_any _).mono ?_
      rintro e w6 ⟨rfl, hb6⟩
      go_wp2_with fail
      go_ret
      exact ⟨rfl, below_of HB5 hb6⟩
end Go.Proofs.Ytggjlnjpokdfpaa
