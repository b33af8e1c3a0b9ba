/- Contracts of bowerref06: Get, Delete, Put. -/
import Derived.Test.YtcoiadncennhpaaPairs
import Derived.Test.YtcoiadncennhpaaKey2
import Derived.Test.YtcoiadncennhpaaClone
namespace Go.Proofs.Ytcoiadncennhpaa
open Go.RowKit

theorem gotM_first {m : List PairD} {k : ByteArray} {j : Nat} (hj : j < m.length) (h : m[j].key = k) (hp : ∀ q (hq : q < m.length), q < j → m[q].key ≠ k) : Pl.gotM m k = some m[j] := by
  have e : m = m.take j ++ m[j] :: m.drop (j + 1) := by rw [← List.drop_eq_getElem_cons hj, List.take_append_drop]
  have h1 : (m.take j).find? (fun p => decide (p.key = k)) = none := by
    rw [List.find?_eq_none]
    intro p hm
    obtain ⟨q, hq, rfl⟩ := List.getElem_of_mem hm
    rw [List.length_take] at hq
    rw [List.getElem_take, decide_eq_true_iff]
    exact hp q (by omega) (by omega)
  have h2 : Pl.gotM m k = (m.take j ++ m[j] :: m.drop (j + 1)).find? (fun p => decide (p.key = k)) := by rw [← e]; rfl
  rw [h2, List.find?_append, h1, List.find?_cons, decide_eq_true h]
  rfl
theorem getM_first {m : List PairD} {k : ByteArray} {j : Nat} (hj : j < m.length) (h : m[j].key = k) (hp : ∀ q (hq : q < m.length), q < j → m[q].key ≠ k) : Pl.getM m k = (m[j].val, true) := by unfold Pl.getM; rw [gotM_first hj h hp]
theorem getM_no {m : List PairD} {k : ByteArray} (hp : ∀ q (hq : q < m.length), m[q].key ≠ k) : Pl.getM m k = (0, false) := by
  unfold Pl.getM
  rw [Pl.gotM_none fun p hm => by
    obtain ⟨q, hq, rfl⟩ := List.getElem_of_mem hm
    exact hp q hq]
theorem delM_take {ps : List PairD} {k : ByteArray} {j : Nat} (hj : j < ps.length) : Pl.delM (ps.take (j + 1)) k = Pl.delM (ps.take j) k ++ (if ps[j].key = k then [] else [ps[j]]) := by
  unfold Pl.delM
  rw [List.take_add_one, List.getElem?_eq_getElem hj, Option.toList, List.filter_append]
  congr 1
  by_cases h : ps[j].key = k
  · rw [if_pos h, List.filter_cons, decide_eq_true h]; rfl
  · rw [if_neg h, List.filter_cons, decide_eq_false h]; rfl
theorem delM_len (ps : List PairD) (k : ByteArray) : (Pl.delM ps k).length ≤ ps.length := List.length_filter_le _ _

set_option maxRecDepth 100000 in
set_option maxHeartbeats 1000000 in
theorem get06_any (A : Option Addr) (c : Nat) (ps : List PairD) (k : ByteArray) (w : World) (h : Prs w A ps.length ps) (hl : ps.length ≤ 10000) :
    Calls Try.prog 92 #[.slice A ps.length c, .string k] w (Ret (.tuple #[.int .u64 (Pl.getM ps k).1, .bool (Pl.getM ps k).2]) w) := by
  have HH := Lib.hid h
  clear h
  go_enter Try.func92, Try.ntmps92
  go_wp2_with fail
  go_loopw [6] (fun i wr => ∃ j : Nat, i = .int .i64 j ∧ Hid (j ≤ ps.length ∧ (∀ q (hq : q < ps.length), q < j → ps[q].key ≠ k) ∧ Below w.heap.size w wr)) (fun i _ => ps.length - (intOf i).toNat)
  case atStart => exact ⟨0, rfl, Nat.zero_le _, fun q _ hq => absurd hq (Nat.not_lt_zero _), Below.refl _ _⟩
  case round =>
    obtain ⟨j, rfl, H⟩ := hrel
    by_cases hlt : j < ps.length
    · obtain ⟨b, off, _, hA, hb, c0, c1⟩ := (HH.out.up H.out.2.2).at_ hlt
      subst hA
      have HN0 := Lib.hid (fun (e : ps[j].key = k) => getM_first hlt e H.out.2.1)
      have HN1 := Lib.hid (fun (e : ps[j].key ≠ k) => show ∀ q (hq : q < ps.length), q < j + 1 → ps[q].key ≠ k from fun q hq hqj => by
        rcases Nat.lt_succ_iff_lt_or_eq.1 hqj with g | rfl
        · exact H.out.2.1 q hq g
        · exact e)
      have HB := Lib.hid H.out.2.2
      clear H hb
      generalize ps[j] = p at c0 c1 HN0 HN1
      by_cases he : p.key = k
      · have h1 := txt_is he
        have HG := Lib.hid (HN0.out he)
        clear he HN0 HN1
        go_wp2_with fail
        go_ret2
        rw [HG.out]
        exact ⟨rfl, HB.out⟩
      · have h1 := txt_ne he
        have HG := Lib.hid (HN1.out he)
        clear he HN0 HN1
        go_wp2_with fail
        go_roundw
        case rel => exact ⟨j + 1, by go_num, by omega, HG.out, HB.out⟩
        case measure => simp [intOf]; omega
    · have HF := Lib.hid (getM_no (m := ps) (k := k) fun q hq => H.out.2.1 q hq (by omega))
      have HB := Lib.hid H.out.2.2
      clear H
      go_wp2_with fail
      go_ret2
      rw [HF.out]
      exact ⟨rfl, HB.out⟩

set_option maxRecDepth 100000 in
set_option maxHeartbeats 1000000 in
theorem del06_any (A : Option Addr) (c : Nat) (ps : List PairD) (k : ByteArray) (w : World) (h : Prs w A ps.length ps) (hl : ps.length ≤ 1000) :
    Calls Try.prog 93 #[.slice A ps.length c, .string k] w (PrsRet (Pl.delM ps k) w) := by
  have HH := Lib.hid h
  have hO := (Ow.start (Sx.start0 w)).nil 48 2
  simp only [List.nil_append] at hO
  have HO := Lib.hid hO
  clear h hO
  go_enter Try.func93, Try.ntmps93
  go_wp2_with fail
  go_loopw [5, 6] (fun v i wr => ∃ (j m : Nat) (A1 : Option Addr) (c1 : Nat), i = .int .i64 j ∧ v = .slice A1 m c1 ∧ Hid (j ≤ ps.length ∧ m = (Pl.delM (ps.take j) k).length ∧ m ≤ j ∧
    Ow w.heap.size w wr [] [⟨48, 2, .slice A1 m c1, m, prRow (Pl.delM (ps.take j) k)⟩])) (fun _ i _ => ps.length - (intOf i).toNat)
  case atStart => exact ⟨0, 0, none, 0, rfl, rfl, Nat.zero_le _, rfl, Nat.le_refl _, HO.out⟩
  case round =>
    obtain ⟨j, m, A1, c1, rfl, rfl, H⟩ := hrel
    clear HO
    by_cases hlt : j < ps.length
    · obtain ⟨b, off, _, hA, hbw, x0, x1⟩ := (HH.out.up H.out.2.2.2.below).at_ hlt
      subst hA
      have HT := Lib.hid (delM_take (k := k) hlt)
      have HO := Lib.hid H.out.2.2.2
      have HM := Lib.hid (And.intro H.out.2.1 H.out.2.2.1)
      have HMP := Lib.hid (fun x => HO.out.pushP 56 (by kernel_rfl) 0 rfl x (by have := HM.out; omega))
      clear H hbw
      generalize ps[j] = p at x0 x1 HT
      have hm : m ≤ 1000 := by have := HM.out; omega
      obtain ⟨A2, c2, W3, hrun, hc2, hO2⟩ := HMP.out p
      simp only [List.set_cons_zero] at hO2
      clear HMP
      by_cases ht : p.key = k
      · have h1 := txt_is ht
        have HN := Lib.hid (HT.out.trans (by rw [if_pos ht, List.append_nil]))
        clear hO2 hrun HT ht
        go_wp2_with fail
        go_roundw
        case rel => exact ⟨j + 1, m, A1, c1, by go_num, rfl, by omega, by rw [HN.out]; exact HM.out.1, by have := HM.out; omega, by rw [HN.out]; exact HO.out⟩
        case measure => simp [intOf]; omega
      · have h1 := txt_ne ht
        have HN := Lib.hid (And.intro (HT.out.trans (by rw [if_neg ht])) hO2)
        have Hrun := Lib.hid hrun
        simp only [prCells] at Hrun
        clear hO2 hrun HT ht HO
        go_wp2_with (at_builtin; refine wpList_append_run rfl (.tmp 20) (.tmp 25) 56 rfl rfl rfl Hrun.out ?_)
        go_roundw
        case rel => exact ⟨j + 1, m + 1, A2, c2, by go_num, rfl, by omega, by rw [HN.out.1, List.length_append, ← HM.out.1]; rfl, by have := HM.out; omega, by rw [HN.out.1]; exact HN.out.2⟩
        case measure => simp [intOf]; omega
    · obtain rfl : j = ps.length := by have := H.out.1; omega
      have HF := Lib.hid H.out
      rw [List.take_length] at HF
      clear H
      go_wp2_with fail
      go_ret
      refine ⟨A1, c1, by rw [← HF.out.2.1]; rfl, ?_, HF.out.2.2.2.below⟩
      have := HF.out.2.2.2.own 0 _ rfl
      rw [← HF.out.2.1]
      exact this

set_option maxRecDepth 100000 in
set_option maxHeartbeats 1000000 in
theorem put06_any (A : Option Addr) (c : Nat) (ps : List PairD) (k : ByteArray) (v : Int) (w : World) (h : Prs w A ps.length ps) (hl : ps.length ≤ 1000) :
    Calls Try.prog 89 #[.slice A ps.length c, .string k, .int .u64 v] w (PrsRet (Pl.putM ps k v) w) := by
  have HD := Lib.hid (del06_any A c ps k w h hl)
  have HL := Lib.hid (delM_len ps k)
  have hpm : Pl.putM ps k v = Pl.delM ps k ++ [⟨k, v⟩] := rfl
  generalize Pl.putM ps k v = o at hpm ⊢
  have HPM := Lib.hid hpm
  clear h hpm
  generalize Pl.delM ps k = d at HD HL HPM
  go_enter Try.func89, Try.ntmps89
  go_wp2_with fail
  refine HD.out.mono ?_
  rintro e W ⟨A1, c1, rfl, hown, hb⟩
  have hO := (Ow.start (Sx.start0 w)).row hb hown
  simp only [List.nil_append] at hO
  obtain ⟨A2, c2, W3, hrun, hc2, hO2⟩ := hO.pushP 56 (by kernel_rfl) 0 rfl ⟨k, v⟩ (by have := HL.out; omega)
  simp only [List.set_cons_zero] at hO2
  have HN := Lib.hid hO2
  have Hrun := Lib.hid hrun
  simp only [prCells] at Hrun
  clear hO2 hrun hO hown hb HD
  go_wp2_with (at_builtin; refine wpList_append_run rfl (.tmp 9) (.tmp 13) 56 rfl rfl rfl Hrun.out ?_)
  go_ret
  have h1 := HN.out.own 0 _ rfl
  rw [HPM.out]
  exact ⟨A2, c2, by rw [List.length_append]; rfl, by rw [List.length_append]; exact h1, HN.out.below⟩

end Go.Proofs.Ytcoiadncennhpaa
