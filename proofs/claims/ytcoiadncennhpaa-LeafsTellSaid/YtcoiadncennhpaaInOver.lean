/- Contracts of package inner and of its reference: Over. -/
import Derived.Test.YtcoiadncennhpaaInPost2
namespace Go.Proofs.Ytcoiadncennhpaa
open Go.RowKit

theorem overD_no {level left : Int} {low : ByteArray} {right : Int} (h : innerB (overN level left low right) = false) : overD level left low right = (false, zeroN) := if_neg (by rw [h]; exact Bool.false_ne_true)
theorem overD_yes {level left : Int} {low : ByteArray} {right : Int} (h : innerB (overN level left low right) = true) : overD level left low right = (true, overN level left low right) := if_pos h
theorem inner_level {d : Nd} (h : ¬ 0 < d.level) : innerB d = false := by unfold innerB; rw [decide_eq_false h]; rfl

theorem Sx.start3 (w : World) (a b c : Obj) : Sx w.heap.size w (((w.alloc a).alloc b).alloc c) [(w.heap.size, a), (w.heap.size + 1, b), (w.heap.size + 2, c)] := by
  have := (((Sx.start0 w).alloc a).alloc b).alloc c
  simp only [alloc_size] at this
  exact this

set_option maxRecDepth 100000 in
set_option maxHeartbeats 16000000 in
theorem inover_any (level left : Int) (low : ByteArray) (right : Int) (w : World) (hk : low.size ≤ maxLen) :
    Calls Try.prog 34 #[.int .i64 level, .int .i64 left, .string low, .int .i64 right] w (NRet (overD level left low right) w) := by
  have hS := Lib.hid (Sx.start3 w (.cells #[.int .i64 0, .string ⟨#[]⟩, .string ⟨#[]⟩, .bool false, .int .i64 0, .slice none 0 0, .slice none 0 0, .slice none 0 0] 26) (.cells #[.string ⟨#[]⟩, .string low] 99) (.cells #[.int .i64 left, .int .i64 right] 100))
  have HIn := Lib.hid (fun A B C ca cb cc W hW => insound_any (overN level left low right) A B C ca cb cc W hW)
  have hno := Lib.hid (fun q => overD_no (level := level) (left := left) (low := low) (right := right) q)
  have hyes := Lib.hid (fun q => overD_yes (level := level) (left := left) (low := low) (right := right) q)
  generalize overD level left low right = o at hno hyes ⊢
  generalize innerB (overN level left low right) = ib at HIn hno hyes
  have HK := Lib.hid hk
  clear hk
  go_enter Try.func34, Try.ntmps34
  go_upto_region 2 with fail
  generalize ((w.alloc _).alloc _).alloc _ = W at hS ⊢
  go_wp2_with fail
  refine (empty_any _).mono ?_
  rintro e W0 ⟨rfl, hb0⟩
  replace hS := Lib.hid (hS.out.call hb0)
  clear hb0
  replace hS := Lib.hid (hS.out.alloc (.cells #[.int .i64 0, .string ⟨#[]⟩, .string ⟨#[]⟩, .bool true, .int .i64 (-1), .slice none 0 0, .slice none 0 0, .slice none 0 0] 26))
  simp only [List.cons_append, List.nil_append] at hS
  go_upto_region 3 with fail
  generalize W0.heap.size = g at hS ⊢
  generalize W0.alloc _ = Y at hS ⊢
  obtain ⟨x0, x1, x2, x3, x4, x5, x6, x7, f0, f1, f2, f3, f4, f5, f6, f7⟩ := nd_facts (hS.out.has 3 _ _ rfl).1
  go_upto_region 4 with fail
  clear x0 x1 x2 x3 x4 x5 x6 x7 f0 f1 f2 f3 f4 f5 f6 f7
  replace hS := Lib.hid (hS.out.setc 3 rfl 0 (.int .i64 level))
  simp only [List.cons_append, List.nil_append, List.set_cons_zero, List.set_cons_succ] at hS
  generalize Y.setCell _ _ = W at hS ⊢
  have hd := Below.drew (Below.refl W.heap.size W)
  replace hS := Lib.hid (hS.out.call hd)
  clear hd
  refine wp_region_held_drew (S := fun _ => True) (by kernel_rfl) trivial (fun hcur => ?_)
  generalize W.drew = X at hS hcur ⊢
  refine wpAnyH_take (i := 0) (v := ?_) rfl (by decide +kernel) (by decide +kernel) (by decide +kernel) (fun _ _ _ h => h) (Or.inl ⟨by rfl, ?hy⟩) hcur ?_
  case hy =>
    intro w1 hSw
    go_simp
    (try with_reducible rfl)
  (try simp only [Act.put, List.getElem_toArray, List.getElem_cons_zero, List.getElem_cons_succ, List.setIfInBounds_toArray, List.set_cons_zero, List.set_cons_succ])
  refine wpAnyH_take (i := 1) (v := ?_) rfl (by decide +kernel) (by decide +kernel) (by decide +kernel) (fun _ _ _ h => h) (Or.inl ⟨by rfl, ?hy⟩) hcur ?_
  case hy =>
    intro w1 hSw
    go_simp
    (try with_reducible rfl)
  (try simp only [Act.put, List.getElem_toArray, List.getElem_cons_zero, List.getElem_cons_succ, List.setIfInBounds_toArray, List.set_cons_zero, List.set_cons_succ])
  refine wpAnyH_take (i := 2) (v := ?_) rfl (by decide +kernel) (by decide +kernel) (by decide +kernel) (fun _ _ _ h => h) (Or.inl ⟨by rfl, ?hy⟩) hcur ?_
  case hy =>
    intro w1 hSw
    go_simp
    (try with_reducible rfl)
  (try simp only [Act.put, List.getElem_toArray, List.getElem_cons_zero, List.getElem_cons_succ, List.setIfInBounds_toArray, List.set_cons_zero, List.set_cons_succ])
  refine wpAnyH_ready (rs := [3]) (by decide +kernel) (by simp) ?_
  refine AllReadyH.cons rfl (fun K hK => ?_) AllReadyH.nil
  obtain ⟨x0, x1, x2, x3, x4, x5, x6, x7, f0, f1, f2, f3, f4, f5, f6, f7⟩ := nd_facts (hS.out.has 3 _ _ rfl).1
  go_simp
  replace hS := Lib.hid (hS.out.setc 3 rfl 5 (.slice (some ⟨w.heap.size + 1, 0, none⟩) 2 2))
  simp only [List.cons_append, List.nil_append, List.set_cons_zero, List.set_cons_succ] at hS
  clear x0 x1 x2 x3 x4 x5 x6 x7 f0 f1 f2 f3 f4 f5 f6 f7
  refine hK.out _ _ trivial (fun _ => ?_)
  clear hK K
  (try simp only [Act.put, List.getElem_toArray, List.getElem_cons_zero, List.getElem_cons_succ, List.setIfInBounds_toArray, List.set_cons_zero, List.set_cons_succ])
  generalize X.setCell _ _ = X1 at hS ⊢
  refine wpAnyH_take (i := 4) (v := ?_) rfl (by decide +kernel) (by decide +kernel) (by decide +kernel) (fun _ _ _ h => h) (Or.inl ⟨by rfl, ?hy⟩) hcur ?_
  case hy =>
    intro w1 hSw
    go_simp
    (try with_reducible rfl)
  (try simp only [Act.put, List.getElem_toArray, List.getElem_cons_zero, List.getElem_cons_succ, List.setIfInBounds_toArray, List.set_cons_zero, List.set_cons_succ])
  refine wpAnyH_ready (rs := [5]) (by decide +kernel) (by simp) ?_
  refine AllReadyH.cons rfl (fun K hK => ?_) AllReadyH.nil
  obtain ⟨x0, x1, x2, x3, x4, x5, x6, x7, f0, f1, f2, f3, f4, f5, f6, f7⟩ := nd_facts (hS.out.has 3 _ _ rfl).1
  go_simp
  replace hS := Lib.hid (hS.out.setc 3 rfl 7 (.slice (some ⟨w.heap.size + 2, 0, none⟩) 2 2))
  simp only [List.cons_append, List.nil_append, List.set_cons_zero, List.set_cons_succ] at hS
  clear x0 x1 x2 x3 x4 x5 x6 x7 f0 f1 f2 f3 f4 f5 f6 f7
  refine hK.out _ _ trivial (fun _ => ?_)
  clear hK K
  (try simp only [Act.put, List.getElem_toArray, List.getElem_cons_zero, List.getElem_cons_succ, List.setIfInBounds_toArray, List.set_cons_zero, List.set_cons_succ])
  generalize X1.setCell _ _ = X2 at hS ⊢
  refine wpAnyH_done (by decide +kernel) ?_ _
  clear hcur
  have hl : Lies _ (overN level left low right) (some ⟨w.heap.size + 1, 0, none⟩) none (some ⟨w.heap.size + 2, 0, none⟩) 2 0 2 :=
    { low := Nat.zero_le _, high := Nat.zero_le _, la := by simp [overN], lb := by simp [overN], lc := by simp [overN], ka := Nat.le_refl _, kb := Nat.le_refl _, kc := Nat.le_refl _
      fit := fun j hj => (by
        rcases j with _ | _ | j
        · exact Nat.zero_le _
        · exact HK.out
        · exact absurd hj (by simp [overN])), keys := Rd.new (xs := [.string ⟨#[]⟩, .string low]) (hS.out.has 1 _ _ rfl).1, vals := Rd.nil _ _ _ _, kids := Rd.new (xs := [.int .i64 left, .int .i64 right]) (hS.out.has 2 _ _ rfl).1 }
  have hcs : ndCells (overN level left low right) (some ⟨w.heap.size + 1, 0, none⟩) none (some ⟨w.heap.size + 2, 0, none⟩) 2 0 2 = #[.int .i64 level, .string ⟨#[]⟩, .string ⟨#[]⟩, .bool true, .int .i64 (-1), .slice (some ⟨w.heap.size + 1, 0, none⟩) 2 2, .slice none 0 0, .slice (some ⟨w.heap.size + 2, 0, none⟩) 2 2] := rfl
  have HL := Lib.hid hl
  have HI2 := Lib.hid (HIn.out _ _ _ _ _ _ _ hl)
  rw [hcs] at HI2
  have HCS := Lib.hid hcs
  clear hl hcs HIn
  obtain ⟨x0, x1, x2, x3, x4, x5, x6, x7, f0, f1, f2, f3, f4, f5, f6, f7⟩ := nd_facts (hS.out.has 3 _ _ rfl).1
  go_wp2_with fail
  refine HI2.out.mono ?_
  rintro e wn ⟨rfl, hbn⟩
  clear x0 x1 x2 x3 x4 x5 x6 x7 f0 f1 f2 f3 f4 f5 f6 f7
  replace hS := Lib.hid (hS.out.call hbn)
  replace HL := Lib.hid (HL.out.up hbn)
  clear hbn HI2
  cases ib
  · obtain rfl : o = (false, zeroN) := hno.out rfl
    obtain ⟨y0, y1, y2, y3, y4, y5, y6, y7, q0, q1, q2, q3, q4, q5, q6, q7⟩ := nd_facts (hS.out.has 0 _ _ rfl).1
    have hZ := (hS.out.store 0 rfl (.int .i64 0) (.string ⟨#[]⟩) (.string ⟨#[]⟩) (.bool false) (.int .i64 0) (.slice none 0 0) (.slice none 0 0) (.slice none 0 0)).below
    simp only [set8] at hZ
    have HZ := Lib.hid hZ
    clear hZ
    go_wp2_with fail
    exact bodyPost_ret (v := .tuple #[.agg #[.int .i64 0, .string ⟨#[]⟩, .string ⟨#[]⟩, .bool false, .int .i64 0, .slice none 0 0, .slice none 0 0, .slice none 0 0], .bool false]) (by simp [results, Try.results34, go_sem, *]) rfl ⟨none, none, none, 0, 0, 0, rfl, zero_lies _, HZ.out⟩
  · obtain rfl := hyes.out rfl
    obtain ⟨x0, x1, x2, x3, x4, x5, x6, x7, f0, f1, f2, f3, f4, f5, f6, f7⟩ := nd_facts (hS.out.has 3 _ _ rfl).1
    obtain ⟨y0, y1, y2, y3, y4, y5, y6, y7, q0, q1, q2, q3, q4, q5, q6, q7⟩ := nd_facts (hS.out.has 0 _ _ rfl).1
    have hZ := hS.out.store 0 rfl (.int .i64 level) (.string ⟨#[]⟩) (.string ⟨#[]⟩) (.bool true) (.int .i64 (-1)) (.slice (some ⟨w.heap.size + 1, 0, none⟩) 2 2) (.slice none 0 0) (.slice (some ⟨w.heap.size + 2, 0, none⟩) 2 2)
    have hl : Lies _ (overN level left low right) (some ⟨w.heap.size + 1, 0, none⟩) none (some ⟨w.heap.size + 2, 0, none⟩) 2 0 2 :=
      { HL.out with keys := Rd.new (xs := [.string ⟨#[]⟩, .string low]) (hZ.has 1 _ _ rfl).1, vals := Rd.nil _ _ _ _, kids := Rd.new (xs := [.int .i64 left, .int .i64 right]) (hZ.has 2 _ _ rfl).1 }
    have HFI := And.intro hZ.below hl
    simp only [set8] at HFI
    replace HFI := Lib.hid HFI
    clear hZ hl
    go_wp2_with fail
    exact bodyPost_ret (v := .tuple #[.agg #[.int .i64 level, .string ⟨#[]⟩, .string ⟨#[]⟩, .bool true, .int .i64 (-1), .slice (some ⟨w.heap.size + 1, 0, none⟩) 2 2, .slice none 0 0, .slice (some ⟨w.heap.size + 2, 0, none⟩) 2 2], .bool true]) (by simp [results, Try.results34, go_sem, *]) rfl ⟨_, _, _, _, _, _, by rw [HCS.out], HFI.out.2, HFI.out.1⟩

set_option maxRecDepth 100000 in
set_option maxHeartbeats 16000000 in
theorem refover_any (level left : Int) (low : ByteArray) (right : Int) (w : World) (hk : low.size ≤ maxLen) :
    Calls Try.prog 35 #[.int .i64 level, .int .i64 left, .string low, .int .i64 right] w (NRet (overD level left low right) w) := by
  have hS := Lib.hid (Sx.start4 w (.cells #[.int .i64 0, .string ⟨#[]⟩, .string ⟨#[]⟩, .bool false, .int .i64 0, .slice none 0 0, .slice none 0 0, .slice none 0 0] 26) (.cells #[.string ⟨#[]⟩, .string low] 9) (.cells #[.int .i64 left, .int .i64 right] 3) (.cells #[.int .i64 level, .string ⟨#[]⟩, .string ⟨#[]⟩, .bool true, .int .i64 (-1), .slice (some ⟨w.heap.size + 1, 0, none⟩) 2 2, .slice none 0 0, .slice (some ⟨w.heap.size + 2, 0, none⟩) 2 2] 26))
  have HIn := Lib.hid (fun A B C ca cb cc W hW => refinner_any (overN level left low right) A B C ca cb cc W hW)
  have hno := Lib.hid (fun q => overD_no (level := level) (left := left) (low := low) (right := right) q)
  have hyes := Lib.hid (fun q => overD_yes (level := level) (left := left) (low := low) (right := right) q)
  have hlv := Lib.hid (fun (q : ¬ 0 < level) => inner_level (d := overN level left low right) q)
  generalize overD level left low right = o at hno hyes ⊢
  generalize innerB (overN level left low right) = ib at HIn hno hyes hlv
  have HK := Lib.hid hk
  clear hk
  go_enter Try.func35, Try.ntmps35
  go_upto_region 2 with fail
  generalize (((w.alloc _).alloc _).alloc _).alloc _ = X2 at hS ⊢
  by_cases h1 : level < 1
  · obtain rfl : o = (false, zeroN) := hno.out (hlv.out (by omega))
    have h1b : decide (level < 1) = true := decide_eq_true h1
    clear hlv
    obtain ⟨y0, y1, y2, y3, y4, y5, y6, y7, q0, q1, q2, q3, q4, q5, q6, q7⟩ := nd_facts (hS.out.has 0 _ _ rfl).1
    have hZ := (hS.out.store 0 rfl (.int .i64 0) (.string ⟨#[]⟩) (.string ⟨#[]⟩) (.bool false) (.int .i64 0) (.slice none 0 0) (.slice none 0 0) (.slice none 0 0)).below
    simp only [set8] at hZ
    have HZ := Lib.hid hZ
    clear hZ
    go_wp2_with fail
    exact bodyPost_ret (v := .tuple #[.agg #[.int .i64 0, .string ⟨#[]⟩, .string ⟨#[]⟩, .bool false, .int .i64 0, .slice none 0 0, .slice none 0 0, .slice none 0 0], .bool false]) (by simp [results, Try.results35, go_sem, *]) rfl ⟨none, none, none, 0, 0, 0, rfl, zero_lies _, HZ.out⟩
  · have h1b : decide (level < 1) = false := decide_eq_false h1
    have H1 := Lib.hid h1
    clear h1 hlv
    have hl : Lies _ (overN level left low right) (some ⟨w.heap.size + 1, 0, none⟩) none (some ⟨w.heap.size + 2, 0, none⟩) 2 0 2 :=
      { low := Nat.zero_le _, high := Nat.zero_le _, la := by simp [overN], lb := by simp [overN], lc := by simp [overN], ka := Nat.le_refl _, kb := Nat.le_refl _, kc := Nat.le_refl _
        fit := fun j hj => (by
          rcases j with _ | _ | j
          · exact Nat.zero_le _
          · exact HK.out
          · exact absurd hj (by simp [overN])), keys := Rd.new (xs := [.string ⟨#[]⟩, .string low]) (hS.out.has 1 _ _ rfl).1, vals := Rd.nil _ _ _ _, kids := Rd.new (xs := [.int .i64 left, .int .i64 right]) (hS.out.has 2 _ _ rfl).1 }
    have hcs : ndCells (overN level left low right) (some ⟨w.heap.size + 1, 0, none⟩) none (some ⟨w.heap.size + 2, 0, none⟩) 2 0 2 = #[.int .i64 level, .string ⟨#[]⟩, .string ⟨#[]⟩, .bool true, .int .i64 (-1), .slice (some ⟨w.heap.size + 1, 0, none⟩) 2 2, .slice none 0 0, .slice (some ⟨w.heap.size + 2, 0, none⟩) 2 2] := rfl
    have HL := Lib.hid hl
    have HI2 := Lib.hid (HIn.out _ _ _ _ _ _ _ hl)
    rw [hcs] at HI2
    have HCS := Lib.hid hcs
    clear hl hcs HIn
    obtain ⟨x0, x1, x2, x3, x4, x5, x6, x7, f0, f1, f2, f3, f4, f5, f6, f7⟩ := nd_facts (hS.out.has 3 _ _ rfl).1
    go_wp2_with fail
    refine HI2.out.mono ?_
    rintro e wn ⟨rfl, hbn⟩
    clear x0 x1 x2 x3 x4 x5 x6 x7 f0 f1 f2 f3 f4 f5 f6 f7
    replace hS := Lib.hid (hS.out.call hbn)
    replace HL := Lib.hid (HL.out.up hbn)
    clear hbn HI2
    cases ib
    · obtain rfl : o = (false, zeroN) := hno.out rfl
      obtain ⟨y0, y1, y2, y3, y4, y5, y6, y7, q0, q1, q2, q3, q4, q5, q6, q7⟩ := nd_facts (hS.out.has 0 _ _ rfl).1
      have hZ := (hS.out.store 0 rfl (.int .i64 0) (.string ⟨#[]⟩) (.string ⟨#[]⟩) (.bool false) (.int .i64 0) (.slice none 0 0) (.slice none 0 0) (.slice none 0 0)).below
      simp only [set8] at hZ
      have HZ := Lib.hid hZ
      clear hZ
      go_wp2_with fail
      exact bodyPost_ret (v := .tuple #[.agg #[.int .i64 0, .string ⟨#[]⟩, .string ⟨#[]⟩, .bool false, .int .i64 0, .slice none 0 0, .slice none 0 0, .slice none 0 0], .bool false]) (by simp [results, Try.results35, go_sem, *]) rfl ⟨none, none, none, 0, 0, 0, rfl, zero_lies _, HZ.out⟩
    · obtain rfl := hyes.out rfl
      obtain ⟨x0, x1, x2, x3, x4, x5, x6, x7, f0, f1, f2, f3, f4, f5, f6, f7⟩ := nd_facts (hS.out.has 3 _ _ rfl).1
      obtain ⟨y0, y1, y2, y3, y4, y5, y6, y7, q0, q1, q2, q3, q4, q5, q6, q7⟩ := nd_facts (hS.out.has 0 _ _ rfl).1
      have hZ := hS.out.store 0 rfl (.int .i64 level) (.string ⟨#[]⟩) (.string ⟨#[]⟩) (.bool true) (.int .i64 (-1)) (.slice (some ⟨w.heap.size + 1, 0, none⟩) 2 2) (.slice none 0 0) (.slice (some ⟨w.heap.size + 2, 0, none⟩) 2 2)
      have hl : Lies _ (overN level left low right) (some ⟨w.heap.size + 1, 0, none⟩) none (some ⟨w.heap.size + 2, 0, none⟩) 2 0 2 :=
        { HL.out with keys := Rd.new (xs := [.string ⟨#[]⟩, .string low]) (hZ.has 1 _ _ rfl).1, vals := Rd.nil _ _ _ _, kids := Rd.new (xs := [.int .i64 left, .int .i64 right]) (hZ.has 2 _ _ rfl).1 }
      have HFI := And.intro hZ.below hl
      simp only [set8] at HFI
      replace HFI := Lib.hid HFI
      clear hZ hl
      go_wp2_with fail
      exact bodyPost_ret (v := .tuple #[.agg #[.int .i64 level, .string ⟨#[]⟩, .string ⟨#[]⟩, .bool true, .int .i64 (-1), .slice (some ⟨w.heap.size + 1, 0, none⟩) 2 2, .slice none 0 0, .slice (some ⟨w.heap.size + 2, 0, none⟩) 2 2], .bool true]) (by simp [results, Try.results35, go_sem, *]) rfl ⟨_, _, _, _, _, _, by rw [HCS.out], HFI.out.2, HFI.out.1⟩

end Go.Proofs.Ytcoiadncennhpaa
