/- Contracts: slices.Equal, node.shaped, node.Same. -/
import Derived.Test.YtcoiadncennhpaaRoutes
namespace Go.Proofs.Ytcoiadncennhpaa
open Go.RowKit

theorem txt_eq (a b : ByteArray) : (a.toList == b.toList) = decide (a = b) := by
  rw [Bool.eq_iff_iff, beq_iff_eq, decide_eq_true_iff, ByteArray.toList_eq, ByteArray.toList_eq]
  exact ⟨fun h => ByteArray.ext (Array.toList_inj.1 h), fun h => by rw [h]⟩
set_option maxHeartbeats 400000 in
theorem equalS_any (A B : Option Addr) (n c m d : Nat) (ss ts : List ByteArray) (w : World) (h : RdS w A n ss) (k : RdS w B m ts) (hn : n ≤ 9223372036854775807) :
    Calls Try.prog 74 #[.slice A n c, .slice B m d] w (Ret (.bool (decide (ss = ts))) w) := by
  have hlen := Lib.hid h.len
  have klen := Lib.hid k.len
  by_cases hnm : n = m
  · subst hnm
    have t0 : ((n : Int) != (n : Int)) = false := by simp
    go_enter Try.func74, Try.ntmps74
    go_wp2_with fail
    go_loopw [5, 13] (fun _ i wr => ∃ j : Nat, j ≤ n ∧ i = .int .i64 j ∧ Hid (∀ q (hq : q < ss.length) (hq' : q < ts.length), q < j → ss[q] = ts[q]) ∧ Below w.heap.size w wr) (fun _ i _ => n - (intOf i).toNat)
    case atStart => exact ⟨0, Nat.zero_le _, rfl, fun q _ _ hq => absurd hq (Nat.not_lt_zero _), Below.refl _ _⟩
    case round =>
      obtain ⟨j, hj, rfl, hpre, hbel⟩ := hrel
      by_cases hlt : j < n
      · obtain ⟨b, off, rfl, hb, hcell⟩ := (h.up hbel).spot (by omega)
        obtain ⟨b', off', rfl, hb', hcell'⟩ := (k.up hbel).spot (by omega)
        have hjl : j < ss.length := by rw [hlen.out]; exact hlt
        have hjk : j < ts.length := by rw [klen.out]; exact hlt
        have cj := hcell _ hjl
        have cj' := hcell' _ hjk
        clear hcell hcell'
        by_cases he : ss[j] = ts[j]
        · have Ht := Lib.hid he
          have ht := (show (ss[j].toList == ts[j].toList) = true by rw [txt_eq]; exact decide_eq_true he)
          clear he
          go_wp2_with fail
          go_quiet (fail)
          go_wp2_with fail
          go_roundw
          case rel =>
            refine ⟨j + 1, by omega, by go_num, fun q hq hq' hqj => ?_, below_drewN hbel _⟩
            rcases Nat.lt_succ_iff_lt_or_eq.1 hqj with g | rfl
            · exact hpre.out q hq hq' g
            · exact Ht.out
          case measure => simp [intOf]; omega
        · have Ht := Lib.hid he
          have ht := (show (ss[j].toList == ts[j].toList) = false by rw [txt_eq]; exact decide_eq_false he)
          clear he
          go_wp2_with fail
          go_quiet (fail)
          go_wp2_with fail
          go_ret
          refine ⟨ret_bool ?_, below_drewN hbel _⟩
          symm
          apply decide_eq_false
          rintro rfl
          exact Ht.out rfl
      · go_wp2_with fail
        go_ret
        refine ⟨ret_bool ?_, hbel⟩
        symm
        apply decide_eq_true
        apply List.ext_getElem (by rw [hlen.out, klen.out])
        intro q hq hq'
        exact hpre.out q hq hq' (by rw [hlen.out] at hq; omega)
  · have t0 : ((n : Int) != (m : Int)) = true := by simp; omega
    go_enter Try.func74, Try.ntmps74
    go_wp2_with fail
    go_ret
    refine ⟨ret_bool ?_, Below.refl _ _⟩
    symm
    apply decide_eq_false
    rintro rfl
    exact hnm (by rw [← hlen.out, klen.out])

set_option maxHeartbeats 400000 in
theorem equalU_any (A B : Option Addr) (n c m d : Nat) (ss ts : List Int) (w : World) (h : RdU w A n ss) (k : RdU w B m ts) (hn : n ≤ 9223372036854775807) :
    Calls Try.prog 75 #[.slice A n c, .slice B m d] w (Ret (.bool (decide (ss = ts))) w) := by
  have hlen := Lib.hid h.len
  have klen := Lib.hid k.len
  by_cases hnm : n = m
  · subst hnm
    have t0 : ((n : Int) != (n : Int)) = false := by simp
    go_enter Try.func75, Try.ntmps75
    go_wp2_with fail
    go_loopw [5, 13] (fun _ i wr => ∃ j : Nat, j ≤ n ∧ i = .int .i64 j ∧ Hid (∀ q (hq : q < ss.length) (hq' : q < ts.length), q < j → ss[q] = ts[q]) ∧ Below w.heap.size w wr) (fun _ i _ => n - (intOf i).toNat)
    case atStart => exact ⟨0, Nat.zero_le _, rfl, fun q _ _ hq => absurd hq (Nat.not_lt_zero _), Below.refl _ _⟩
    case round =>
      obtain ⟨j, hj, rfl, hpre, hbel⟩ := hrel
      by_cases hlt : j < n
      · obtain ⟨b, off, rfl, hb, hcell⟩ := (h.up hbel).spot (by omega)
        obtain ⟨b', off', rfl, hb', hcell'⟩ := (k.up hbel).spot (by omega)
        have hjl : j < ss.length := by rw [hlen.out]; exact hlt
        have hjk : j < ts.length := by rw [klen.out]; exact hlt
        have cj := hcell _ hjl
        have cj' := hcell' _ hjk
        clear hcell hcell'
        by_cases he : ss[j] = ts[j]
        · have Ht := Lib.hid he
          have ht := (show (ss[j] == ts[j]) = true by rw [beq_iff_eq]; exact he)
          clear he
          go_wp2_with fail
          go_quiet (fail)
          go_wp2_with fail
          go_roundw
          case rel =>
            refine ⟨j + 1, by omega, by go_num, fun q hq hq' hqj => ?_, below_drewN hbel _⟩
            rcases Nat.lt_succ_iff_lt_or_eq.1 hqj with g | rfl
            · exact hpre.out q hq hq' g
            · exact Ht.out
          case measure => simp [intOf]; omega
        · have Ht := Lib.hid he
          have ht := (show (ss[j] == ts[j]) = false by rw [beq_eq_false_iff_ne]; exact he)
          clear he
          go_wp2_with fail
          go_quiet (fail)
          go_wp2_with fail
          go_ret
          refine ⟨ret_bool ?_, below_drewN hbel _⟩
          symm
          apply decide_eq_false
          rintro rfl
          exact Ht.out rfl
      · go_wp2_with fail
        go_ret
        refine ⟨ret_bool ?_, hbel⟩
        symm
        apply decide_eq_true
        apply List.ext_getElem (by rw [hlen.out, klen.out])
        intro q hq hq'
        exact hpre.out q hq hq' (by rw [hlen.out] at hq; omega)
  · have t0 : ((n : Int) != (m : Int)) = true := by simp; omega
    go_enter Try.func75, Try.ntmps75
    go_wp2_with fail
    go_ret
    refine ⟨ret_bool ?_, Below.refl _ _⟩
    symm
    apply decide_eq_false
    rintro rfl
    exact hnm (by rw [← hlen.out, klen.out])

set_option maxHeartbeats 400000 in
theorem equalI_any (A B : Option Addr) (n c m d : Nat) (ss ts : List Int) (w : World) (h : RdI w A n ss) (k : RdI w B m ts) (hn : n ≤ 9223372036854775807) :
    Calls Try.prog 76 #[.slice A n c, .slice B m d] w (Ret (.bool (decide (ss = ts))) w) := by
  have hlen := Lib.hid h.len
  have klen := Lib.hid k.len
  by_cases hnm : n = m
  · subst hnm
    have t0 : ((n : Int) != (n : Int)) = false := by simp
    go_enter Try.func76, Try.ntmps76
    go_wp2_with fail
    go_loopw [5, 13] (fun _ i wr => ∃ j : Nat, j ≤ n ∧ i = .int .i64 j ∧ Hid (∀ q (hq : q < ss.length) (hq' : q < ts.length), q < j → ss[q] = ts[q]) ∧ Below w.heap.size w wr) (fun _ i _ => n - (intOf i).toNat)
    case atStart => exact ⟨0, Nat.zero_le _, rfl, fun q _ _ hq => absurd hq (Nat.not_lt_zero _), Below.refl _ _⟩
    case round =>
      obtain ⟨j, hj, rfl, hpre, hbel⟩ := hrel
      by_cases hlt : j < n
      · obtain ⟨b, off, rfl, hb, hcell⟩ := (h.up hbel).spot (by omega)
        obtain ⟨b', off', rfl, hb', hcell'⟩ := (k.up hbel).spot (by omega)
        have hjl : j < ss.length := by rw [hlen.out]; exact hlt
        have hjk : j < ts.length := by rw [klen.out]; exact hlt
        have cj := hcell _ hjl
        have cj' := hcell' _ hjk
        clear hcell hcell'
        by_cases he : ss[j] = ts[j]
        · have Ht := Lib.hid he
          have ht := (show (ss[j] == ts[j]) = true by rw [beq_iff_eq]; exact he)
          clear he
          go_wp2_with fail
          go_quiet (fail)
          go_wp2_with fail
          go_roundw
          case rel =>
            refine ⟨j + 1, by omega, by go_num, fun q hq hq' hqj => ?_, below_drewN hbel _⟩
            rcases Nat.lt_succ_iff_lt_or_eq.1 hqj with g | rfl
            · exact hpre.out q hq hq' g
            · exact Ht.out
          case measure => simp [intOf]; omega
        · have Ht := Lib.hid he
          have ht := (show (ss[j] == ts[j]) = false by rw [beq_eq_false_iff_ne]; exact he)
          clear he
          go_wp2_with fail
          go_quiet (fail)
          go_wp2_with fail
          go_ret
          refine ⟨ret_bool ?_, below_drewN hbel _⟩
          symm
          apply decide_eq_false
          rintro rfl
          exact Ht.out rfl
      · go_wp2_with fail
        go_ret
        refine ⟨ret_bool ?_, hbel⟩
        symm
        apply decide_eq_true
        apply List.ext_getElem (by rw [hlen.out, klen.out])
        intro q hq hq'
        exact hpre.out q hq hq' (by rw [hlen.out] at hq; omega)
  · have t0 : ((n : Int) != (m : Int)) = true := by simp; omega
    go_enter Try.func76, Try.ntmps76
    go_wp2_with fail
    go_ret
    refine ⟨ret_bool ?_, Below.refl _ _⟩
    symm
    apply decide_eq_false
    rintro rfl
    exact hnm (by rw [← hlen.out, klen.out])


theorem shaped_any (d : Nd) (A B C : Option Addr) (ca cb cc : Nat) (w : World) :
    Calls Try.prog 73 #[.agg (ndCells d A B C ca cb cc)] w (Ret (.agg #[.int .i64 d.level, .int .i64 d.next, .string d.low, .string d.high, .bool d.last]) w) := by
  obtain ⟨level, low, high, last, next, keys, vals, kids⟩ := d
  have HB := below_alloc w (.cells (ndCells ⟨level, low, high, last, next, keys, vals, kids⟩ A B C ca cb cc) 26)
  simp only [ndCells] at HB ⊢
  go_enter Try.func73, Try.ntmps73
  go_wp2_with fail
  exact bodyPost_ret (v := .agg #[.int .i64 level, .int .i64 next, .string low, .string high, .bool last]) (by simp [results, Try.results73, go_sem]) rfl ⟨rfl, below_of HB (below_alloc _ _)⟩

/-- Are two nodes the same but for their rows? -/
def shapeB (a b : Nd) : Bool := decide (a.level = b.level) && (decide (a.next = b.next) && (decide (a.low = b.low) && (decide (a.high = b.high) && decide (a.last = b.last))))
/-- Have two nodes the same? -/
def sameB (a b : Nd) : Bool := shapeB a b && (decide (a.keys = b.keys) && (decide (a.vals = b.vals) && decide (a.kids = b.kids)))

theorem txt_dec (a b : ByteArray) : decide (a.toList = b.toList) = decide (a = b) := by
  rw [decide_eq_decide, ByteArray.toList_eq, ByteArray.toList_eq]
  exact ⟨fun h => ByteArray.ext (Array.toList_inj.1 h), fun h => by rw [h]⟩
theorem ifs5 {α : Type} (p1 p2 p3 p4 p5 : Prop) [Decidable p1] [Decidable p2] [Decidable p3] [Decidable p4] [Decidable p5] (f : Bool → α) :
    (if p1 then if p2 then if p3 then if p4 then if p5 then f true else f false else f false else f false else f false else f false) = f (decide p1 && (decide p2 && (decide p3 && (decide p4 && decide p5)))) := by
  by_cases h1 : p1 <;> by_cases h2 : p2 <;> by_cases h3 : p3 <;> by_cases h4 : p4 <;> by_cases h5 : p5 <;> simp [h1, h2, h3, h4, h5]

/-- Two nodes in two variables, ahead of a walk. -/
theorem two_boxes (w : World) (a b : Nd) (A B C A' B' C' : Option Addr) (ca cb cc ca' cb' cc' : Nat) (T : TypeId) :
    Boxed ((w.alloc (.cells (ndCells a A B C ca cb cc) T)).alloc (.cells (ndCells b A' B' C' ca' cb' cc') T)) w.heap.size a A B C ca cb cc ∧ Boxed ((w.alloc (.cells (ndCells a A B C ca cb cc) T)).alloc (.cells (ndCells b A' B' C' ca' cb' cc') T)) (w.heap.size + 1) b A' B' C' ca' cb' cc' ∧
    Below w.heap.size w ((w.alloc (.cells (ndCells a A B C ca cb cc) T)).alloc (.cells (ndCells b A' B' C' ca' cb' cc') T)) ∧ w.heap.size + 1 < ((w.alloc (.cells (ndCells a A B C ca cb cc) T)).alloc (.cells (ndCells b A' B' C' ca' cb' cc') T)).heap.size := by
  have h1 := Boxed.new w a A B C ca cb cc T
  have h2 := Boxed.new (w.alloc (.cells (ndCells a A B C ca cb cc) T)) b A' B' C' ca' cb' cc' T
  have hs : (w.alloc (.cells (ndCells a A B C ca cb cc) T)).heap.size = w.heap.size + 1 := by simp
  rw [hs] at h2
  exact ⟨h1.up (below_alloc _ _) (by simp), h2, below_of (below_alloc _ _) (below_alloc _ _), by simp⟩

set_option maxRecDepth 100000 in
set_option maxHeartbeats 4000000 in
theorem sameN_any (a b : Nd) (A B C A' B' C' : Option Addr) (ca cb cc ca' cb' cc' : Nat) (w : World) (h : Lies w a A B C ca cb cc) (k : Lies w b A' B' C' ca' cb' cc') :
    Calls Try.prog 22 #[.agg (ndCells a A B C ca cb cc), .agg (ndCells b A' B' C' ca' cb' cc')] w (Ret (.bool (sameB a b)) w) := by
  obtain ⟨hb1, hb2, HB, hsz⟩ := two_boxes w a b A B C A' B' C' ca cb cc ca' cb' cc' 26
  replace h := h.up HB
  replace k := k.up HB
  obtain ⟨level, low, high, last, next, keys, vals, kids⟩ := a
  obtain ⟨level', low', high', last', next', keys', vals', kids'⟩ := b
  simp only [ndCells] at hb1 hb2 HB hsz h k ⊢
  go_enter Try.func22, Try.ntmps22
  go_upto_region 1 with fail
  generalize (w.alloc _).alloc _ = W at hb1 hb2 HB hsz h k ⊢
  refine wp_region_held_drew (S := fun w' => Below W.heap.size W w') (by kernel_rfl) (Below.drew (Below.refl _ _)) (fun hcur => ?_)
  replace hcur : Below W.heap.size W W.drew := hcur
  refine wpAnyH_take (i := 0) (v := ?_) rfl (by decide +kernel) (by decide +kernel) (by decide +kernel) (fun _ _ _ h => h) (Or.inl ⟨by rfl, ?hy⟩) hcur ?_
  case hy =>
    intro w1 hSw
    replace hSw : Below W.heap.size W w1 := hSw
    obtain ⟨x0, x1, x2, x3, x4, x5, x6, x7⟩ := hb1.up hSw (by omega)
    obtain ⟨y0, y1, y2, y3, y4, y5, y6, y7⟩ := hb2.up hSw hsz
    simp only [] at x0 x1 x2 x3 x4 x5 x6 x7 y0 y1 y2 y3 y4 y5 y6 y7
    go_simp
    (try with_reducible rfl)
  (try simp only [Act.put, List.getElem_toArray, List.getElem_cons_zero, List.getElem_cons_succ, List.setIfInBounds_toArray, List.set_cons_zero, List.set_cons_succ])
  refine wpAnyH_take (i := 2) (v := ?_) rfl (by decide +kernel) (by decide +kernel) (by decide +kernel) (fun _ _ _ h => h) (Or.inl ⟨by rfl, ?hy⟩) hcur ?_
  case hy =>
    intro w1 hSw
    replace hSw : Below W.heap.size W w1 := hSw
    obtain ⟨x0, x1, x2, x3, x4, x5, x6, x7⟩ := hb1.up hSw (by omega)
    obtain ⟨y0, y1, y2, y3, y4, y5, y6, y7⟩ := hb2.up hSw hsz
    simp only [] at x0 x1 x2 x3 x4 x5 x6 x7 y0 y1 y2 y3 y4 y5 y6 y7
    go_simp
    (try with_reducible rfl)
  (try simp only [Act.put, List.getElem_toArray, List.getElem_cons_zero, List.getElem_cons_succ, List.setIfInBounds_toArray, List.set_cons_zero, List.set_cons_succ])
  refine wpAnyH_ready (rs := [1]) (by decide +kernel) (by simp) ?_
  refine AllReadyH.cons rfl (fun K hK => ?_) AllReadyH.nil
  go_simp
  refine (shaped_any ⟨level, low, high, last, next, keys, vals, kids⟩ A B C ca cb cc _).mono ?_
  rintro e wn ⟨rfl, hbn⟩
  go_wp2_with fail
  refine hK.out _ _ (below_of hcur hbn) (fun _ => ?_)
  clear hK K
  replace hcur := below_of hcur hbn
  clear hbn
  (try simp only [Act.put, List.getElem_toArray, List.getElem_cons_zero, List.getElem_cons_succ, List.setIfInBounds_toArray, List.set_cons_zero, List.set_cons_succ])
  refine wpAnyH_ready (rs := [3]) (by decide +kernel) (by simp) ?_
  refine AllReadyH.cons rfl (fun K hK => ?_) AllReadyH.nil
  go_simp
  refine (shaped_any ⟨level', low', high', last', next', keys', vals', kids'⟩ A' B' C' ca' cb' cc' _).mono ?_
  rintro e wn ⟨rfl, hbn⟩
  go_wp2_with fail
  refine hK.out _ _ (below_of hcur hbn) (fun _ => ?_)
  clear hK K
  replace hcur := below_of hcur hbn
  clear hbn
  (try simp only [Act.put, List.getElem_toArray, List.getElem_cons_zero, List.getElem_cons_succ, List.setIfInBounds_toArray, List.set_cons_zero, List.set_cons_succ])
  have hs : sameB ⟨level, low, high, last, next, keys, vals, kids⟩ ⟨level', low', high', last', next', keys', vals', kids'⟩ = (shapeB ⟨level, low, high, last, next, keys, vals, kids⟩ ⟨level', low', high', last', next', keys', vals', kids'⟩ && (decide (keys = keys') && (decide (vals = vals') && decide (kids = kids')))) := rfl
  refine wpAnyH_take (i := 4) (v := .bool (shapeB ⟨level, low, high, last, next, keys, vals, kids⟩ ⟨level', low', high', last', next', keys', vals', kids'⟩)) rfl (by decide +kernel) (by decide +kernel) (by decide +kernel) (fun _ _ _ h => h) (Or.inl ⟨by rfl, ?hy⟩) hcur ?_
  case hy =>
    intro w1 hSw
    replace hSw : Below W.heap.size W w1 := hSw
    obtain ⟨x0, x1, x2, x3, x4, x5, x6, x7⟩ := hb1.up hSw (by omega)
    obtain ⟨y0, y1, y2, y3, y4, y5, y6, y7⟩ := hb2.up hSw hsz
    simp only [] at x0 x1 x2 x3 x4 x5 x6 x7 y0 y1 y2 y3 y4 y5 y6 y7
    go_simp
    (refine Eq.trans (ifs5 (level = level') (next = next') (low.toList = low'.toList) (high.toList = high'.toList) (last = last') (fun b => Result.ok (Next.value (.bool b)) w1)) ?_; simp only [txt_dec]; rfl)
  (try simp only [Act.put, List.getElem_toArray, List.getElem_cons_zero, List.getElem_cons_succ, List.setIfInBounds_toArray, List.set_cons_zero, List.set_cons_succ])
  generalize shapeB ⟨level, low, high, last, next, keys, vals, kids⟩ ⟨level', low', high', last', next', keys', vals', kids'⟩ = p at hs ⊢
  have Hs := Lib.hid hs
  clear hs
  cases p
  · refine wpAnyH_take (i := 5) (v := ?_) rfl (by decide +kernel) (by decide +kernel) (by decide +kernel) (fun _ _ _ h => h) (Or.inl ⟨by rfl, ?hy⟩) hcur ?_
    case hy =>
      intro w1 hSw
      replace hSw : Below W.heap.size W w1 := hSw
      obtain ⟨x0, x1, x2, x3, x4, x5, x6, x7⟩ := hb1.up hSw (by omega)
      obtain ⟨y0, y1, y2, y3, y4, y5, y6, y7⟩ := hb2.up hSw hsz
      simp only [] at x0 x1 x2 x3 x4 x5 x6 x7 y0 y1 y2 y3 y4 y5 y6 y7
      go_simp
      (try with_reducible rfl)
    (try simp only [Act.put, List.getElem_toArray, List.getElem_cons_zero, List.getElem_cons_succ, List.setIfInBounds_toArray, List.set_cons_zero, List.set_cons_succ])
    refine wpAnyH_take (i := 6) rfl (by decide +kernel) (by decide +kernel) (by decide +kernel) (fun _ _ _ h => h) (Or.inr ⟨by rfl, rfl⟩) hcur ?_
    (try simp only [Act.put, List.getElem_toArray, List.getElem_cons_zero, List.getElem_cons_succ, List.setIfInBounds_toArray, List.set_cons_zero, List.set_cons_succ])
    refine wpAnyH_take (i := 7) rfl (by decide +kernel) (by decide +kernel) (by decide +kernel) (fun _ _ _ h => h) (Or.inr ⟨by rfl, rfl⟩) hcur ?_
    (try simp only [Act.put, List.getElem_toArray, List.getElem_cons_zero, List.getElem_cons_succ, List.setIfInBounds_toArray, List.set_cons_zero, List.set_cons_succ])
    refine wpAnyH_take (i := 8) rfl (by decide +kernel) (by decide +kernel) (by decide +kernel) (fun _ _ _ h => h) (Or.inr ⟨by rfl, rfl⟩) hcur ?_
    (try simp only [Act.put, List.getElem_toArray, List.getElem_cons_zero, List.getElem_cons_succ, List.setIfInBounds_toArray, List.set_cons_zero, List.set_cons_succ])
    refine wpAnyH_take (i := 9) rfl (by decide +kernel) (by decide +kernel) (by decide +kernel) (fun _ _ _ h => h) (Or.inr ⟨by rfl, rfl⟩) hcur ?_
    (try simp only [Act.put, List.getElem_toArray, List.getElem_cons_zero, List.getElem_cons_succ, List.setIfInBounds_toArray, List.set_cons_zero, List.set_cons_succ])
    refine wpAnyH_take (i := 10) rfl (by decide +kernel) (by decide +kernel) (by decide +kernel) (fun _ _ _ h => h) (Or.inr ⟨by rfl, rfl⟩) hcur ?_
    (try simp only [Act.put, List.getElem_toArray, List.getElem_cons_zero, List.getElem_cons_succ, List.setIfInBounds_toArray, List.set_cons_zero, List.set_cons_succ])
    refine wpAnyH_take (i := 11) (v := ?_) rfl (by decide +kernel) (by decide +kernel) (by decide +kernel) (fun _ _ _ h => h) (Or.inl ⟨by rfl, ?hy⟩) hcur ?_
    case hy =>
      intro w1 hSw
      replace hSw : Below W.heap.size W w1 := hSw
      obtain ⟨x0, x1, x2, x3, x4, x5, x6, x7⟩ := hb1.up hSw (by omega)
      obtain ⟨y0, y1, y2, y3, y4, y5, y6, y7⟩ := hb2.up hSw hsz
      simp only [] at x0 x1 x2 x3 x4 x5 x6 x7 y0 y1 y2 y3 y4 y5 y6 y7
      go_simp
      (try with_reducible rfl)
    (try simp only [Act.put, List.getElem_toArray, List.getElem_cons_zero, List.getElem_cons_succ, List.setIfInBounds_toArray, List.set_cons_zero, List.set_cons_succ])
    refine wpAnyH_take (i := 12) (v := ?_) rfl (by decide +kernel) (by decide +kernel) (by decide +kernel) (fun _ _ _ h => h) (Or.inl ⟨by rfl, ?hy⟩) hcur ?_
    case hy =>
      intro w1 hSw
      replace hSw : Below W.heap.size W w1 := hSw
      obtain ⟨x0, x1, x2, x3, x4, x5, x6, x7⟩ := hb1.up hSw (by omega)
      obtain ⟨y0, y1, y2, y3, y4, y5, y6, y7⟩ := hb2.up hSw hsz
      simp only [] at x0 x1 x2 x3 x4 x5 x6 x7 y0 y1 y2 y3 y4 y5 y6 y7
      go_simp
      (try with_reducible rfl)
    (try simp only [Act.put, List.getElem_toArray, List.getElem_cons_zero, List.getElem_cons_succ, List.setIfInBounds_toArray, List.set_cons_zero, List.set_cons_succ])
    refine wpAnyH_take (i := 13) rfl (by decide +kernel) (by decide +kernel) (by decide +kernel) (fun _ _ _ h => h) (Or.inr ⟨by rfl, rfl⟩) hcur ?_
    (try simp only [Act.put, List.getElem_toArray, List.getElem_cons_zero, List.getElem_cons_succ, List.setIfInBounds_toArray, List.set_cons_zero, List.set_cons_succ])
    refine wpAnyH_take (i := 14) rfl (by decide +kernel) (by decide +kernel) (by decide +kernel) (fun _ _ _ h => h) (Or.inr ⟨by rfl, rfl⟩) hcur ?_
    (try simp only [Act.put, List.getElem_toArray, List.getElem_cons_zero, List.getElem_cons_succ, List.setIfInBounds_toArray, List.set_cons_zero, List.set_cons_succ])
    refine wpAnyH_take (i := 15) rfl (by decide +kernel) (by decide +kernel) (by decide +kernel) (fun _ _ _ h => h) (Or.inr ⟨by rfl, rfl⟩) hcur ?_
    (try simp only [Act.put, List.getElem_toArray, List.getElem_cons_zero, List.getElem_cons_succ, List.setIfInBounds_toArray, List.set_cons_zero, List.set_cons_succ])
    refine wpAnyH_take (i := 16) rfl (by decide +kernel) (by decide +kernel) (by decide +kernel) (fun _ _ _ h => h) (Or.inr ⟨by rfl, rfl⟩) hcur ?_
    (try simp only [Act.put, List.getElem_toArray, List.getElem_cons_zero, List.getElem_cons_succ, List.setIfInBounds_toArray, List.set_cons_zero, List.set_cons_succ])
    refine wpAnyH_take (i := 17) rfl (by decide +kernel) (by decide +kernel) (by decide +kernel) (fun _ _ _ h => h) (Or.inr ⟨by rfl, rfl⟩) hcur ?_
    (try simp only [Act.put, List.getElem_toArray, List.getElem_cons_zero, List.getElem_cons_succ, List.setIfInBounds_toArray, List.set_cons_zero, List.set_cons_succ])
    refine wpAnyH_take (i := 18) (v := ?_) rfl (by decide +kernel) (by decide +kernel) (by decide +kernel) (fun _ _ _ h => h) (Or.inl ⟨by rfl, ?hy⟩) hcur ?_
    case hy =>
      intro w1 hSw
      replace hSw : Below W.heap.size W w1 := hSw
      obtain ⟨x0, x1, x2, x3, x4, x5, x6, x7⟩ := hb1.up hSw (by omega)
      obtain ⟨y0, y1, y2, y3, y4, y5, y6, y7⟩ := hb2.up hSw hsz
      simp only [] at x0 x1 x2 x3 x4 x5 x6 x7 y0 y1 y2 y3 y4 y5 y6 y7
      go_simp
      (try with_reducible rfl)
    (try simp only [Act.put, List.getElem_toArray, List.getElem_cons_zero, List.getElem_cons_succ, List.setIfInBounds_toArray, List.set_cons_zero, List.set_cons_succ])
    refine wpAnyH_take (i := 19) (v := ?_) rfl (by decide +kernel) (by decide +kernel) (by decide +kernel) (fun _ _ _ h => h) (Or.inl ⟨by rfl, ?hy⟩) hcur ?_
    case hy =>
      intro w1 hSw
      replace hSw : Below W.heap.size W w1 := hSw
      obtain ⟨x0, x1, x2, x3, x4, x5, x6, x7⟩ := hb1.up hSw (by omega)
      obtain ⟨y0, y1, y2, y3, y4, y5, y6, y7⟩ := hb2.up hSw hsz
      simp only [] at x0 x1 x2 x3 x4 x5 x6 x7 y0 y1 y2 y3 y4 y5 y6 y7
      go_simp
      (try with_reducible rfl)
    (try simp only [Act.put, List.getElem_toArray, List.getElem_cons_zero, List.getElem_cons_succ, List.setIfInBounds_toArray, List.set_cons_zero, List.set_cons_succ])
    refine wpAnyH_take (i := 20) rfl (by decide +kernel) (by decide +kernel) (by decide +kernel) (fun _ _ _ h => h) (Or.inr ⟨by rfl, rfl⟩) hcur ?_
    (try simp only [Act.put, List.getElem_toArray, List.getElem_cons_zero, List.getElem_cons_succ, List.setIfInBounds_toArray, List.set_cons_zero, List.set_cons_succ])
    refine wpAnyH_take (i := 21) rfl (by decide +kernel) (by decide +kernel) (by decide +kernel) (fun _ _ _ h => h) (Or.inr ⟨by rfl, rfl⟩) hcur ?_
    (try simp only [Act.put, List.getElem_toArray, List.getElem_cons_zero, List.getElem_cons_succ, List.setIfInBounds_toArray, List.set_cons_zero, List.set_cons_succ])
    refine wpAnyH_take (i := 22) rfl (by decide +kernel) (by decide +kernel) (by decide +kernel) (fun _ _ _ h => h) (Or.inr ⟨by rfl, rfl⟩) hcur ?_
    (try simp only [Act.put, List.getElem_toArray, List.getElem_cons_zero, List.getElem_cons_succ, List.setIfInBounds_toArray, List.set_cons_zero, List.set_cons_succ])
    refine wpAnyH_take (i := 23) rfl (by decide +kernel) (by decide +kernel) (by decide +kernel) (fun _ _ _ h => h) (Or.inr ⟨by rfl, rfl⟩) hcur ?_
    (try simp only [Act.put, List.getElem_toArray, List.getElem_cons_zero, List.getElem_cons_succ, List.setIfInBounds_toArray, List.set_cons_zero, List.set_cons_succ])
    refine wpAnyH_take (i := 24) rfl (by decide +kernel) (by decide +kernel) (by decide +kernel) (fun _ _ _ h => h) (Or.inr ⟨by rfl, rfl⟩) hcur ?_
    (try simp only [Act.put, List.getElem_toArray, List.getElem_cons_zero, List.getElem_cons_succ, List.setIfInBounds_toArray, List.set_cons_zero, List.set_cons_succ])
    refine wpAnyH_take (i := 25) (v := ?_) rfl (by decide +kernel) (by decide +kernel) (by decide +kernel) (fun _ _ _ h => h) (Or.inl ⟨by rfl, ?hy⟩) hcur ?_
    case hy =>
      intro w1 hSw
      replace hSw : Below W.heap.size W w1 := hSw
      obtain ⟨x0, x1, x2, x3, x4, x5, x6, x7⟩ := hb1.up hSw (by omega)
      obtain ⟨y0, y1, y2, y3, y4, y5, y6, y7⟩ := hb2.up hSw hsz
      simp only [] at x0 x1 x2 x3 x4 x5 x6 x7 y0 y1 y2 y3 y4 y5 y6 y7
      go_simp
      (try with_reducible rfl)
    (try simp only [Act.put, List.getElem_toArray, List.getElem_cons_zero, List.getElem_cons_succ, List.setIfInBounds_toArray, List.set_cons_zero, List.set_cons_succ])
    refine wpAnyH_take (i := 26) (v := ?_) rfl (by decide +kernel) (by decide +kernel) (by decide +kernel) (fun _ _ _ h => h) (Or.inl ⟨by rfl, ?hy⟩) hcur ?_
    case hy =>
      intro w1 hSw
      replace hSw : Below W.heap.size W w1 := hSw
      obtain ⟨x0, x1, x2, x3, x4, x5, x6, x7⟩ := hb1.up hSw (by omega)
      obtain ⟨y0, y1, y2, y3, y4, y5, y6, y7⟩ := hb2.up hSw hsz
      simp only [] at x0 x1 x2 x3 x4 x5 x6 x7 y0 y1 y2 y3 y4 y5 y6 y7
      go_simp
      (try with_reducible rfl)
    (try simp only [Act.put, List.getElem_toArray, List.getElem_cons_zero, List.getElem_cons_succ, List.setIfInBounds_toArray, List.set_cons_zero, List.set_cons_succ])
    refine wpAnyH_done (by decide +kernel) ?_ _
    go_wp2_with fail
    go_ret
    exact ⟨ret_bool Hs.out.symm, below_of HB hcur⟩
  · refine wpAnyH_take (i := 5) (v := ?_) rfl (by decide +kernel) (by decide +kernel) (by decide +kernel) (fun _ _ _ h => h) (Or.inl ⟨by rfl, ?hy⟩) hcur ?_
    case hy =>
      intro w1 hSw
      replace hSw : Below W.heap.size W w1 := hSw
      obtain ⟨x0, x1, x2, x3, x4, x5, x6, x7⟩ := hb1.up hSw (by omega)
      obtain ⟨y0, y1, y2, y3, y4, y5, y6, y7⟩ := hb2.up hSw hsz
      simp only [] at x0 x1 x2 x3 x4 x5 x6 x7 y0 y1 y2 y3 y4 y5 y6 y7
      go_simp
      (try with_reducible rfl)
    (try simp only [Act.put, List.getElem_toArray, List.getElem_cons_zero, List.getElem_cons_succ, List.setIfInBounds_toArray, List.set_cons_zero, List.set_cons_succ])
    refine wpAnyH_take (i := 6) (v := ?_) rfl (by decide +kernel) (by decide +kernel) (by decide +kernel) (fun _ _ _ h => h) (Or.inl ⟨by rfl, ?hy⟩) hcur ?_
    case hy =>
      intro w1 hSw
      replace hSw : Below W.heap.size W w1 := hSw
      obtain ⟨x0, x1, x2, x3, x4, x5, x6, x7⟩ := hb1.up hSw (by omega)
      obtain ⟨y0, y1, y2, y3, y4, y5, y6, y7⟩ := hb2.up hSw hsz
      simp only [] at x0 x1 x2 x3 x4 x5 x6 x7 y0 y1 y2 y3 y4 y5 y6 y7
      go_simp
      (try with_reducible rfl)
    (try simp only [Act.put, List.getElem_toArray, List.getElem_cons_zero, List.getElem_cons_succ, List.setIfInBounds_toArray, List.set_cons_zero, List.set_cons_succ])
    refine wpAnyH_take (i := 7) (v := ?_) rfl (by decide +kernel) (by decide +kernel) (by decide +kernel) (fun _ _ _ h => h) (Or.inl ⟨by rfl, ?hy⟩) hcur ?_
    case hy =>
      intro w1 hSw
      replace hSw : Below W.heap.size W w1 := hSw
      obtain ⟨x0, x1, x2, x3, x4, x5, x6, x7⟩ := hb1.up hSw (by omega)
      obtain ⟨y0, y1, y2, y3, y4, y5, y6, y7⟩ := hb2.up hSw hsz
      simp only [] at x0 x1 x2 x3 x4 x5 x6 x7 y0 y1 y2 y3 y4 y5 y6 y7
      go_simp
      (try with_reducible rfl)
    (try simp only [Act.put, List.getElem_toArray, List.getElem_cons_zero, List.getElem_cons_succ, List.setIfInBounds_toArray, List.set_cons_zero, List.set_cons_succ])
    refine wpAnyH_take (i := 8) (v := ?_) rfl (by decide +kernel) (by decide +kernel) (by decide +kernel) (fun _ _ _ h => h) (Or.inl ⟨by rfl, ?hy⟩) hcur ?_
    case hy =>
      intro w1 hSw
      replace hSw : Below W.heap.size W w1 := hSw
      obtain ⟨x0, x1, x2, x3, x4, x5, x6, x7⟩ := hb1.up hSw (by omega)
      obtain ⟨y0, y1, y2, y3, y4, y5, y6, y7⟩ := hb2.up hSw hsz
      simp only [] at x0 x1 x2 x3 x4 x5 x6 x7 y0 y1 y2 y3 y4 y5 y6 y7
      go_simp
      (try with_reducible rfl)
    (try simp only [Act.put, List.getElem_toArray, List.getElem_cons_zero, List.getElem_cons_succ, List.setIfInBounds_toArray, List.set_cons_zero, List.set_cons_succ])
    refine wpAnyH_take (i := 9) (v := ?_) rfl (by decide +kernel) (by decide +kernel) (by decide +kernel) (fun _ _ _ h => h) (Or.inl ⟨by rfl, ?hy⟩) hcur ?_
    case hy =>
      intro w1 hSw
      replace hSw : Below W.heap.size W w1 := hSw
      obtain ⟨x0, x1, x2, x3, x4, x5, x6, x7⟩ := hb1.up hSw (by omega)
      obtain ⟨y0, y1, y2, y3, y4, y5, y6, y7⟩ := hb2.up hSw hsz
      simp only [] at x0 x1 x2 x3 x4 x5 x6 x7 y0 y1 y2 y3 y4 y5 y6 y7
      go_simp
      (try with_reducible rfl)
    (try simp only [Act.put, List.getElem_toArray, List.getElem_cons_zero, List.getElem_cons_succ, List.setIfInBounds_toArray, List.set_cons_zero, List.set_cons_succ])
    refine wpAnyH_ready (rs := [10]) (by decide +kernel) (by simp) ?_
    refine AllReadyH.cons rfl (fun K hK => ?_) AllReadyH.nil
    go_simp
    refine (equalS_any A A' keys.length ca keys'.length ca' keys keys' _ (h.up hcur).keys (k.up hcur).keys h.la).mono ?_
    rintro e wn ⟨rfl, hbn⟩
    go_wp2_with fail
    refine hK.out _ _ (below_of hcur hbn) (fun _ => ?_)
    clear hK K
    replace hcur := below_of hcur hbn
    clear hbn
    (try simp only [Act.put, List.getElem_toArray, List.getElem_cons_zero, List.getElem_cons_succ, List.setIfInBounds_toArray, List.set_cons_zero, List.set_cons_succ])
    generalize decide (keys = keys') = q1 at Hs ⊢
    cases q1
    · refine wpAnyH_take (i := 11) (v := ?_) rfl (by decide +kernel) (by decide +kernel) (by decide +kernel) (fun _ _ _ h => h) (Or.inl ⟨by rfl, ?hy⟩) hcur ?_
      case hy =>
        intro w1 hSw
        replace hSw : Below W.heap.size W w1 := hSw
        obtain ⟨x0, x1, x2, x3, x4, x5, x6, x7⟩ := hb1.up hSw (by omega)
        obtain ⟨y0, y1, y2, y3, y4, y5, y6, y7⟩ := hb2.up hSw hsz
        simp only [] at x0 x1 x2 x3 x4 x5 x6 x7 y0 y1 y2 y3 y4 y5 y6 y7
        go_simp
        (try with_reducible rfl)
      (try simp only [Act.put, List.getElem_toArray, List.getElem_cons_zero, List.getElem_cons_succ, List.setIfInBounds_toArray, List.set_cons_zero, List.set_cons_succ])
      refine wpAnyH_take (i := 12) (v := ?_) rfl (by decide +kernel) (by decide +kernel) (by decide +kernel) (fun _ _ _ h => h) (Or.inl ⟨by rfl, ?hy⟩) hcur ?_
      case hy =>
        intro w1 hSw
        replace hSw : Below W.heap.size W w1 := hSw
        obtain ⟨x0, x1, x2, x3, x4, x5, x6, x7⟩ := hb1.up hSw (by omega)
        obtain ⟨y0, y1, y2, y3, y4, y5, y6, y7⟩ := hb2.up hSw hsz
        simp only [] at x0 x1 x2 x3 x4 x5 x6 x7 y0 y1 y2 y3 y4 y5 y6 y7
        go_simp
        (try with_reducible rfl)
      (try simp only [Act.put, List.getElem_toArray, List.getElem_cons_zero, List.getElem_cons_succ, List.setIfInBounds_toArray, List.set_cons_zero, List.set_cons_succ])
      refine wpAnyH_take (i := 13) rfl (by decide +kernel) (by decide +kernel) (by decide +kernel) (fun _ _ _ h => h) (Or.inr ⟨by rfl, rfl⟩) hcur ?_
      (try simp only [Act.put, List.getElem_toArray, List.getElem_cons_zero, List.getElem_cons_succ, List.setIfInBounds_toArray, List.set_cons_zero, List.set_cons_succ])
      refine wpAnyH_take (i := 14) rfl (by decide +kernel) (by decide +kernel) (by decide +kernel) (fun _ _ _ h => h) (Or.inr ⟨by rfl, rfl⟩) hcur ?_
      (try simp only [Act.put, List.getElem_toArray, List.getElem_cons_zero, List.getElem_cons_succ, List.setIfInBounds_toArray, List.set_cons_zero, List.set_cons_succ])
      refine wpAnyH_take (i := 15) rfl (by decide +kernel) (by decide +kernel) (by decide +kernel) (fun _ _ _ h => h) (Or.inr ⟨by rfl, rfl⟩) hcur ?_
      (try simp only [Act.put, List.getElem_toArray, List.getElem_cons_zero, List.getElem_cons_succ, List.setIfInBounds_toArray, List.set_cons_zero, List.set_cons_succ])
      refine wpAnyH_take (i := 16) rfl (by decide +kernel) (by decide +kernel) (by decide +kernel) (fun _ _ _ h => h) (Or.inr ⟨by rfl, rfl⟩) hcur ?_
      (try simp only [Act.put, List.getElem_toArray, List.getElem_cons_zero, List.getElem_cons_succ, List.setIfInBounds_toArray, List.set_cons_zero, List.set_cons_succ])
      refine wpAnyH_take (i := 17) rfl (by decide +kernel) (by decide +kernel) (by decide +kernel) (fun _ _ _ h => h) (Or.inr ⟨by rfl, rfl⟩) hcur ?_
      (try simp only [Act.put, List.getElem_toArray, List.getElem_cons_zero, List.getElem_cons_succ, List.setIfInBounds_toArray, List.set_cons_zero, List.set_cons_succ])
      refine wpAnyH_take (i := 18) (v := ?_) rfl (by decide +kernel) (by decide +kernel) (by decide +kernel) (fun _ _ _ h => h) (Or.inl ⟨by rfl, ?hy⟩) hcur ?_
      case hy =>
        intro w1 hSw
        replace hSw : Below W.heap.size W w1 := hSw
        obtain ⟨x0, x1, x2, x3, x4, x5, x6, x7⟩ := hb1.up hSw (by omega)
        obtain ⟨y0, y1, y2, y3, y4, y5, y6, y7⟩ := hb2.up hSw hsz
        simp only [] at x0 x1 x2 x3 x4 x5 x6 x7 y0 y1 y2 y3 y4 y5 y6 y7
        go_simp
        (try with_reducible rfl)
      (try simp only [Act.put, List.getElem_toArray, List.getElem_cons_zero, List.getElem_cons_succ, List.setIfInBounds_toArray, List.set_cons_zero, List.set_cons_succ])
      refine wpAnyH_take (i := 19) (v := ?_) rfl (by decide +kernel) (by decide +kernel) (by decide +kernel) (fun _ _ _ h => h) (Or.inl ⟨by rfl, ?hy⟩) hcur ?_
      case hy =>
        intro w1 hSw
        replace hSw : Below W.heap.size W w1 := hSw
        obtain ⟨x0, x1, x2, x3, x4, x5, x6, x7⟩ := hb1.up hSw (by omega)
        obtain ⟨y0, y1, y2, y3, y4, y5, y6, y7⟩ := hb2.up hSw hsz
        simp only [] at x0 x1 x2 x3 x4 x5 x6 x7 y0 y1 y2 y3 y4 y5 y6 y7
        go_simp
        (try with_reducible rfl)
      (try simp only [Act.put, List.getElem_toArray, List.getElem_cons_zero, List.getElem_cons_succ, List.setIfInBounds_toArray, List.set_cons_zero, List.set_cons_succ])
      refine wpAnyH_take (i := 20) rfl (by decide +kernel) (by decide +kernel) (by decide +kernel) (fun _ _ _ h => h) (Or.inr ⟨by rfl, rfl⟩) hcur ?_
      (try simp only [Act.put, List.getElem_toArray, List.getElem_cons_zero, List.getElem_cons_succ, List.setIfInBounds_toArray, List.set_cons_zero, List.set_cons_succ])
      refine wpAnyH_take (i := 21) rfl (by decide +kernel) (by decide +kernel) (by decide +kernel) (fun _ _ _ h => h) (Or.inr ⟨by rfl, rfl⟩) hcur ?_
      (try simp only [Act.put, List.getElem_toArray, List.getElem_cons_zero, List.getElem_cons_succ, List.setIfInBounds_toArray, List.set_cons_zero, List.set_cons_succ])
      refine wpAnyH_take (i := 22) rfl (by decide +kernel) (by decide +kernel) (by decide +kernel) (fun _ _ _ h => h) (Or.inr ⟨by rfl, rfl⟩) hcur ?_
      (try simp only [Act.put, List.getElem_toArray, List.getElem_cons_zero, List.getElem_cons_succ, List.setIfInBounds_toArray, List.set_cons_zero, List.set_cons_succ])
      refine wpAnyH_take (i := 23) rfl (by decide +kernel) (by decide +kernel) (by decide +kernel) (fun _ _ _ h => h) (Or.inr ⟨by rfl, rfl⟩) hcur ?_
      (try simp only [Act.put, List.getElem_toArray, List.getElem_cons_zero, List.getElem_cons_succ, List.setIfInBounds_toArray, List.set_cons_zero, List.set_cons_succ])
      refine wpAnyH_take (i := 24) rfl (by decide +kernel) (by decide +kernel) (by decide +kernel) (fun _ _ _ h => h) (Or.inr ⟨by rfl, rfl⟩) hcur ?_
      (try simp only [Act.put, List.getElem_toArray, List.getElem_cons_zero, List.getElem_cons_succ, List.setIfInBounds_toArray, List.set_cons_zero, List.set_cons_succ])
      refine wpAnyH_take (i := 25) (v := ?_) rfl (by decide +kernel) (by decide +kernel) (by decide +kernel) (fun _ _ _ h => h) (Or.inl ⟨by rfl, ?hy⟩) hcur ?_
      case hy =>
        intro w1 hSw
        replace hSw : Below W.heap.size W w1 := hSw
        obtain ⟨x0, x1, x2, x3, x4, x5, x6, x7⟩ := hb1.up hSw (by omega)
        obtain ⟨y0, y1, y2, y3, y4, y5, y6, y7⟩ := hb2.up hSw hsz
        simp only [] at x0 x1 x2 x3 x4 x5 x6 x7 y0 y1 y2 y3 y4 y5 y6 y7
        go_simp
        (try with_reducible rfl)
      (try simp only [Act.put, List.getElem_toArray, List.getElem_cons_zero, List.getElem_cons_succ, List.setIfInBounds_toArray, List.set_cons_zero, List.set_cons_succ])
      refine wpAnyH_take (i := 26) (v := ?_) rfl (by decide +kernel) (by decide +kernel) (by decide +kernel) (fun _ _ _ h => h) (Or.inl ⟨by rfl, ?hy⟩) hcur ?_
      case hy =>
        intro w1 hSw
        replace hSw : Below W.heap.size W w1 := hSw
        obtain ⟨x0, x1, x2, x3, x4, x5, x6, x7⟩ := hb1.up hSw (by omega)
        obtain ⟨y0, y1, y2, y3, y4, y5, y6, y7⟩ := hb2.up hSw hsz
        simp only [] at x0 x1 x2 x3 x4 x5 x6 x7 y0 y1 y2 y3 y4 y5 y6 y7
        go_simp
        (try with_reducible rfl)
      (try simp only [Act.put, List.getElem_toArray, List.getElem_cons_zero, List.getElem_cons_succ, List.setIfInBounds_toArray, List.set_cons_zero, List.set_cons_succ])
      refine wpAnyH_done (by decide +kernel) ?_ _
      go_wp2_with fail
      go_ret
      exact ⟨ret_bool Hs.out.symm, below_of HB hcur⟩
    · refine wpAnyH_take (i := 11) (v := ?_) rfl (by decide +kernel) (by decide +kernel) (by decide +kernel) (fun _ _ _ h => h) (Or.inl ⟨by rfl, ?hy⟩) hcur ?_
      case hy =>
        intro w1 hSw
        replace hSw : Below W.heap.size W w1 := hSw
        obtain ⟨x0, x1, x2, x3, x4, x5, x6, x7⟩ := hb1.up hSw (by omega)
        obtain ⟨y0, y1, y2, y3, y4, y5, y6, y7⟩ := hb2.up hSw hsz
        simp only [] at x0 x1 x2 x3 x4 x5 x6 x7 y0 y1 y2 y3 y4 y5 y6 y7
        go_simp
        (try with_reducible rfl)
      (try simp only [Act.put, List.getElem_toArray, List.getElem_cons_zero, List.getElem_cons_succ, List.setIfInBounds_toArray, List.set_cons_zero, List.set_cons_succ])
      refine wpAnyH_take (i := 12) (v := ?_) rfl (by decide +kernel) (by decide +kernel) (by decide +kernel) (fun _ _ _ h => h) (Or.inl ⟨by rfl, ?hy⟩) hcur ?_
      case hy =>
        intro w1 hSw
        replace hSw : Below W.heap.size W w1 := hSw
        obtain ⟨x0, x1, x2, x3, x4, x5, x6, x7⟩ := hb1.up hSw (by omega)
        obtain ⟨y0, y1, y2, y3, y4, y5, y6, y7⟩ := hb2.up hSw hsz
        simp only [] at x0 x1 x2 x3 x4 x5 x6 x7 y0 y1 y2 y3 y4 y5 y6 y7
        go_simp
        (try with_reducible rfl)
      (try simp only [Act.put, List.getElem_toArray, List.getElem_cons_zero, List.getElem_cons_succ, List.setIfInBounds_toArray, List.set_cons_zero, List.set_cons_succ])
      refine wpAnyH_take (i := 13) (v := ?_) rfl (by decide +kernel) (by decide +kernel) (by decide +kernel) (fun _ _ _ h => h) (Or.inl ⟨by rfl, ?hy⟩) hcur ?_
      case hy =>
        intro w1 hSw
        replace hSw : Below W.heap.size W w1 := hSw
        obtain ⟨x0, x1, x2, x3, x4, x5, x6, x7⟩ := hb1.up hSw (by omega)
        obtain ⟨y0, y1, y2, y3, y4, y5, y6, y7⟩ := hb2.up hSw hsz
        simp only [] at x0 x1 x2 x3 x4 x5 x6 x7 y0 y1 y2 y3 y4 y5 y6 y7
        go_simp
        (try with_reducible rfl)
      (try simp only [Act.put, List.getElem_toArray, List.getElem_cons_zero, List.getElem_cons_succ, List.setIfInBounds_toArray, List.set_cons_zero, List.set_cons_succ])
      refine wpAnyH_take (i := 14) (v := ?_) rfl (by decide +kernel) (by decide +kernel) (by decide +kernel) (fun _ _ _ h => h) (Or.inl ⟨by rfl, ?hy⟩) hcur ?_
      case hy =>
        intro w1 hSw
        replace hSw : Below W.heap.size W w1 := hSw
        obtain ⟨x0, x1, x2, x3, x4, x5, x6, x7⟩ := hb1.up hSw (by omega)
        obtain ⟨y0, y1, y2, y3, y4, y5, y6, y7⟩ := hb2.up hSw hsz
        simp only [] at x0 x1 x2 x3 x4 x5 x6 x7 y0 y1 y2 y3 y4 y5 y6 y7
        go_simp
        (try with_reducible rfl)
      (try simp only [Act.put, List.getElem_toArray, List.getElem_cons_zero, List.getElem_cons_succ, List.setIfInBounds_toArray, List.set_cons_zero, List.set_cons_succ])
      refine wpAnyH_take (i := 15) (v := ?_) rfl (by decide +kernel) (by decide +kernel) (by decide +kernel) (fun _ _ _ h => h) (Or.inl ⟨by rfl, ?hy⟩) hcur ?_
      case hy =>
        intro w1 hSw
        replace hSw : Below W.heap.size W w1 := hSw
        obtain ⟨x0, x1, x2, x3, x4, x5, x6, x7⟩ := hb1.up hSw (by omega)
        obtain ⟨y0, y1, y2, y3, y4, y5, y6, y7⟩ := hb2.up hSw hsz
        simp only [] at x0 x1 x2 x3 x4 x5 x6 x7 y0 y1 y2 y3 y4 y5 y6 y7
        go_simp
        (try with_reducible rfl)
      (try simp only [Act.put, List.getElem_toArray, List.getElem_cons_zero, List.getElem_cons_succ, List.setIfInBounds_toArray, List.set_cons_zero, List.set_cons_succ])
      refine wpAnyH_take (i := 16) (v := ?_) rfl (by decide +kernel) (by decide +kernel) (by decide +kernel) (fun _ _ _ h => h) (Or.inl ⟨by rfl, ?hy⟩) hcur ?_
      case hy =>
        intro w1 hSw
        replace hSw : Below W.heap.size W w1 := hSw
        obtain ⟨x0, x1, x2, x3, x4, x5, x6, x7⟩ := hb1.up hSw (by omega)
        obtain ⟨y0, y1, y2, y3, y4, y5, y6, y7⟩ := hb2.up hSw hsz
        simp only [] at x0 x1 x2 x3 x4 x5 x6 x7 y0 y1 y2 y3 y4 y5 y6 y7
        go_simp
        (try with_reducible rfl)
      (try simp only [Act.put, List.getElem_toArray, List.getElem_cons_zero, List.getElem_cons_succ, List.setIfInBounds_toArray, List.set_cons_zero, List.set_cons_succ])
      refine wpAnyH_ready (rs := [17]) (by decide +kernel) (by simp) ?_
      refine AllReadyH.cons rfl (fun K hK => ?_) AllReadyH.nil
      go_simp
      refine (equalU_any B B' vals.length cb vals'.length cb' vals vals' _ (h.up hcur).vals (k.up hcur).vals h.lb).mono ?_
      rintro e wn ⟨rfl, hbn⟩
      go_wp2_with fail
      refine hK.out _ _ (below_of hcur hbn) (fun _ => ?_)
      clear hK K
      replace hcur := below_of hcur hbn
      clear hbn
      (try simp only [Act.put, List.getElem_toArray, List.getElem_cons_zero, List.getElem_cons_succ, List.setIfInBounds_toArray, List.set_cons_zero, List.set_cons_succ])
      generalize decide (vals = vals') = q2 at Hs ⊢
      cases q2
      · refine wpAnyH_take (i := 18) (v := ?_) rfl (by decide +kernel) (by decide +kernel) (by decide +kernel) (fun _ _ _ h => h) (Or.inl ⟨by rfl, ?hy⟩) hcur ?_
        case hy =>
          intro w1 hSw
          replace hSw : Below W.heap.size W w1 := hSw
          obtain ⟨x0, x1, x2, x3, x4, x5, x6, x7⟩ := hb1.up hSw (by omega)
          obtain ⟨y0, y1, y2, y3, y4, y5, y6, y7⟩ := hb2.up hSw hsz
          simp only [] at x0 x1 x2 x3 x4 x5 x6 x7 y0 y1 y2 y3 y4 y5 y6 y7
          go_simp
          (try with_reducible rfl)
        (try simp only [Act.put, List.getElem_toArray, List.getElem_cons_zero, List.getElem_cons_succ, List.setIfInBounds_toArray, List.set_cons_zero, List.set_cons_succ])
        refine wpAnyH_take (i := 19) (v := ?_) rfl (by decide +kernel) (by decide +kernel) (by decide +kernel) (fun _ _ _ h => h) (Or.inl ⟨by rfl, ?hy⟩) hcur ?_
        case hy =>
          intro w1 hSw
          replace hSw : Below W.heap.size W w1 := hSw
          obtain ⟨x0, x1, x2, x3, x4, x5, x6, x7⟩ := hb1.up hSw (by omega)
          obtain ⟨y0, y1, y2, y3, y4, y5, y6, y7⟩ := hb2.up hSw hsz
          simp only [] at x0 x1 x2 x3 x4 x5 x6 x7 y0 y1 y2 y3 y4 y5 y6 y7
          go_simp
          (try with_reducible rfl)
        (try simp only [Act.put, List.getElem_toArray, List.getElem_cons_zero, List.getElem_cons_succ, List.setIfInBounds_toArray, List.set_cons_zero, List.set_cons_succ])
        refine wpAnyH_take (i := 20) rfl (by decide +kernel) (by decide +kernel) (by decide +kernel) (fun _ _ _ h => h) (Or.inr ⟨by rfl, rfl⟩) hcur ?_
        (try simp only [Act.put, List.getElem_toArray, List.getElem_cons_zero, List.getElem_cons_succ, List.setIfInBounds_toArray, List.set_cons_zero, List.set_cons_succ])
        refine wpAnyH_take (i := 21) rfl (by decide +kernel) (by decide +kernel) (by decide +kernel) (fun _ _ _ h => h) (Or.inr ⟨by rfl, rfl⟩) hcur ?_
        (try simp only [Act.put, List.getElem_toArray, List.getElem_cons_zero, List.getElem_cons_succ, List.setIfInBounds_toArray, List.set_cons_zero, List.set_cons_succ])
        refine wpAnyH_take (i := 22) rfl (by decide +kernel) (by decide +kernel) (by decide +kernel) (fun _ _ _ h => h) (Or.inr ⟨by rfl, rfl⟩) hcur ?_
        (try simp only [Act.put, List.getElem_toArray, List.getElem_cons_zero, List.getElem_cons_succ, List.setIfInBounds_toArray, List.set_cons_zero, List.set_cons_succ])
        refine wpAnyH_take (i := 23) rfl (by decide +kernel) (by decide +kernel) (by decide +kernel) (fun _ _ _ h => h) (Or.inr ⟨by rfl, rfl⟩) hcur ?_
        (try simp only [Act.put, List.getElem_toArray, List.getElem_cons_zero, List.getElem_cons_succ, List.setIfInBounds_toArray, List.set_cons_zero, List.set_cons_succ])
        refine wpAnyH_take (i := 24) rfl (by decide +kernel) (by decide +kernel) (by decide +kernel) (fun _ _ _ h => h) (Or.inr ⟨by rfl, rfl⟩) hcur ?_
        (try simp only [Act.put, List.getElem_toArray, List.getElem_cons_zero, List.getElem_cons_succ, List.setIfInBounds_toArray, List.set_cons_zero, List.set_cons_succ])
        refine wpAnyH_take (i := 25) (v := ?_) rfl (by decide +kernel) (by decide +kernel) (by decide +kernel) (fun _ _ _ h => h) (Or.inl ⟨by rfl, ?hy⟩) hcur ?_
        case hy =>
          intro w1 hSw
          replace hSw : Below W.heap.size W w1 := hSw
          obtain ⟨x0, x1, x2, x3, x4, x5, x6, x7⟩ := hb1.up hSw (by omega)
          obtain ⟨y0, y1, y2, y3, y4, y5, y6, y7⟩ := hb2.up hSw hsz
          simp only [] at x0 x1 x2 x3 x4 x5 x6 x7 y0 y1 y2 y3 y4 y5 y6 y7
          go_simp
          (try with_reducible rfl)
        (try simp only [Act.put, List.getElem_toArray, List.getElem_cons_zero, List.getElem_cons_succ, List.setIfInBounds_toArray, List.set_cons_zero, List.set_cons_succ])
        refine wpAnyH_take (i := 26) (v := ?_) rfl (by decide +kernel) (by decide +kernel) (by decide +kernel) (fun _ _ _ h => h) (Or.inl ⟨by rfl, ?hy⟩) hcur ?_
        case hy =>
          intro w1 hSw
          replace hSw : Below W.heap.size W w1 := hSw
          obtain ⟨x0, x1, x2, x3, x4, x5, x6, x7⟩ := hb1.up hSw (by omega)
          obtain ⟨y0, y1, y2, y3, y4, y5, y6, y7⟩ := hb2.up hSw hsz
          simp only [] at x0 x1 x2 x3 x4 x5 x6 x7 y0 y1 y2 y3 y4 y5 y6 y7
          go_simp
          (try with_reducible rfl)
        (try simp only [Act.put, List.getElem_toArray, List.getElem_cons_zero, List.getElem_cons_succ, List.setIfInBounds_toArray, List.set_cons_zero, List.set_cons_succ])
        refine wpAnyH_done (by decide +kernel) ?_ _
        go_wp2_with fail
        go_ret
        exact ⟨ret_bool Hs.out.symm, below_of HB hcur⟩
      · refine wpAnyH_take (i := 18) (v := ?_) rfl (by decide +kernel) (by decide +kernel) (by decide +kernel) (fun _ _ _ h => h) (Or.inl ⟨by rfl, ?hy⟩) hcur ?_
        case hy =>
          intro w1 hSw
          replace hSw : Below W.heap.size W w1 := hSw
          obtain ⟨x0, x1, x2, x3, x4, x5, x6, x7⟩ := hb1.up hSw (by omega)
          obtain ⟨y0, y1, y2, y3, y4, y5, y6, y7⟩ := hb2.up hSw hsz
          simp only [] at x0 x1 x2 x3 x4 x5 x6 x7 y0 y1 y2 y3 y4 y5 y6 y7
          go_simp
          (try with_reducible rfl)
        (try simp only [Act.put, List.getElem_toArray, List.getElem_cons_zero, List.getElem_cons_succ, List.setIfInBounds_toArray, List.set_cons_zero, List.set_cons_succ])
        refine wpAnyH_take (i := 19) (v := ?_) rfl (by decide +kernel) (by decide +kernel) (by decide +kernel) (fun _ _ _ h => h) (Or.inl ⟨by rfl, ?hy⟩) hcur ?_
        case hy =>
          intro w1 hSw
          replace hSw : Below W.heap.size W w1 := hSw
          obtain ⟨x0, x1, x2, x3, x4, x5, x6, x7⟩ := hb1.up hSw (by omega)
          obtain ⟨y0, y1, y2, y3, y4, y5, y6, y7⟩ := hb2.up hSw hsz
          simp only [] at x0 x1 x2 x3 x4 x5 x6 x7 y0 y1 y2 y3 y4 y5 y6 y7
          go_simp
          (try with_reducible rfl)
        (try simp only [Act.put, List.getElem_toArray, List.getElem_cons_zero, List.getElem_cons_succ, List.setIfInBounds_toArray, List.set_cons_zero, List.set_cons_succ])
        refine wpAnyH_take (i := 20) (v := ?_) rfl (by decide +kernel) (by decide +kernel) (by decide +kernel) (fun _ _ _ h => h) (Or.inl ⟨by rfl, ?hy⟩) hcur ?_
        case hy =>
          intro w1 hSw
          replace hSw : Below W.heap.size W w1 := hSw
          obtain ⟨x0, x1, x2, x3, x4, x5, x6, x7⟩ := hb1.up hSw (by omega)
          obtain ⟨y0, y1, y2, y3, y4, y5, y6, y7⟩ := hb2.up hSw hsz
          simp only [] at x0 x1 x2 x3 x4 x5 x6 x7 y0 y1 y2 y3 y4 y5 y6 y7
          go_simp
          (try with_reducible rfl)
        (try simp only [Act.put, List.getElem_toArray, List.getElem_cons_zero, List.getElem_cons_succ, List.setIfInBounds_toArray, List.set_cons_zero, List.set_cons_succ])
        refine wpAnyH_take (i := 21) (v := ?_) rfl (by decide +kernel) (by decide +kernel) (by decide +kernel) (fun _ _ _ h => h) (Or.inl ⟨by rfl, ?hy⟩) hcur ?_
        case hy =>
          intro w1 hSw
          replace hSw : Below W.heap.size W w1 := hSw
          obtain ⟨x0, x1, x2, x3, x4, x5, x6, x7⟩ := hb1.up hSw (by omega)
          obtain ⟨y0, y1, y2, y3, y4, y5, y6, y7⟩ := hb2.up hSw hsz
          simp only [] at x0 x1 x2 x3 x4 x5 x6 x7 y0 y1 y2 y3 y4 y5 y6 y7
          go_simp
          (try with_reducible rfl)
        (try simp only [Act.put, List.getElem_toArray, List.getElem_cons_zero, List.getElem_cons_succ, List.setIfInBounds_toArray, List.set_cons_zero, List.set_cons_succ])
        refine wpAnyH_take (i := 22) (v := ?_) rfl (by decide +kernel) (by decide +kernel) (by decide +kernel) (fun _ _ _ h => h) (Or.inl ⟨by rfl, ?hy⟩) hcur ?_
        case hy =>
          intro w1 hSw
          replace hSw : Below W.heap.size W w1 := hSw
          obtain ⟨x0, x1, x2, x3, x4, x5, x6, x7⟩ := hb1.up hSw (by omega)
          obtain ⟨y0, y1, y2, y3, y4, y5, y6, y7⟩ := hb2.up hSw hsz
          simp only [] at x0 x1 x2 x3 x4 x5 x6 x7 y0 y1 y2 y3 y4 y5 y6 y7
          go_simp
          (try with_reducible rfl)
        (try simp only [Act.put, List.getElem_toArray, List.getElem_cons_zero, List.getElem_cons_succ, List.setIfInBounds_toArray, List.set_cons_zero, List.set_cons_succ])
        refine wpAnyH_take (i := 23) (v := ?_) rfl (by decide +kernel) (by decide +kernel) (by decide +kernel) (fun _ _ _ h => h) (Or.inl ⟨by rfl, ?hy⟩) hcur ?_
        case hy =>
          intro w1 hSw
          replace hSw : Below W.heap.size W w1 := hSw
          obtain ⟨x0, x1, x2, x3, x4, x5, x6, x7⟩ := hb1.up hSw (by omega)
          obtain ⟨y0, y1, y2, y3, y4, y5, y6, y7⟩ := hb2.up hSw hsz
          simp only [] at x0 x1 x2 x3 x4 x5 x6 x7 y0 y1 y2 y3 y4 y5 y6 y7
          go_simp
          (try with_reducible rfl)
        (try simp only [Act.put, List.getElem_toArray, List.getElem_cons_zero, List.getElem_cons_succ, List.setIfInBounds_toArray, List.set_cons_zero, List.set_cons_succ])
        refine wpAnyH_ready (rs := [24]) (by decide +kernel) (by simp) ?_
        refine AllReadyH.cons rfl (fun K hK => ?_) AllReadyH.nil
        go_simp
        refine (equalI_any C C' kids.length cc kids'.length cc' kids kids' _ (h.up hcur).kids (k.up hcur).kids h.lc).mono ?_
        rintro e wn ⟨rfl, hbn⟩
        go_wp2_with fail
        refine hK.out _ _ (below_of hcur hbn) (fun _ => ?_)
        clear hK K
        replace hcur := below_of hcur hbn
        clear hbn
        (try simp only [Act.put, List.getElem_toArray, List.getElem_cons_zero, List.getElem_cons_succ, List.setIfInBounds_toArray, List.set_cons_zero, List.set_cons_succ])
        refine wpAnyH_take (i := 25) (v := ?_) rfl (by decide +kernel) (by decide +kernel) (by decide +kernel) (fun _ _ _ h => h) (Or.inl ⟨by rfl, ?hy⟩) hcur ?_
        case hy =>
          intro w1 hSw
          replace hSw : Below W.heap.size W w1 := hSw
          obtain ⟨x0, x1, x2, x3, x4, x5, x6, x7⟩ := hb1.up hSw (by omega)
          obtain ⟨y0, y1, y2, y3, y4, y5, y6, y7⟩ := hb2.up hSw hsz
          simp only [] at x0 x1 x2 x3 x4 x5 x6 x7 y0 y1 y2 y3 y4 y5 y6 y7
          go_simp
          (try with_reducible rfl)
        (try simp only [Act.put, List.getElem_toArray, List.getElem_cons_zero, List.getElem_cons_succ, List.setIfInBounds_toArray, List.set_cons_zero, List.set_cons_succ])
        refine wpAnyH_take (i := 26) (v := ?_) rfl (by decide +kernel) (by decide +kernel) (by decide +kernel) (fun _ _ _ h => h) (Or.inl ⟨by rfl, ?hy⟩) hcur ?_
        case hy =>
          intro w1 hSw
          replace hSw : Below W.heap.size W w1 := hSw
          obtain ⟨x0, x1, x2, x3, x4, x5, x6, x7⟩ := hb1.up hSw (by omega)
          obtain ⟨y0, y1, y2, y3, y4, y5, y6, y7⟩ := hb2.up hSw hsz
          simp only [] at x0 x1 x2 x3 x4 x5 x6 x7 y0 y1 y2 y3 y4 y5 y6 y7
          go_simp
          (try with_reducible rfl)
        (try simp only [Act.put, List.getElem_toArray, List.getElem_cons_zero, List.getElem_cons_succ, List.setIfInBounds_toArray, List.set_cons_zero, List.set_cons_succ])
        refine wpAnyH_done (by decide +kernel) ?_ _
        go_wp2_with fail
        go_ret
        exact ⟨ret_bool Hs.out.symm, below_of HB hcur⟩

end Go.Proofs.Ytcoiadncennhpaa
