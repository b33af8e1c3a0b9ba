/- Contracts of package inner: Turn. -/
import Derived.Test.YtcoiadncennhpaaInDrop
namespace Go.Proofs.Ytcoiadncennhpaa
open Go.RowKit

theorem bordered_any (d : Nd) (A B C : Option Addr) (ca cb cc : Nat) (w : World) :
    Calls Try.prog 112 #[.agg (ndCells d A B C ca cb cc)] w (Ret (.agg #[.string d.low, .string d.high, .bool d.last]) w) := by
  obtain ⟨level, low, high, last, next, keys, vals, kids⟩ := d
  have HB := below_alloc w (.cells (ndCells ⟨level, low, high, last, next, keys, vals, kids⟩ A B C ca cb cc) 26)
  simp only [ndCells] at HB ⊢
  go_enter Try.func112, Try.ntmps112
  go_wp2_with fail
  exact bodyPost_ret (v := .agg #[.string low, .string high, .bool last]) (by simp [results, Try.results112, go_sem]) rfl ⟨rfl, below_of HB (below_alloc _ _)⟩
theorem turnD_no {d : Nd} {i : Int} {low : ByteArray} (h : (inB d i && innerB (turnN d i low)) = false) : turnD d i low = (false, zeroN) := if_neg (by rw [h]; exact Bool.false_ne_true)
theorem turnD_yes {d : Nd} {i : Int} {low : ByteArray} (h : (inB d i && innerB (turnN d i low)) = true) : turnD d i low = (true, turnN d i low) := if_pos h
theorem fits_set {ss : List ByteArray} {k : ByteArray} (h : Fits ss) (hk : k.size ≤ maxLen) (i : Nat) : Fits (ss.set i k) := by
  intro j hj
  rw [List.length_set] at hj
  rw [List.getElem_set]
  split
  · exact hk
  · exact h j hj

/-- A node whose rows are new, and whether there is one, are handed back. -/
def NRetF (o : Bool × Nd) (w : World) (e : Ending) (w' : World) : Prop :=
  ∃ A B C ca cb cc, e = .returned (.tuple #[.agg (ndCells o.2 A B C ca cb cc), .bool o.1]) ∧ Lies w' o.2 A B C ca cb cc ∧ Below w.heap.size w w' ∧
    (∀ a, A = some a → w.heap.size ≤ a.block ∧ a.block < w'.heap.size) ∧ (∀ a, B = some a → w.heap.size ≤ a.block ∧ a.block < w'.heap.size) ∧ (∀ a, C = some a → w.heap.size ≤ a.block ∧ a.block < w'.heap.size)
theorem NRetF.wide {P : Program} {f : FuncId} {args : Array Value} {w : World} {o : Bool × Nd} (h : Calls P f args w (NRetF o w)) : Calls P f args w (NRet o w) :=
  h.mono fun _ _ ⟨A, B, C, ca, cb, cc, h1, h2, h3, _⟩ => ⟨A, B, C, ca, cb, cc, h1, h2, h3⟩

set_option maxRecDepth 100000 in
set_option maxHeartbeats 16000000 in
theorem inturnF_any (d : Nd) (i : Int) (low : ByteArray) (A B C : Option Addr) (ca cb cc : Nat) (w : World) (h : Lies w d A B C ca cb cc) (hk : low.size ≤ maxLen) :
    Calls Try.prog 57 #[.agg (ndCells d A B C ca cb cc), .int .i64 i, .string low] w (NRetF (turnD d i low) w) := by
  have hS := Lib.hid (Sx.start2 w (.cells (ndCells d A B C ca cb cc) 26) (.cells #[.int .i64 0, .string ⟨#[]⟩, .string ⟨#[]⟩, .bool false, .int .i64 0, .slice none 0 0, .slice none 0 0, .slice none 0 0] 26))
  have H00 := Lib.hid h
  have HIn := Lib.hid (fun W hW => insound_any d A B C ca cb cc W hW)
  have HCl := Lib.hid (fun W (hW : Lies W d A B C ca cb cc) (q : d.keys.length ≤ 64 ∧ d.vals.length ≤ 64 ∧ d.kids.length ≤ 64) => cloneN_any d A B C ca cb cc W hW (by omega) (by omega) (by omega))
  have HI2 := Lib.hid (fun A' B' C' ca' cb' cc' W hW => insound_any (turnN d i low) A' B' C' ca' cb' cc' W hW)
  have hpb : inB d i = (innerB d && (decide (1 ≤ i) && decide (i < (d.keys.length : Int)))) := rfl
  have hno := Lib.hid (fun (q : (inB d i && innerB (turnN d i low)) = false) => turnD_no q)
  have hyes := Lib.hid (fun (q : (inB d i && innerB (turnN d i low)) = true) => turnD_yes q)
  have hlen := Lib.hid (fun (q : innerB d = true) => And.intro ((innerB_iff d).1 q).kp.len (And.intro ((innerB_iff d).1 q).fan ((innerB_iff d).1 q).kp.vals))
  have htn : turnN d i low = ⟨d.level, d.low, d.high, d.last, d.next, d.keys.set i.toNat low, d.vals, d.kids⟩ := rfl
  have HK := Lib.hid hk
  clear h hk
  generalize turnD d i low = o at hno hyes ⊢
  generalize innerB (turnN d i low) = ub at hno hyes HI2
  generalize turnN d i low = tn at HI2 hyes htn
  generalize inB d i = pb at hpb hno hyes
  generalize innerB d = ib at HIn hpb hlen
  have HPB := Lib.hid hpb
  have HTN := Lib.hid htn
  clear hpb htn
  obtain ⟨level, nlow, high, last, next, keys, vals, kids⟩ := d
  simp only [] at hlen HTN HPB
  simp only [ndCells] at hS HIn HCl ⊢
  go_enter Try.func57, Try.ntmps57
  go_upto_region 1 with fail
  generalize (w.alloc _).alloc _ = W at hS ⊢
  obtain ⟨x0, x1, x2, x3, x4, x5, x6, x7, f0, f1, f2, f3, f4, f5, f6, f7⟩ := nd_facts (hS.out.has 0 _ _ rfl).1
  go_wp2_with fail
  refine (HIn.out _ (H00.out.up hS.out.below)).mono ?_
  rintro e wn ⟨rfl, hbn⟩
  clear x0 x1 x2 x3 x4 x5 x6 x7 f0 f1 f2 f3 f4 f5 f6 f7
  replace hS := Lib.hid (hS.out.call hbn)
  clear hbn
  obtain ⟨x0, x1, x2, x3, x4, x5, x6, x7, f0, f1, f2, f3, f4, f5, f6, f7⟩ := nd_facts (hS.out.has 0 _ _ rfl).1
  cases ib
  · obtain rfl : o = (false, zeroN) := hno.out (by rw [HPB.out]; rfl)
    obtain ⟨y0, y1, y2, y3, y4, y5, y6, y7, q0, q1, q2, q3, q4, q5, q6, q7⟩ := nd_facts (hS.out.has 1 _ _ rfl).1
    have hZ := (hS.out.store 1 rfl (.int .i64 0) (.string ⟨#[]⟩) (.string ⟨#[]⟩) (.bool false) (.int .i64 0) (.slice none 0 0) (.slice none 0 0) (.slice none 0 0)).below
    simp only [set8] at hZ
    have HZ := Lib.hid hZ
    clear hZ
    go_wp2_with fail
    exact bodyPost_ret (v := .tuple #[.agg #[.int .i64 0, .string ⟨#[]⟩, .string ⟨#[]⟩, .bool false, .int .i64 0, .slice none 0 0, .slice none 0 0, .slice none 0 0], .bool false]) (by simp [results, Try.results57, go_sem, *]) rfl ⟨none, none, none, 0, 0, 0, rfl, zero_lies _, HZ.out, fun a e => (by cases e), fun a e => (by cases e), fun a e => (by cases e)⟩
  · by_cases h1 : i < 1
    · obtain rfl : o = (false, zeroN) := hno.out (by rw [HPB.out, decide_eq_false (p := 1 ≤ i) (by omega)]; rfl)
      obtain ⟨y0, y1, y2, y3, y4, y5, y6, y7, q0, q1, q2, q3, q4, q5, q6, q7⟩ := nd_facts (hS.out.has 1 _ _ rfl).1
      have hZ := (hS.out.store 1 rfl (.int .i64 0) (.string ⟨#[]⟩) (.string ⟨#[]⟩) (.bool false) (.int .i64 0) (.slice none 0 0) (.slice none 0 0) (.slice none 0 0)).below
      simp only [set8] at hZ
      have HZ := Lib.hid hZ
      clear hZ
      go_wp2_with fail
      exact bodyPost_ret (v := .tuple #[.agg #[.int .i64 0, .string ⟨#[]⟩, .string ⟨#[]⟩, .bool false, .int .i64 0, .slice none 0 0, .slice none 0 0, .slice none 0 0], .bool false]) (by simp [results, Try.results57, go_sem, *]) rfl ⟨none, none, none, 0, 0, 0, rfl, zero_lies _, HZ.out, fun a e => (by cases e), fun a e => (by cases e), fun a e => (by cases e)⟩
    · by_cases h2 : (keys.length : Int) ≤ i
      · obtain rfl : o = (false, zeroN) := hno.out (by rw [HPB.out, decide_eq_false (p := i < (keys.length : Int)) (by omega)]; simp)
        have h1b : decide (i < 1) = false := decide_eq_false h1
        have h2b : decide ((keys.length : Int) ≤ i) = true := decide_eq_true h2
        obtain ⟨y0, y1, y2, y3, y4, y5, y6, y7, q0, q1, q2, q3, q4, q5, q6, q7⟩ := nd_facts (hS.out.has 1 _ _ rfl).1
        have hZ := (hS.out.store 1 rfl (.int .i64 0) (.string ⟨#[]⟩) (.string ⟨#[]⟩) (.bool false) (.int .i64 0) (.slice none 0 0) (.slice none 0 0) (.slice none 0 0)).below
        simp only [set8] at hZ
        have HZ := Lib.hid hZ
        clear hZ
        go_wp2_with fail
        exact bodyPost_ret (v := .tuple #[.agg #[.int .i64 0, .string ⟨#[]⟩, .string ⟨#[]⟩, .bool false, .int .i64 0, .slice none 0 0, .slice none 0 0, .slice none 0 0], .bool false]) (by simp [results, Try.results57, go_sem, *]) rfl ⟨none, none, none, 0, 0, 0, rfl, zero_lies _, HZ.out, fun a e => (by cases e), fun a e => (by cases e), fun a e => (by cases e)⟩
      · have h1b : decide (i < 1) = false := decide_eq_false h1
        have h2b : decide ((keys.length : Int) ≤ i) = false := decide_eq_false h2
        have hpt : pb = true := by rw [HPB.out, decide_eq_true (p := 1 ≤ i) (by omega), decide_eq_true (p := i < (keys.length : Int)) (by omega)]; rfl
        obtain rfl := hpt
        have hkl := hlen.out (by trivial)
        have HW := Lib.hid hkl
        have HIJ := Lib.hid (And.intro h1 h2)
        clear h1 h2 HIn hlen hkl HPB
        go_wp2_with fail
        refine (HCl.out _ (H00.out.up hS.out.below) (by have := HW.out; omega)).mono ?_
        rintro e X ⟨c1, c2, c3, rfl, r1, r2, r3, n12, n13, n23, m1, m2, m3, hbn⟩
        clear x0 x1 x2 x3 x4 x5 x6 x7 f0 f1 f2 f3 f4 f5 f6 f7
        replace hS := Lib.hid (hS.out.rows (d := ⟨level, nlow, high, last, next, keys, vals, kids⟩) r1 r2 r3 n12 n13 n23 m1 m2 m3 hbn)
        clear r1 r2 r3 n12 n13 n23 m1 m2 m3 hbn h1b h2b HCl
        obtain ⟨j, rfl⟩ := Int.eq_ofNat_of_zero_le (show 0 ≤ i by have := HIJ.out; omega)
        have HJ := Lib.hid (show j < keys.length by have := HIJ.out; omega)
        rw [Int.toNat_natCast] at HTN
        clear HIJ
        replace hS := Lib.hid (hS.out.alloc (.cells (ndCells ⟨level, nlow, high, last, next, keys, vals, kids⟩ (some ⟨c1, 0, none⟩) (some ⟨c2, 0, none⟩) (some ⟨c3, 0, none⟩) keys.length vals.length kids.length) 26))
        simp only [rows3, ndCells, List.cons_append, List.nil_append] at hS ⊢
        go_upto_region 4 with fail
        generalize X.alloc _ = Y at hS ⊢
        generalize X.heap.size = g5 at hS ⊢
        have cj : Y.cell? ⟨c1, j, none⟩ = some (.string (keys[j]'HJ.out)) := (cell_of_row Y c1 j _ _ _ (hS.out.has 2 _ _ rfl).1).trans (by simp [strs, HJ.out])
        have fj : Y.frozen? ⟨c1, j, none⟩ = false := heap_frozen (hS.out.has 2 _ _ rfl).1 j
        generalize keys[j]'HJ.out = u0 at cj
        have hj1 : (j : Int) < (keys.length : Int) := by have := HJ.out; omega
        obtain ⟨x0, x1, x2, x3, x4, x5, x6, x7, f0, f1, f2, f3, f4, f5, f6, f7⟩ := nd_facts (hS.out.has 5 _ _ rfl).1
        go_upto_region 5 with fail
        clear x0 x1 x2 x3 x4 x5 x6 x7 f0 f1 f2 f3 f4 f5 f6 f7
        clear cj fj hj1
        replace hS := Lib.hid (hS.out.setc 2 rfl j (.string low))
        rw [show (strs keys).set j (.string low) = strs (keys.set j low) from by simp [strs, List.map_set]] at hS
        simp only [List.cons_append, List.nil_append, List.set_cons_zero, List.set_cons_succ] at hS
        generalize Y.setCell _ _ = W at hS ⊢
        have hLO : Lies W ⟨level, nlow, high, last, next, keys.set j low, vals, kids⟩ (some ⟨c1, 0, none⟩) (some ⟨c2, 0, none⟩) (some ⟨c3, 0, none⟩) keys.length vals.length kids.length :=
          { low := H00.out.low, high := H00.out.high, fit := fits_set H00.out.fit HK.out _, la := by have := H00.out.la; simp only [List.length_set] at this ⊢; exact this, lb := H00.out.lb, lc := H00.out.lc
            keys := by have := Rd.new (hS.out.has 2 _ _ rfl).1; rw [strs_length] at this; exact this
            vals := by have := Rd.new (hS.out.has 3 _ _ rfl).1; rw [u64s_length] at this; exact this
            kids := by have := Rd.new (hS.out.has 4 _ _ rfl).1; rw [i64s_length] at this; exact this
            ka := by simp only [List.length_set]; exact Nat.le_refl _, kb := Nat.le_refl _, kc := Nat.le_refl _ }
        have hkl : (keys.set j low).length = keys.length := List.length_set
        rw [← HTN.out] at hLO
        have HLO := Lib.hid hLO
        have HI3 := Lib.hid (fun W hW => HI2.out (some ⟨c1, 0, none⟩) (some ⟨c2, 0, none⟩) (some ⟨c3, 0, none⟩) keys.length vals.length kids.length W hW)
        have hcs : ndCells tn (some ⟨c1, 0, none⟩) (some ⟨c2, 0, none⟩) (some ⟨c3, 0, none⟩) keys.length vals.length kids.length = #[.int .i64 level, .string nlow, .string high, .bool last, .int .i64 next, .slice (some ⟨c1, 0, none⟩) keys.length keys.length, .slice (some ⟨c2, 0, none⟩) vals.length vals.length, .slice (some ⟨c3, 0, none⟩) kids.length kids.length] := by
          rw [HTN.out]; simp [ndCells]
        rw [hcs] at HI3
        have HCS := Lib.hid hcs
        clear hLO hkl hcs HI2
        refine wp_region_held_drew (S := fun w' => Below W.heap.size W w') (by kernel_rfl) (Below.drew (Below.refl _ _)) (fun hcur => ?_)
        replace hcur : Below W.heap.size W W.drew := hcur
        refine wpAnyH_take (i := 0) (v := ?_) rfl (by decide +kernel) (by decide +kernel) (by decide +kernel) (fun _ _ _ h => h) (Or.inl ⟨by rfl, ?hy⟩) hcur ?_
        case hy =>
          intro w1 hSw
          replace hSw : Below W.heap.size W w1 := hSw
          obtain ⟨x0, x1, x2, x3, x4, x5, x6, x7, -, -, -, -, -, -, -, -⟩ := nd_facts ((hS.out.call hSw).has 0 _ _ rfl).1
          obtain ⟨y0, y1, y2, y3, y4, y5, y6, y7, -, -, -, -, -, -, -, -⟩ := nd_facts ((hS.out.call hSw).has 5 _ _ rfl).1
          go_simp
          (try with_reducible rfl)
        (try simp only [Act.put, List.getElem_toArray, List.getElem_cons_zero, List.getElem_cons_succ, List.setIfInBounds_toArray, List.set_cons_zero, List.set_cons_succ])
        refine wpAnyH_take (i := 2) (v := ?_) rfl (by decide +kernel) (by decide +kernel) (by decide +kernel) (fun _ _ _ h => h) (Or.inl ⟨by rfl, ?hy⟩) hcur ?_
        case hy =>
          intro w1 hSw
          replace hSw : Below W.heap.size W w1 := hSw
          obtain ⟨x0, x1, x2, x3, x4, x5, x6, x7, -, -, -, -, -, -, -, -⟩ := nd_facts ((hS.out.call hSw).has 0 _ _ rfl).1
          obtain ⟨y0, y1, y2, y3, y4, y5, y6, y7, -, -, -, -, -, -, -, -⟩ := nd_facts ((hS.out.call hSw).has 5 _ _ rfl).1
          go_simp
          (try with_reducible rfl)
        (try simp only [Act.put, List.getElem_toArray, List.getElem_cons_zero, List.getElem_cons_succ, List.setIfInBounds_toArray, List.set_cons_zero, List.set_cons_succ])
        refine wpAnyH_ready (rs := [1]) (by decide +kernel) (by simp) ?_
        refine AllReadyH.cons rfl (fun K hK => ?_) AllReadyH.nil
        go_simp
        refine (bordered_any ⟨level, nlow, high, last, next, keys, vals, kids⟩ (some ⟨c1, 0, none⟩) (some ⟨c2, 0, none⟩) (some ⟨c3, 0, none⟩) keys.length vals.length kids.length _).mono ?_
        rintro e wn ⟨rfl, hbn⟩
        go_wp2_with fail
        refine hK.out _ _ (below_of hcur hbn) (fun _ => ?_)
        clear hK K
        replace hcur := below_of hcur hbn
        clear hbn
        (try simp only [Act.put, List.getElem_toArray, List.getElem_cons_zero, List.getElem_cons_succ, List.setIfInBounds_toArray, List.set_cons_zero, List.set_cons_succ])
        refine wpAnyH_ready (rs := [3]) (by decide +kernel) (by simp) ?_
        refine AllReadyH.cons rfl (fun K hK => ?_) AllReadyH.nil
        go_simp
        refine (bordered_any ⟨level, nlow, high, last, next, keys, vals, kids⟩ A B C ca cb cc _).mono ?_
        rintro e wn ⟨rfl, hbn⟩
        go_wp2_with fail
        refine hK.out _ _ (below_of hcur hbn) (fun _ => ?_)
        clear hK K
        replace hcur := below_of hcur hbn
        clear hbn
        (try simp only [Act.put, List.getElem_toArray, List.getElem_cons_zero, List.getElem_cons_succ, List.setIfInBounds_toArray, List.set_cons_zero, List.set_cons_succ])
        refine wpAnyH_take (i := 4) (v := .bool false) rfl (by decide +kernel) (by decide +kernel) (by decide +kernel) (fun _ _ _ h => h) (Or.inl ⟨by rfl, ?hy⟩) hcur ?_
        case hy =>
          intro w1 hSw
          replace hSw : Below W.heap.size W w1 := hSw
          obtain ⟨x0, x1, x2, x3, x4, x5, x6, x7, -, -, -, -, -, -, -, -⟩ := nd_facts ((hS.out.call hSw).has 0 _ _ rfl).1
          obtain ⟨y0, y1, y2, y3, y4, y5, y6, y7, -, -, -, -, -, -, -, -⟩ := nd_facts ((hS.out.call hSw).has 5 _ _ rfl).1
          go_simp
          (try simp)
        (try simp only [Act.put, List.getElem_toArray, List.getElem_cons_zero, List.getElem_cons_succ, List.setIfInBounds_toArray, List.set_cons_zero, List.set_cons_succ])
        refine wpAnyH_take (i := 5) (v := ?_) rfl (by decide +kernel) (by decide +kernel) (by decide +kernel) (fun _ _ _ h => h) (Or.inl ⟨by rfl, ?hy⟩) hcur ?_
        case hy =>
          intro w1 hSw
          replace hSw : Below W.heap.size W w1 := hSw
          obtain ⟨x0, x1, x2, x3, x4, x5, x6, x7, -, -, -, -, -, -, -, -⟩ := nd_facts ((hS.out.call hSw).has 0 _ _ rfl).1
          obtain ⟨y0, y1, y2, y3, y4, y5, y6, y7, -, -, -, -, -, -, -, -⟩ := nd_facts ((hS.out.call hSw).has 5 _ _ rfl).1
          go_simp
          (try with_reducible rfl)
        (try simp only [Act.put, List.getElem_toArray, List.getElem_cons_zero, List.getElem_cons_succ, List.setIfInBounds_toArray, List.set_cons_zero, List.set_cons_succ])
        refine wpAnyH_take (i := 6) (v := ?_) rfl (by decide +kernel) (by decide +kernel) (by decide +kernel) (fun _ _ _ h => h) (Or.inl ⟨by rfl, ?hy⟩) hcur ?_
        case hy =>
          intro w1 hSw
          replace hSw : Below W.heap.size W w1 := hSw
          obtain ⟨x0, x1, x2, x3, x4, x5, x6, x7, -, -, -, -, -, -, -, -⟩ := nd_facts ((hS.out.call hSw).has 0 _ _ rfl).1
          obtain ⟨y0, y1, y2, y3, y4, y5, y6, y7, -, -, -, -, -, -, -, -⟩ := nd_facts ((hS.out.call hSw).has 5 _ _ rfl).1
          go_simp
          (try with_reducible rfl)
        (try simp only [Act.put, List.getElem_toArray, List.getElem_cons_zero, List.getElem_cons_succ, List.setIfInBounds_toArray, List.set_cons_zero, List.set_cons_succ])
        refine wpAnyH_ready (rs := [7]) (by decide +kernel) (by simp) ?_
        refine AllReadyH.cons rfl (fun K hK => ?_) AllReadyH.nil
        go_simp
        refine (HI3.out _ (HLO.out.up hcur)).mono ?_
        rintro e wn ⟨rfl, hbn⟩
        go_wp2_with fail
        refine hK.out _ _ (below_of hcur hbn) (fun _ => ?_)
        clear hK K
        replace hcur := below_of hcur hbn
        clear hbn
        (try simp only [Act.put, List.getElem_toArray, List.getElem_cons_zero, List.getElem_cons_succ, List.setIfInBounds_toArray, List.set_cons_zero, List.set_cons_succ])
        refine wpAnyH_take (i := 8) (v := ?_) rfl (by decide +kernel) (by decide +kernel) (by decide +kernel) (fun _ _ _ h => h) (Or.inl ⟨by rfl, ?hy⟩) hcur ?_
        case hy =>
          intro w1 hSw
          replace hSw : Below W.heap.size W w1 := hSw
          obtain ⟨x0, x1, x2, x3, x4, x5, x6, x7, -, -, -, -, -, -, -, -⟩ := nd_facts ((hS.out.call hSw).has 0 _ _ rfl).1
          obtain ⟨y0, y1, y2, y3, y4, y5, y6, y7, -, -, -, -, -, -, -, -⟩ := nd_facts ((hS.out.call hSw).has 5 _ _ rfl).1
          go_simp
          (try with_reducible rfl)
        (try simp only [Act.put, List.getElem_toArray, List.getElem_cons_zero, List.getElem_cons_succ, List.setIfInBounds_toArray, List.set_cons_zero, List.set_cons_succ])
        refine wpAnyH_take (i := 9) (v := ?_) rfl (by decide +kernel) (by decide +kernel) (by decide +kernel) (fun _ _ _ h => h) (Or.inl ⟨by rfl, ?hy⟩) hcur ?_
        case hy =>
          intro w1 hSw
          replace hSw : Below W.heap.size W w1 := hSw
          obtain ⟨x0, x1, x2, x3, x4, x5, x6, x7, -, -, -, -, -, -, -, -⟩ := nd_facts ((hS.out.call hSw).has 0 _ _ rfl).1
          obtain ⟨y0, y1, y2, y3, y4, y5, y6, y7, -, -, -, -, -, -, -, -⟩ := nd_facts ((hS.out.call hSw).has 5 _ _ rfl).1
          go_simp
          (try with_reducible rfl)
        (try simp only [Act.put, List.getElem_toArray, List.getElem_cons_zero, List.getElem_cons_succ, List.setIfInBounds_toArray, List.set_cons_zero, List.set_cons_succ])
        refine wpAnyH_done (by decide +kernel) ?_ _
        replace hS := Lib.hid (hS.out.call hcur)
        replace HLO := Lib.hid (HLO.out.up hcur)
        clear HI3 hcur
        cases ub
        · obtain rfl : o = (false, zeroN) := hno.out rfl
          obtain ⟨y0, y1, y2, y3, y4, y5, y6, y7, q0, q1, q2, q3, q4, q5, q6, q7⟩ := nd_facts (hS.out.has 1 _ _ rfl).1
          have hZ := (hS.out.store 1 rfl (.int .i64 0) (.string ⟨#[]⟩) (.string ⟨#[]⟩) (.bool false) (.int .i64 0) (.slice none 0 0) (.slice none 0 0) (.slice none 0 0)).below
          simp only [set8] at hZ
          have HZ := Lib.hid hZ
          clear hZ
          go_wp2_with fail
          exact bodyPost_ret (v := .tuple #[.agg #[.int .i64 0, .string ⟨#[]⟩, .string ⟨#[]⟩, .bool false, .int .i64 0, .slice none 0 0, .slice none 0 0, .slice none 0 0], .bool false]) (by simp [results, Try.results57, go_sem, *]) rfl ⟨none, none, none, 0, 0, 0, rfl, zero_lies _, HZ.out, fun a e => (by cases e), fun a e => (by cases e), fun a e => (by cases e)⟩
        · obtain rfl := hyes.out rfl
          obtain ⟨x0, x1, x2, x3, x4, x5, x6, x7, f0, f1, f2, f3, f4, f5, f6, f7⟩ := nd_facts (hS.out.has 5 _ _ rfl).1
          obtain ⟨y0, y1, y2, y3, y4, y5, y6, y7, q0, q1, q2, q3, q4, q5, q6, q7⟩ := nd_facts (hS.out.has 1 _ _ rfl).1
          have hZ := hS.out.store 1 rfl (.int .i64 level) (.string nlow) (.string high) (.bool last) (.int .i64 next) (.slice (some ⟨c1, 0, none⟩) keys.length keys.length) (.slice (some ⟨c2, 0, none⟩) vals.length vals.length) (.slice (some ⟨c3, 0, none⟩) kids.length kids.length)
          have hk1 := (hZ.has 2 _ _ rfl).1
          have hk2 := (hZ.has 3 _ _ rfl).1
          have hk3 := (hZ.has 4 _ _ rfl).1
          have hlies : Lies _ ⟨level, nlow, high, last, next, keys.set j low, vals, kids⟩ (some ⟨c1, 0, none⟩) (some ⟨c2, 0, none⟩) (some ⟨c3, 0, none⟩) keys.length vals.length kids.length :=
            { low := H00.out.low, high := H00.out.high, fit := fits_set H00.out.fit HK.out _, la := by have := H00.out.la; simp only [List.length_set] at this ⊢; exact this, lb := H00.out.lb, lc := H00.out.lc
              keys := by have := Rd.new hk1; rw [strs_length] at this; exact this
              vals := by have := Rd.new hk2; rw [u64s_length] at this; exact this
              kids := by have := Rd.new hk3; rw [i64s_length] at this; exact this
              ka := by simp only [List.length_set]; exact Nat.le_refl _, kb := Nat.le_refl _, kc := Nat.le_refl _ }
          rw [← HTN.out] at hlies
          have HFI := And.intro (And.intro hZ.below (And.intro (And.intro (hZ.has 2 _ _ rfl).2 (hZ.lt (i := 2) rfl)) (And.intro (And.intro (hZ.has 3 _ _ rfl).2 (hZ.lt (i := 3) rfl)) (And.intro (hZ.has 4 _ _ rfl).2 (hZ.lt (i := 4) rfl))))) hlies
          simp only [set8] at HFI
          replace HFI := Lib.hid HFI
          clear hZ hk1 hk2 hk3 hlies
          go_wp2_with fail
          exact bodyPost_ret (v := .tuple #[.agg #[.int .i64 level, .string nlow, .string high, .bool last, .int .i64 next, .slice (some ⟨c1, 0, none⟩) keys.length keys.length, .slice (some ⟨c2, 0, none⟩) vals.length vals.length, .slice (some ⟨c3, 0, none⟩) kids.length kids.length], .bool true]) (by simp [results, Try.results57, go_sem, *]) rfl ⟨_, _, _, _, _, _, by rw [HCS.out], HFI.out.2, HFI.out.1.1, fun a e => (by injection e with e; subst e; exact HFI.out.1.2.1), fun a e => (by injection e with e; subst e; exact HFI.out.1.2.2.1), fun a e => (by injection e with e; subst e; exact HFI.out.1.2.2.2)⟩
theorem inturn_any (d : Nd) (i : Int) (low : ByteArray) (A B C : Option Addr) (ca cb cc : Nat) (w : World) (h : Lies w d A B C ca cb cc) (hk : low.size ≤ maxLen) :
    Calls Try.prog 57 #[.agg (ndCells d A B C ca cb cc), .int .i64 i, .string low] w (NRet (turnD d i low) w) := NRetF.wide (inturnF_any d i low A B C ca cb cc w h hk)

end Go.Proofs.Ytcoiadncennhpaa
