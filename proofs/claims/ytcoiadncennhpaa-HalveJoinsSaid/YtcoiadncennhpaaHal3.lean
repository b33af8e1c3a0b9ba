/- Contracts of package halve: sound, cell, Split. -/
import Derived.Test.YtcoiadncennhpaaHal2
namespace Go.Proofs.Ytcoiadncennhpaa
open Go.RowKit

theorem halsound_any (d : Nd) (A B C : Option Addr) (ca cb cc : Nat) (w : World) (h : Lies w d A B C ca cb cc) : Calls Try.prog 113 #[.agg (ndCells d A B C ca cb cc)] w (Ret (.bool (soundB d 64)) w) := by
  have HC := Lib.hid (fun W hW => ndcheck_any d 64 A B C ca cb cc W hW)
  have hck : ndChk d 64 = if soundB d 64 = true then 0 else 10 := if_neg (by omega)
  rw [hck] at HC
  generalize soundB d 64 = sb at HC ⊢
  clear hck
  obtain ⟨level, low, high, last, next, keys, vals, kids⟩ := d
  have HB := below_alloc w (.cells (ndCells ⟨level, low, high, last, next, keys, vals, kids⟩ A B C ca cb cc) 26)
  have hbx := Boxed.new w ⟨level, low, high, last, next, keys, vals, kids⟩ A B C ca cb cc 26
  replace h := h.up HB
  simp only [ndCells] at HB hbx h HC ⊢
  go_enter Try.func113, Try.ntmps113
  go_upto_region 1 with fail
  generalize w.alloc _ = W at HB hbx h ⊢
  obtain ⟨x0, x1, x2, x3, x4, x5, x6, x7⟩ := id hbx
  simp only [] at x0 x1 x2 x3 x4 x5 x6 x7
  go_wp2_with fail
  refine (HC.out _ h).mono ?_
  rintro e wn ⟨rfl, hbn⟩
  cases sb
  · simp only [if_false, Bool.false_eq_true]
    go_wp2_with fail
    go_ret
    exact ⟨rfl, below_of HB hbn⟩
  · simp only [if_true]
    go_wp2_with fail
    go_ret
    exact ⟨rfl, below_of HB hbn⟩

theorem halcell_any (n : Int) (w : World) : Calls Try.prog 114 #[.int .i64 n] w (Ret (.bool (cellB n)) w) := by
  unfold cellB
  by_cases h : 0 ≤ n
  · have t1 : decide (0 ≤ n) = true := decide_eq_true h
    go_enter Try.func114, Try.ntmps114
    go_wp2_with fail
    go_ret
    exact ⟨ret_bool (by rw [decide_eq_true h]; rfl), Below.refl _ _⟩
  · have t1 : decide (0 ≤ n) = false := decide_eq_false h
    go_enter Try.func114, Try.ntmps114
    go_wp2_with fail
    go_ret
    exact ⟨rfl, Below.refl _ _⟩

/-- Two nodes, and whether there are, are handed back. -/
def P2Ret (o : Bool × Nd × Nd) (w : World) (e : Ending) (w' : World) : Prop :=
  ∃ A1 A2 A3 B1 B2 B3 ca cb cc da db dc, e = .returned (.tuple #[.agg (ndCells o.2.1 A1 A2 A3 ca cb cc), .agg (ndCells o.2.2 B1 B2 B3 da db dc), .bool o.1]) ∧ Lies w' o.2.1 A1 A2 A3 ca cb cc ∧ Lies w' o.2.2 B1 B2 B3 da db dc ∧ Below w.heap.size w w'

theorem snd_lens {d : Nd} {fan : Int} (h : soundB d fan = true) (hf : fan ≤ 65) : d.keys.length ≤ 65 ∧ d.vals.length ≤ 65 ∧ d.kids.length ≤ 65 := by
  obtain ⟨h1, h2⟩ := (snd_iff d fan).1 h
  rcases h1.rest with ⟨_, h3, h4, _⟩ | ⟨_, hk⟩
  · omega
  · have := hk.len; have := hk.vals; omega

theorem splitD_no {d : Nd} {cell : Int} (h : splitB d cell = false) : splitD d cell = (false, zeroN, zeroN) := if_neg (by rw [h]; exact Bool.false_ne_true)
theorem splitD_yes {d : Nd} {cell : Int} (h : splitB d cell = true) : splitD d cell = (true, partL d cell, partR d) := if_pos h

set_option maxRecDepth 100000 in
set_option maxHeartbeats 16000000 in
theorem split_any (d : Nd) (cell : Int) (A B C : Option Addr) (ca cb cc : Nat) (w : World) (h : Lies w d A B C ca cb cc) :
    Calls Try.prog 61 #[.agg (ndCells d A B C ca cb cc), .int .i64 cell] w (P2Ret (splitD d cell) w) := by
  have hS := Lib.hid (Sx.start3b w (.cells (ndCells d A B C ca cb cc) 26) (.cells #[.int .i64 0, .string ⟨#[]⟩, .string ⟨#[]⟩, .bool false, .int .i64 0, .slice none 0 0, .slice none 0 0, .slice none 0 0] 26) (.cells #[.int .i64 0, .string ⟨#[]⟩, .string ⟨#[]⟩, .bool false, .int .i64 0, .slice none 0 0, .slice none 0 0, .slice none 0 0] 26))
  have H00 := Lib.hid h
  have HSn := Lib.hid (fun W hW => halsound_any d A B C ca cb cc W hW)
  have HCe := Lib.hid (fun W => halcell_any cell W)
  have HPa := Lib.hid (fun W (hW : Lies W d A B C ca cb cc) (q : soundB d 64 = true) (q2 : 2 ≤ d.keys.length) => part_any d cell A B C ca cb cc W hW q2 (by have := snd_lens q (by omega); omega) (by have := snd_lens q (by omega); omega) (by have := snd_lens q (by omega); omega))
  have hpb : splitB d cell = (soundB d 64 && (decide (2 ≤ d.keys.length) && cellB cell)) := rfl
  have hno := Lib.hid (fun (q : splitB d cell = false) => splitD_no q)
  have hyes := Lib.hid (fun (q : splitB d cell = true) => splitD_yes q)
  clear h
  generalize hon : splitD d cell = o at hno hyes ⊢
  clear hon
  generalize splitB d cell = pb at hpb hno hyes
  generalize soundB d 64 = sb at HSn hpb HPa
  generalize cellB cell = cl at HCe hpb
  generalize partL d cell = pl at hyes HPa
  generalize partR d = pr at hyes HPa
  have HPB := Lib.hid hpb
  clear hpb
  obtain ⟨level, nlow, high, last, next, keys, vals, kids⟩ := d
  simp only [] at HPB HPa
  simp only [ndCells] at hS HSn HPa ⊢
  go_enter Try.func61, Try.ntmps61
  go_upto_region 1 with fail
  generalize ((w.alloc _).alloc _).alloc _ = W at hS ⊢
  obtain ⟨x0, x1, x2, x3, x4, x5, x6, x7, f0, f1, f2, f3, f4, f5, f6, f7⟩ := nd_facts (hS.out.has 0 _ _ rfl).1
  go_wp2_with fail
  refine (HSn.out _ (H00.out.up hS.out.below)).mono ?_
  rintro e wn ⟨rfl, hbn⟩
  clear x0 x1 x2 x3 x4 x5 x6 x7 f0 f1 f2 f3 f4 f5 f6 f7
  replace hS := Lib.hid (hS.out.call hbn)
  clear hbn
  obtain ⟨x0, x1, x2, x3, x4, x5, x6, x7, f0, f1, f2, f3, f4, f5, f6, f7⟩ := nd_facts (hS.out.has 0 _ _ rfl).1
  cases sb
  · obtain rfl : o = (false, zeroN, zeroN) := hno.out (by rw [HPB.out]; rfl)
    obtain ⟨y0, y1, y2, y3, y4, y5, y6, y7, q0, q1, q2, q3, q4, q5, q6, q7⟩ := nd_facts (hS.out.has 1 _ _ rfl).1
    obtain ⟨z0, z1, z2, z3, z4, z5, z6, z7, r0, r1, r2, r3, r4, r5, r6, r7⟩ := nd_facts (hS.out.has 2 _ _ rfl).1
    have hZ := ((hS.out.store 1 rfl (.int .i64 0) (.string ⟨#[]⟩) (.string ⟨#[]⟩) (.bool false) (.int .i64 0) (.slice none 0 0) (.slice none 0 0) (.slice none 0 0)).store 2 rfl (.int .i64 0) (.string ⟨#[]⟩) (.string ⟨#[]⟩) (.bool false) (.int .i64 0) (.slice none 0 0) (.slice none 0 0) (.slice none 0 0)).below
    simp only [set8] at hZ
    have HZ := Lib.hid hZ
    clear hZ
    go_wp2_with fail
    exact bodyPost_ret (v := .tuple #[.agg #[.int .i64 0, .string ⟨#[]⟩, .string ⟨#[]⟩, .bool false, .int .i64 0, .slice none 0 0, .slice none 0 0, .slice none 0 0], .agg #[.int .i64 0, .string ⟨#[]⟩, .string ⟨#[]⟩, .bool false, .int .i64 0, .slice none 0 0, .slice none 0 0, .slice none 0 0], .bool false]) (by simp [results, Try.results61, go_sem, *]) rfl ⟨none, none, none, none, none, none, 0, 0, 0, 0, 0, 0, rfl, zero_lies _, zero_lies _, HZ.out⟩
  · by_cases h2 : keys.length < 2
    · have h2b : decide ((keys.length : Int) < 2) = true := decide_eq_true (by omega)
      obtain rfl : o = (false, zeroN, zeroN) := hno.out (by rw [HPB.out, decide_eq_false (p := 2 ≤ keys.length) (by omega)]; rfl)
      obtain ⟨y0, y1, y2, y3, y4, y5, y6, y7, q0, q1, q2, q3, q4, q5, q6, q7⟩ := nd_facts (hS.out.has 1 _ _ rfl).1
      obtain ⟨z0, z1, z2, z3, z4, z5, z6, z7, r0, r1, r2, r3, r4, r5, r6, r7⟩ := nd_facts (hS.out.has 2 _ _ rfl).1
      have hZ := ((hS.out.store 1 rfl (.int .i64 0) (.string ⟨#[]⟩) (.string ⟨#[]⟩) (.bool false) (.int .i64 0) (.slice none 0 0) (.slice none 0 0) (.slice none 0 0)).store 2 rfl (.int .i64 0) (.string ⟨#[]⟩) (.string ⟨#[]⟩) (.bool false) (.int .i64 0) (.slice none 0 0) (.slice none 0 0) (.slice none 0 0)).below
      simp only [set8] at hZ
      have HZ := Lib.hid hZ
      clear hZ
      go_wp2_with fail
      exact bodyPost_ret (v := .tuple #[.agg #[.int .i64 0, .string ⟨#[]⟩, .string ⟨#[]⟩, .bool false, .int .i64 0, .slice none 0 0, .slice none 0 0, .slice none 0 0], .agg #[.int .i64 0, .string ⟨#[]⟩, .string ⟨#[]⟩, .bool false, .int .i64 0, .slice none 0 0, .slice none 0 0, .slice none 0 0], .bool false]) (by simp [results, Try.results61, go_sem, *]) rfl ⟨none, none, none, none, none, none, 0, 0, 0, 0, 0, 0, rfl, zero_lies _, zero_lies _, HZ.out⟩
    · have h2b : decide ((keys.length : Int) < 2) = false := decide_eq_false (by omega)
      have H2 := Lib.hid (show 2 ≤ keys.length by omega)
      clear h2
      go_wp2_with fail
      refine (HCe.out _).mono ?_
      rintro e wn ⟨rfl, hbn⟩
      clear x0 x1 x2 x3 x4 x5 x6 x7 f0 f1 f2 f3 f4 f5 f6 f7
      replace hS := Lib.hid (hS.out.call hbn)
      clear hbn
      obtain ⟨x0, x1, x2, x3, x4, x5, x6, x7, f0, f1, f2, f3, f4, f5, f6, f7⟩ := nd_facts (hS.out.has 0 _ _ rfl).1
      cases cl
      · obtain rfl : o = (false, zeroN, zeroN) := hno.out (by rw [HPB.out]; simp)
        obtain ⟨y0, y1, y2, y3, y4, y5, y6, y7, q0, q1, q2, q3, q4, q5, q6, q7⟩ := nd_facts (hS.out.has 1 _ _ rfl).1
        obtain ⟨z0, z1, z2, z3, z4, z5, z6, z7, r0, r1, r2, r3, r4, r5, r6, r7⟩ := nd_facts (hS.out.has 2 _ _ rfl).1
        have hZ := ((hS.out.store 1 rfl (.int .i64 0) (.string ⟨#[]⟩) (.string ⟨#[]⟩) (.bool false) (.int .i64 0) (.slice none 0 0) (.slice none 0 0) (.slice none 0 0)).store 2 rfl (.int .i64 0) (.string ⟨#[]⟩) (.string ⟨#[]⟩) (.bool false) (.int .i64 0) (.slice none 0 0) (.slice none 0 0) (.slice none 0 0)).below
        simp only [set8] at hZ
        have HZ := Lib.hid hZ
        clear hZ
        go_wp2_with fail
        exact bodyPost_ret (v := .tuple #[.agg #[.int .i64 0, .string ⟨#[]⟩, .string ⟨#[]⟩, .bool false, .int .i64 0, .slice none 0 0, .slice none 0 0, .slice none 0 0], .agg #[.int .i64 0, .string ⟨#[]⟩, .string ⟨#[]⟩, .bool false, .int .i64 0, .slice none 0 0, .slice none 0 0, .slice none 0 0], .bool false]) (by simp [results, Try.results61, go_sem, *]) rfl ⟨none, none, none, none, none, none, 0, 0, 0, 0, 0, 0, rfl, zero_lies _, zero_lies _, HZ.out⟩
      · obtain rfl := hyes.out (by rw [HPB.out, decide_eq_true H2.out]; rfl)
        clear h2b
        go_wp2_with fail
        refine (HPa.out _ (H00.out.up hS.out.below) (by trivial) H2.out).mono ?_
        rintro e Y1 ⟨A1, A2, A3, B1, B2, B3, ca1, cb1, cc1, da, db, dc, rfl, hl1, hl2, hb⟩
        clear x0 x1 x2 x3 x4 x5 x6 x7 f0 f1 f2 f3 f4 f5 f6 f7
        have HLT := Lib.hid (And.intro (hS.out.lt (i := 1) rfl) (hS.out.lt (i := 2) rfl))
        replace hS := Lib.hid (hS.out.call hb)
        clear HSn HCe HPa hb
        obtain ⟨level1, nlow1, high1, last1, next1, keys1, vals1, kids1⟩ := pl
        obtain ⟨level2, nlow2, high2, last2, next2, keys2, vals2, kids2⟩ := pr
        simp only [ndCells] at hl1 hl2 ⊢
        obtain ⟨x0, x1, x2, x3, x4, x5, x6, x7, f0, f1, f2, f3, f4, f5, f6, f7⟩ := nd_facts (hS.out.has 0 _ _ rfl).1
        obtain ⟨y0, y1, y2, y3, y4, y5, y6, y7, q0, q1, q2, q3, q4, q5, q6, q7⟩ := nd_facts (hS.out.has 1 _ _ rfl).1
        obtain ⟨z0, z1, z2, z3, z4, z5, z6, z7, r0, r1, r2, r3, r4, r5, r6, r7⟩ := nd_facts (hS.out.has 2 _ _ rfl).1
        replace hl1 := hl1.mono (B' := w.heap.size + 3) (by have := HLT.out; omega)
        replace hl2 := hl2.mono (B' := w.heap.size + 3) (by have := HLT.out; omega)
        go_upto_region 4 with fail
        have hZ := And.intro (((hS.out.store 1 rfl (.int .i64 level1) (.string nlow1) (.string high1) (.bool last1) (.int .i64 next1) (.slice A1 keys1.length ca1) (.slice A2 vals1.length cb1) (.slice A3 kids1.length cc1)).store 2 rfl (.int .i64 level2) (.string nlow2) (.string high2) (.bool last2) (.int .i64 next2) (.slice B1 keys2.length da) (.slice B2 vals2.length db) (.slice B3 kids2.length dc)).top 3) (And.intro ((hl1.off (set8_off _ (w.heap.size + 1) (.int .i64 level1) (.string nlow1) (.string high1) (.bool last1) (.int .i64 next1) (.slice A1 keys1.length ca1) (.slice A2 vals1.length cb1) (.slice A3 kids1.length cc1)) (fun k q => by rw [q]; omega)).off (set8_off _ (w.heap.size + 1 + 1) (.int .i64 level2) (.string nlow2) (.string high2) (.bool last2) (.int .i64 next2) (.slice B1 keys2.length da) (.slice B2 vals2.length db) (.slice B3 kids2.length dc)) (fun k q => by rw [q]; omega)) ((hl2.off (set8_off _ (w.heap.size + 1) (.int .i64 level1) (.string nlow1) (.string high1) (.bool last1) (.int .i64 next1) (.slice A1 keys1.length ca1) (.slice A2 vals1.length cb1) (.slice A3 kids1.length cc1)) (fun k q => by rw [q]; omega)).off (set8_off _ (w.heap.size + 1 + 1) (.int .i64 level2) (.string nlow2) (.string high2) (.bool last2) (.int .i64 next2) (.slice B1 keys2.length da) (.slice B2 vals2.length db) (.slice B3 kids2.length dc)) (fun k q => by rw [q]; omega)))
        simp only [set8, List.set_cons_zero, List.set_cons_succ, List.take_succ_cons, List.take_zero] at hZ
        clear hl1 hl2 hS
        clear z0 z1 z2 z3 z4 z5 z6 z7 r0 r1 r2 r3 r4 r5 r6 r7
        clear x0 x1 x2 x3 x4 x5 x6 x7 f0 f1 f2 f3 f4 f5 f6 f7
        clear y0 y1 y2 y3 y4 y5 y6 y7 q0 q1 q2 q3 q4 q5 q6 q7
        generalize World.setCell _ _ _ = W4 at hZ ⊢
        have hd := Below.drew (Below.refl W4.heap.size W4)
        replace hZ := And.intro (hZ.1.call hd) (And.intro (hZ.2.1.up hd) (hZ.2.2.up hd))
        clear hd
        refine wp_region_held_drew (S := fun w' => Sx w.heap.size w w' [(w.heap.size, .cells #[.int .i64 level, .string nlow, .string high, .bool last, .int .i64 next, .slice A keys.length ca, .slice B vals.length cb, .slice C kids.length cc] 26), (w.heap.size + 1, .cells #[.int .i64 level1, .string nlow1, .string high1, .bool last1, .int .i64 next1, .slice A1 keys1.length ca1, .slice A2 vals1.length cb1, .slice A3 kids1.length cc1] 26), (w.heap.size + 1 + 1, .cells #[.int .i64 level2, .string nlow2, .string high2, .bool last2, .int .i64 next2, .slice B1 keys2.length da, .slice B2 vals2.length db, .slice B3 kids2.length dc] 26)] ∧ LiesF (w.heap.size + 3) w' ⟨level1, nlow1, high1, last1, next1, keys1, vals1, kids1⟩ A1 A2 A3 ca1 cb1 cc1 ∧ LiesF (w.heap.size + 3) w' ⟨level2, nlow2, high2, last2, next2, keys2, vals2, kids2⟩ B1 B2 B3 da db dc) (by kernel_rfl) hZ (fun hcur => ?_)
        (try dsimp only at hcur)
        generalize W4.drew = X4 at hZ hcur ⊢
        clear hZ
        refine wpAnyH_take (i := 0) (v := ?_) rfl (by decide +kernel) (by decide +kernel) (by decide +kernel) (fun _ _ _ h => h) (Or.inl ⟨by rfl, ?hy⟩) hcur ?_
        case hy =>
          intro w1 hSw
          (try dsimp only at hSw)
          obtain ⟨y0, y1, y2, y3, y4, y5, y6, y7, -, -, -, -, -, -, -, -⟩ := nd_facts (hSw.1.has 1 _ _ rfl).1
          obtain ⟨z0, z1, z2, z3, z4, z5, z6, z7, -, -, -, -, -, -, -, -⟩ := nd_facts (hSw.1.has 2 _ _ rfl).1
          go_simp
          (try with_reducible rfl)
        (try simp only [Act.put, List.getElem_toArray, List.getElem_cons_zero, List.getElem_cons_succ, List.setIfInBounds_toArray, List.set_cons_zero, List.set_cons_succ])
        refine wpAnyH_take (i := 1) (v := ?_) rfl (by decide +kernel) (by decide +kernel) (by decide +kernel) (fun _ _ _ h => h) (Or.inl ⟨by rfl, ?hy⟩) hcur ?_
        case hy =>
          intro w1 hSw
          (try dsimp only at hSw)
          obtain ⟨y0, y1, y2, y3, y4, y5, y6, y7, -, -, -, -, -, -, -, -⟩ := nd_facts (hSw.1.has 1 _ _ rfl).1
          obtain ⟨z0, z1, z2, z3, z4, z5, z6, z7, -, -, -, -, -, -, -, -⟩ := nd_facts (hSw.1.has 2 _ _ rfl).1
          go_simp
          (try with_reducible rfl)
        (try simp only [Act.put, List.getElem_toArray, List.getElem_cons_zero, List.getElem_cons_succ, List.setIfInBounds_toArray, List.set_cons_zero, List.set_cons_succ])
        refine wpAnyH_ready (rs := [2]) (by decide +kernel) (by simp) ?_
        refine AllReadyH.cons rfl (fun K hK => ?_) AllReadyH.nil
        obtain ⟨y0, y1, y2, y3, y4, y5, y6, y7, q0, q1, q2, q3, q4, q5, q6, q7⟩ := nd_facts (hcur.1.has 1 _ _ rfl).1
        go_simp
        have hZ := And.intro (hcur.1.store 1 rfl (.int .i64 level1) (.string nlow1) (.string high1) (.bool last1) (.int .i64 next1) (.slice A1 keys1.length ca1) (.slice A2 vals1.length cb1) (.slice A3 kids1.length cc1)) (And.intro (hcur.2.1.off (set8_off _ (w.heap.size + 1) (.int .i64 level1) (.string nlow1) (.string high1) (.bool last1) (.int .i64 next1) (.slice A1 keys1.length ca1) (.slice A2 vals1.length cb1) (.slice A3 kids1.length cc1)) (fun k q => by rw [q]; omega)) (hcur.2.2.off (set8_off _ (w.heap.size + 1) (.int .i64 level1) (.string nlow1) (.string high1) (.bool last1) (.int .i64 next1) (.slice A1 keys1.length ca1) (.slice A2 vals1.length cb1) (.slice A3 kids1.length cc1)) (fun k q => by rw [q]; omega)))
        simp only [set8, List.set_cons_zero, List.set_cons_succ] at hZ
        clear y0 y1 y2 y3 y4 y5 y6 y7 q0 q1 q2 q3 q4 q5 q6 q7
        refine hK.out _ _ (hZ) (fun hcur2 => ?_)
        clear hK K
        replace hcur := hcur2
        (try dsimp only at hcur)
        clear hcur2
        (try simp only [Act.put, List.getElem_toArray, List.getElem_cons_zero, List.getElem_cons_succ, List.setIfInBounds_toArray, List.set_cons_zero, List.set_cons_succ])
        clear hZ
        generalize World.setCell _ _ _ = X5 at hcur ⊢
        refine wpAnyH_ready (rs := [3]) (by decide +kernel) (by simp) ?_
        refine AllReadyH.cons rfl (fun K hK => ?_) AllReadyH.nil
        obtain ⟨y0, y1, y2, y3, y4, y5, y6, y7, q0, q1, q2, q3, q4, q5, q6, q7⟩ := nd_facts (hcur.1.has 2 _ _ rfl).1
        go_simp
        have hZ := And.intro (hcur.1.store 2 rfl (.int .i64 level2) (.string nlow2) (.string high2) (.bool last2) (.int .i64 next2) (.slice B1 keys2.length da) (.slice B2 vals2.length db) (.slice B3 kids2.length dc)) (And.intro (hcur.2.1.off (set8_off _ (w.heap.size + 1 + 1) (.int .i64 level2) (.string nlow2) (.string high2) (.bool last2) (.int .i64 next2) (.slice B1 keys2.length da) (.slice B2 vals2.length db) (.slice B3 kids2.length dc)) (fun k q => by rw [q]; omega)) (hcur.2.2.off (set8_off _ (w.heap.size + 1 + 1) (.int .i64 level2) (.string nlow2) (.string high2) (.bool last2) (.int .i64 next2) (.slice B1 keys2.length da) (.slice B2 vals2.length db) (.slice B3 kids2.length dc)) (fun k q => by rw [q]; omega)))
        simp only [set8, List.set_cons_zero, List.set_cons_succ] at hZ
        clear y0 y1 y2 y3 y4 y5 y6 y7 q0 q1 q2 q3 q4 q5 q6 q7
        refine hK.out _ _ (hZ) (fun hcur2 => ?_)
        clear hK K
        replace hcur := hcur2
        (try dsimp only at hcur)
        clear hcur2
        (try simp only [Act.put, List.getElem_toArray, List.getElem_cons_zero, List.getElem_cons_succ, List.setIfInBounds_toArray, List.set_cons_zero, List.set_cons_succ])
        clear hZ
        generalize World.setCell _ _ _ = X6 at hcur ⊢
        refine wpAnyH_take (i := 4) (v := ?_) rfl (by decide +kernel) (by decide +kernel) (by decide +kernel) (fun _ _ _ h => h) (Or.inl ⟨by rfl, ?hy⟩) hcur ?_
        case hy =>
          intro w1 hSw
          (try dsimp only at hSw)
          obtain ⟨y0, y1, y2, y3, y4, y5, y6, y7, -, -, -, -, -, -, -, -⟩ := nd_facts (hSw.1.has 1 _ _ rfl).1
          obtain ⟨z0, z1, z2, z3, z4, z5, z6, z7, -, -, -, -, -, -, -, -⟩ := nd_facts (hSw.1.has 2 _ _ rfl).1
          go_simp
          (try with_reducible rfl)
        (try simp only [Act.put, List.getElem_toArray, List.getElem_cons_zero, List.getElem_cons_succ, List.setIfInBounds_toArray, List.set_cons_zero, List.set_cons_succ])
        refine wpAnyH_done (by decide +kernel) ?_ _
        have HFI := Lib.hid (And.intro hcur.1.below (And.intro hcur.2.1.lies hcur.2.2.lies))
        obtain ⟨y0, y1, y2, y3, y4, y5, y6, y7, q0, q1, q2, q3, q4, q5, q6, q7⟩ := nd_facts (hcur.1.has 1 _ _ rfl).1
        obtain ⟨z0, z1, z2, z3, z4, z5, z6, z7, r0, r1, r2, r3, r4, r5, r6, r7⟩ := nd_facts (hcur.1.has 2 _ _ rfl).1
        clear hcur
        go_wp2_with fail
        exact bodyPost_ret (v := .tuple #[.agg #[.int .i64 level1, .string nlow1, .string high1, .bool last1, .int .i64 next1, .slice A1 keys1.length ca1, .slice A2 vals1.length cb1, .slice A3 kids1.length cc1], .agg #[.int .i64 level2, .string nlow2, .string high2, .bool last2, .int .i64 next2, .slice B1 keys2.length da, .slice B2 vals2.length db, .slice B3 kids2.length dc], .bool true]) (by simp [results, Try.results61, go_sem, *]) rfl ⟨_, _, _, _, _, _, _, _, _, _, _, _, by simp only [ndCells], HFI.out.2.1, HFI.out.2.2, HFI.out.1⟩

end Go.Proofs.Ytcoiadncennhpaa
