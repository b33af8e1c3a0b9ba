/- The reference of layer 13: Split, Burst, Neighbours. -/
import Derived.Test.YtcoiadncennhpaaHRef2
import Derived.Test.YtcoiadncennhpaaHal7
namespace Go.Proofs.Ytcoiadncennhpaa
open Go.RowKit

theorem part_of_snd {d : Nd} (h : soundB d 64 = true) (hm : 2 ≤ d.keys.length) : PartP d := by
  have hl := snd_lens h (by omega)
  refine ⟨hm, by omega, ?_⟩
  rcases ((snd_iff d 64).1 h).1.rest with ⟨e, e2, e3, _⟩ | ⟨e, e2⟩
  · exact .inl ⟨e, e2, e3⟩
  · exact .inr ⟨e, e2.len, e2.vals⟩
theorem part_of_post {d : Nd} {low : ByteArray} {kid : Int} (h : innerB d = true) : PartP (postN d low kid) := by
  have hi := (innerB_iff d).1 h
  have h1 := hi.kp.len
  have e1 : (postN d low kid).keys.length = d.keys.length + 1 := ins_len _ _ _ (at_le _ _)
  have e2 : (postN d low kid).kids.length = d.kids.length + 1 := ins_len _ _ _ (by rw [h1]; exact at_le _ _)
  have hl := post_lens (low := low) (kid := kid) h
  exact ⟨hl.1, hl.2.1, .inr ⟨hi.lev, by omega, hi.kp.vals⟩⟩

set_option maxRecDepth 100000 in
set_option maxHeartbeats 16000000 in
theorem refsplit_any (d : Nd) (cell : Int) (A B C : Option Addr) (ca cb cc : Nat) (w : World) (h : Lies w d A B C ca cb cc) :
    Calls Try.prog 62 #[.agg (ndCells d A B C ca cb cc), .int .i64 cell] w (P2Ret (splitD d cell) w) := by
  have hS := Lib.hid (Sx.start3b w (.cells (ndCells d A B C ca cb cc) 26) (.cells #[.int .i64 0, .string ⟨#[]⟩, .string ⟨#[]⟩, .bool false, .int .i64 0, .slice none 0 0, .slice none 0 0, .slice none 0 0] 26) (.cells #[.int .i64 0, .string ⟨#[]⟩, .string ⟨#[]⟩, .bool false, .int .i64 0, .slice none 0 0, .slice none 0 0, .slice none 0 0] 26))
  have H00 := Lib.hid h
  have HSn := Lib.hid (fun W hW => refsound_any d 64 A B C ca cb cc W hW)
  have HCe := Lib.hid (fun W => refcell_any cell W)
  have HPa := Lib.hid (fun W (hW : Lies W d A B C ca cb cc) (q : soundB d 64 = true) (q2 : 2 ≤ d.keys.length) => refpart_any d cell A B C ca cb cc W hW (part_of_snd q q2))
  have hpb : splitB d cell = (soundB d 64 && (decide (2 ≤ d.keys.length) && cellB cell)) := rfl
  have hno := Lib.hid (fun (q : splitB d cell = false) => splitD_no q)
  have hyes := Lib.hid (fun (q : splitB d cell = true) => splitD_yes q)
  clear h
  generalize hon : splitD d cell = o at hno hyes ⊢
  clear hon
  generalize splitB d cell = pb at hpb hno hyes
  generalize soundB d 64 = sb at HSn hpb HPa
  generalize cellB cell = cl at HCe hpb
  generalize partL d cell = pl at hyes HPa
  generalize partR d = pr at hyes HPa
  have HPB := Lib.hid hpb
  clear hpb
  obtain ⟨level, nlow, high, last, next, keys, vals, kids⟩ := d
  simp only [] at HPB HPa
  simp only [ndCells] at hS HSn HPa ⊢
  go_enter Try.func62, Try.ntmps62
  go_upto_region 1 with fail
  generalize ((w.alloc _).alloc _).alloc _ = W at hS ⊢
  obtain ⟨x0, x1, x2, x3, x4, x5, x6, x7, f0, f1, f2, f3, f4, f5, f6, f7⟩ := nd_facts (hS.out.has 0 _ _ rfl).1
  go_wp2_with fail
  refine (HSn.out _ (H00.out.up hS.out.below)).mono ?_
  rintro e wn ⟨rfl, hbn⟩
  clear x0 x1 x2 x3 x4 x5 x6 x7 f0 f1 f2 f3 f4 f5 f6 f7
  replace hS := Lib.hid (hS.out.call hbn)
  clear hbn
  obtain ⟨x0, x1, x2, x3, x4, x5, x6, x7, f0, f1, f2, f3, f4, f5, f6, f7⟩ := nd_facts (hS.out.has 0 _ _ rfl).1
  cases sb
  · obtain rfl : o = (false, zeroN, zeroN) := hno.out (by rw [HPB.out]; rfl)
    obtain ⟨y0, y1, y2, y3, y4, y5, y6, y7, q0, q1, q2, q3, q4, q5, q6, q7⟩ := nd_facts (hS.out.has 1 _ _ rfl).1
    obtain ⟨z0, z1, z2, z3, z4, z5, z6, z7, r0, r1, r2, r3, r4, r5, r6, r7⟩ := nd_facts (hS.out.has 2 _ _ rfl).1
    have hZ := ((hS.out.store 1 rfl (.int .i64 0) (.string ⟨#[]⟩) (.string ⟨#[]⟩) (.bool false) (.int .i64 0) (.slice none 0 0) (.slice none 0 0) (.slice none 0 0)).store 2 rfl (.int .i64 0) (.string ⟨#[]⟩) (.string ⟨#[]⟩) (.bool false) (.int .i64 0) (.slice none 0 0) (.slice none 0 0) (.slice none 0 0)).below
    simp only [set8] at hZ
    have HZ := Lib.hid hZ
    clear hZ
    go_wp2_with fail
    exact bodyPost_ret (v := .tuple #[.agg #[.int .i64 0, .string ⟨#[]⟩, .string ⟨#[]⟩, .bool false, .int .i64 0, .slice none 0 0, .slice none 0 0, .slice none 0 0], .agg #[.int .i64 0, .string ⟨#[]⟩, .string ⟨#[]⟩, .bool false, .int .i64 0, .slice none 0 0, .slice none 0 0, .slice none 0 0], .bool false]) (by simp [results, Try.results62, go_sem, *]) rfl ⟨none, none, none, none, none, none, 0, 0, 0, 0, 0, 0, rfl, zero_lies _, zero_lies _, HZ.out⟩
  · by_cases h2 : keys.length < 2
    · have h2b : decide ((keys.length : Int) < 2) = true := decide_eq_true (by omega)
      obtain rfl : o = (false, zeroN, zeroN) := hno.out (by rw [HPB.out, decide_eq_false (p := 2 ≤ keys.length) (by omega)]; rfl)
      obtain ⟨y0, y1, y2, y3, y4, y5, y6, y7, q0, q1, q2, q3, q4, q5, q6, q7⟩ := nd_facts (hS.out.has 1 _ _ rfl).1
      obtain ⟨z0, z1, z2, z3, z4, z5, z6, z7, r0, r1, r2, r3, r4, r5, r6, r7⟩ := nd_facts (hS.out.has 2 _ _ rfl).1
      have hZ := ((hS.out.store 1 rfl (.int .i64 0) (.string ⟨#[]⟩) (.string ⟨#[]⟩) (.bool false) (.int .i64 0) (.slice none 0 0) (.slice none 0 0) (.slice none 0 0)).store 2 rfl (.int .i64 0) (.string ⟨#[]⟩) (.string ⟨#[]⟩) (.bool false) (.int .i64 0) (.slice none 0 0) (.slice none 0 0) (.slice none 0 0)).below
      simp only [set8] at hZ
      have HZ := Lib.hid hZ
      clear hZ
      go_wp2_with fail
      exact bodyPost_ret (v := .tuple #[.agg #[.int .i64 0, .string ⟨#[]⟩, .string ⟨#[]⟩, .bool false, .int .i64 0, .slice none 0 0, .slice none 0 0, .slice none 0 0], .agg #[.int .i64 0, .string ⟨#[]⟩, .string ⟨#[]⟩, .bool false, .int .i64 0, .slice none 0 0, .slice none 0 0, .slice none 0 0], .bool false]) (by simp [results, Try.results62, go_sem, *]) rfl ⟨none, none, none, none, none, none, 0, 0, 0, 0, 0, 0, rfl, zero_lies _, zero_lies _, HZ.out⟩
    · have h2b : decide ((keys.length : Int) < 2) = false := decide_eq_false (by omega)
      have H2 := Lib.hid (show 2 ≤ keys.length by omega)
      clear h2
      go_wp2_with fail
      refine (HCe.out _).mono ?_
      rintro e wn ⟨rfl, hbn⟩
      clear x0 x1 x2 x3 x4 x5 x6 x7 f0 f1 f2 f3 f4 f5 f6 f7
      replace hS := Lib.hid (hS.out.call hbn)
      clear hbn
      obtain ⟨x0, x1, x2, x3, x4, x5, x6, x7, f0, f1, f2, f3, f4, f5, f6, f7⟩ := nd_facts (hS.out.has 0 _ _ rfl).1
      cases cl
      · obtain rfl : o = (false, zeroN, zeroN) := hno.out (by rw [HPB.out]; simp)
        obtain ⟨y0, y1, y2, y3, y4, y5, y6, y7, q0, q1, q2, q3, q4, q5, q6, q7⟩ := nd_facts (hS.out.has 1 _ _ rfl).1
        obtain ⟨z0, z1, z2, z3, z4, z5, z6, z7, r0, r1, r2, r3, r4, r5, r6, r7⟩ := nd_facts (hS.out.has 2 _ _ rfl).1
        have hZ := ((hS.out.store 1 rfl (.int .i64 0) (.string ⟨#[]⟩) (.string ⟨#[]⟩) (.bool false) (.int .i64 0) (.slice none 0 0) (.slice none 0 0) (.slice none 0 0)).store 2 rfl (.int .i64 0) (.string ⟨#[]⟩) (.string ⟨#[]⟩) (.bool false) (.int .i64 0) (.slice none 0 0) (.slice none 0 0) (.slice none 0 0)).below
        simp only [set8] at hZ
        have HZ := Lib.hid hZ
        clear hZ
        go_wp2_with fail
        exact bodyPost_ret (v := .tuple #[.agg #[.int .i64 0, .string ⟨#[]⟩, .string ⟨#[]⟩, .bool false, .int .i64 0, .slice none 0 0, .slice none 0 0, .slice none 0 0], .agg #[.int .i64 0, .string ⟨#[]⟩, .string ⟨#[]⟩, .bool false, .int .i64 0, .slice none 0 0, .slice none 0 0, .slice none 0 0], .bool false]) (by simp [results, Try.results62, go_sem, *]) rfl ⟨none, none, none, none, none, none, 0, 0, 0, 0, 0, 0, rfl, zero_lies _, zero_lies _, HZ.out⟩
      · obtain rfl := hyes.out (by rw [HPB.out, decide_eq_true H2.out]; rfl)
        clear h2b
        go_wp2_with fail
        refine (HPa.out _ (H00.out.up hS.out.below) (by trivial) H2.out).mono ?_
        rintro e Y1 ⟨A1, A2, A3, B1, B2, B3, ca1, cb1, cc1, da, db, dc, rfl, hl1, hl2, hb⟩
        clear HSn HCe HPa hno hyes HPB H2
        clear x0 x1 x2 x3 x4 x5 x6 x7 f0 f1 f2 f3 f4 f5 f6 f7
        obtain ⟨level1, nlow1, high1, last1, next1, keys1, vals1, kids1⟩ := pl
        obtain ⟨level2, nlow2, high2, last2, next2, keys2, vals2, kids2⟩ := pr
        have hbx := below_alloc Y1 (.cells #[.int .i64 level1, .string nlow1, .string high1, .bool last1, .int .i64 next1, .slice A1 keys1.length ca1, .slice A2 vals1.length cb1, .slice A3 kids1.length cc1] 26)
        have hby := below_alloc (Y1.alloc (.cells #[.int .i64 level1, .string nlow1, .string high1, .bool last1, .int .i64 next1, .slice A1 keys1.length ca1, .slice A2 vals1.length cb1, .slice A3 kids1.length cc1] 26)) (.cells #[.int .i64 level2, .string nlow2, .string high2, .bool last2, .int .i64 next2, .slice B1 keys2.length da, .slice B2 vals2.length db, .slice B3 kids2.length dc] 26)
        have hlt := hS.out.lt (i := 2) rfl
        replace hl1 := ((hl1.mono (B' := w.heap.size + 3) (by omega)).up hbx).up hby
        replace hl2 := ((hl2.mono (B' := w.heap.size + 3) (by omega)).up hbx).up hby
        replace hS := Lib.hid (((hS.out.call hb).alloc (.cells #[.int .i64 level1, .string nlow1, .string high1, .bool last1, .int .i64 next1, .slice A1 keys1.length ca1, .slice A2 vals1.length cb1, .slice A3 kids1.length cc1] 26)).alloc (.cells #[.int .i64 level2, .string nlow2, .string high2, .bool last2, .int .i64 next2, .slice B1 keys2.length da, .slice B2 vals2.length db, .slice B3 kids2.length dc] 26))
        have H1 := Lib.hid hl1
        have H2 := Lib.hid hl2
        clear hl1 hl2 hb hbx hby hlt
        simp only [List.cons_append, List.nil_append, ndCells, alloc_size] at hS ⊢
        go_upto_region 4 with fail
        generalize (Y1.alloc _).alloc _ = W4 at hS H1 H2 ⊢
        generalize Y1.heap.size = g at hS ⊢
        have hd := Below.drew (Below.refl W4.heap.size W4)
        replace hS := Lib.hid (hS.out.call hd)
        replace H1 := Lib.hid (H1.out.up hd)
        replace H2 := Lib.hid (H2.out.up hd)
        clear hd
        refine wp_region_held_drew (S := fun w' => Sx w.heap.size w w' [(g, .cells #[.int .i64 level1, .string nlow1, .string high1, .bool last1, .int .i64 next1, .slice A1 keys1.length ca1, .slice A2 vals1.length cb1, .slice A3 kids1.length cc1] 26), (g + 1, .cells #[.int .i64 level2, .string nlow2, .string high2, .bool last2, .int .i64 next2, .slice B1 keys2.length da, .slice B2 vals2.length db, .slice B3 kids2.length dc] 26)]) (by kernel_rfl) (hS.out.bot 3) (fun hcur => ?_)
        (try dsimp only at hcur)
        generalize World.drew _ = X at hS H1 H2 hcur ⊢
        refine wpAnyH_take (i := 0) (v := ?_) rfl (by decide +kernel) (by decide +kernel) (by decide +kernel) (fun _ _ _ h => h) (Or.inl ⟨by rfl, ?hy⟩) hcur ?_
        case hy =>
          intro w1 hSw
          (try dsimp only at hSw)
          obtain ⟨x0, x1, x2, x3, x4, x5, x6, x7, -, -, -, -, -, -, -, -⟩ := nd_facts (hSw.has 0 _ _ rfl).1
          obtain ⟨y0, y1, y2, y3, y4, y5, y6, y7, -, -, -, -, -, -, -, -⟩ := nd_facts (hSw.has 1 _ _ rfl).1
          go_simp
          (try with_reducible rfl)
        (try simp only [Act.put, List.getElem_toArray, List.getElem_cons_zero, List.getElem_cons_succ, List.setIfInBounds_toArray, List.set_cons_zero, List.set_cons_succ])
        refine wpAnyH_take (i := 1) (v := ?_) rfl (by decide +kernel) (by decide +kernel) (by decide +kernel) (fun _ _ _ h => h) (Or.inl ⟨by rfl, ?hy⟩) hcur ?_
        case hy =>
          intro w1 hSw
          (try dsimp only at hSw)
          obtain ⟨x0, x1, x2, x3, x4, x5, x6, x7, -, -, -, -, -, -, -, -⟩ := nd_facts (hSw.has 0 _ _ rfl).1
          obtain ⟨y0, y1, y2, y3, y4, y5, y6, y7, -, -, -, -, -, -, -, -⟩ := nd_facts (hSw.has 1 _ _ rfl).1
          go_simp
          (try with_reducible rfl)
        (try simp only [Act.put, List.getElem_toArray, List.getElem_cons_zero, List.getElem_cons_succ, List.setIfInBounds_toArray, List.set_cons_zero, List.set_cons_succ])
        refine wpAnyH_ready (rs := [2]) (by decide +kernel) (by simp) ?_
        refine AllReadyH.cons rfl (fun K hK => ?_) AllReadyH.nil
        obtain ⟨y0, y1, y2, y3, y4, y5, y6, y7, q0, q1, q2, q3, q4, q5, q6, q7⟩ := nd_facts (hS.out.has 1 _ _ rfl).1
        go_simp
        have hZ := hS.out.store 1 rfl (.int .i64 level1) (.string nlow1) (.string high1) (.bool last1) (.int .i64 next1) (.slice A1 keys1.length ca1) (.slice A2 vals1.length cb1) (.slice A3 kids1.length cc1)
        have hZ1 := H1.out.off (set8_off _ (w.heap.size + 1) (.int .i64 level1) (.string nlow1) (.string high1) (.bool last1) (.int .i64 next1) (.slice A1 keys1.length ca1) (.slice A2 vals1.length cb1) (.slice A3 kids1.length cc1)) (fun k q => by omega)
        have hZ2 := H2.out.off (set8_off _ (w.heap.size + 1) (.int .i64 level1) (.string nlow1) (.string high1) (.bool last1) (.int .i64 next1) (.slice A1 keys1.length ca1) (.slice A2 vals1.length cb1) (.slice A3 kids1.length cc1)) (fun k q => by omega)
        simp only [set8] at hZ hZ1 hZ2
        replace hS := Lib.hid hZ
        replace H1 := Lib.hid hZ1
        replace H2 := Lib.hid hZ2
        clear hZ hZ1 hZ2
        simp only [List.cons_append, List.nil_append, List.set_cons_zero, List.set_cons_succ] at hS
        clear y0 y1 y2 y3 y4 y5 y6 y7 q0 q1 q2 q3 q4 q5 q6 q7
        refine hK.out _ _ (hS.out.bot 3) (fun hcur2 => ?_)
        clear hK K
        replace hcur := hcur2
        (try dsimp only at hcur)
        clear hcur2
        (try simp only [Act.put, List.getElem_toArray, List.getElem_cons_zero, List.getElem_cons_succ, List.setIfInBounds_toArray, List.set_cons_zero, List.set_cons_succ])
        generalize World.setCell _ _ _ = X1 at hS H1 H2 hcur ⊢
        refine wpAnyH_ready (rs := [3]) (by decide +kernel) (by simp) ?_
        refine AllReadyH.cons rfl (fun K hK => ?_) AllReadyH.nil
        obtain ⟨y0, y1, y2, y3, y4, y5, y6, y7, q0, q1, q2, q3, q4, q5, q6, q7⟩ := nd_facts (hS.out.has 2 _ _ rfl).1
        go_simp
        have hZ := hS.out.store 2 rfl (.int .i64 level2) (.string nlow2) (.string high2) (.bool last2) (.int .i64 next2) (.slice B1 keys2.length da) (.slice B2 vals2.length db) (.slice B3 kids2.length dc)
        have hZ1 := H1.out.off (set8_off _ (w.heap.size + 1 + 1) (.int .i64 level2) (.string nlow2) (.string high2) (.bool last2) (.int .i64 next2) (.slice B1 keys2.length da) (.slice B2 vals2.length db) (.slice B3 kids2.length dc)) (fun k q => by omega)
        have hZ2 := H2.out.off (set8_off _ (w.heap.size + 1 + 1) (.int .i64 level2) (.string nlow2) (.string high2) (.bool last2) (.int .i64 next2) (.slice B1 keys2.length da) (.slice B2 vals2.length db) (.slice B3 kids2.length dc)) (fun k q => by omega)
        simp only [set8] at hZ hZ1 hZ2
        replace hS := Lib.hid hZ
        replace H1 := Lib.hid hZ1
        replace H2 := Lib.hid hZ2
        clear hZ hZ1 hZ2
        simp only [List.cons_append, List.nil_append, List.set_cons_zero, List.set_cons_succ] at hS
        clear y0 y1 y2 y3 y4 y5 y6 y7 q0 q1 q2 q3 q4 q5 q6 q7
        refine hK.out _ _ (hS.out.bot 3) (fun hcur2 => ?_)
        clear hK K
        replace hcur := hcur2
        (try dsimp only at hcur)
        clear hcur2
        (try simp only [Act.put, List.getElem_toArray, List.getElem_cons_zero, List.getElem_cons_succ, List.setIfInBounds_toArray, List.set_cons_zero, List.set_cons_succ])
        generalize World.setCell _ _ _ = X2 at hS H1 H2 hcur ⊢
        refine wpAnyH_take (i := 4) (v := ?_) rfl (by decide +kernel) (by decide +kernel) (by decide +kernel) (fun _ _ _ h => h) (Or.inl ⟨by rfl, ?hy⟩) hcur ?_
        case hy =>
          intro w1 hSw
          (try dsimp only at hSw)
          obtain ⟨x0, x1, x2, x3, x4, x5, x6, x7, -, -, -, -, -, -, -, -⟩ := nd_facts (hSw.has 0 _ _ rfl).1
          obtain ⟨y0, y1, y2, y3, y4, y5, y6, y7, -, -, -, -, -, -, -, -⟩ := nd_facts (hSw.has 1 _ _ rfl).1
          go_simp
          (try with_reducible rfl)
        (try simp only [Act.put, List.getElem_toArray, List.getElem_cons_zero, List.getElem_cons_succ, List.setIfInBounds_toArray, List.set_cons_zero, List.set_cons_succ])
        refine wpAnyH_done (by decide +kernel) ?_ _
        clear hcur
        have HFI := Lib.hid (And.intro H1.out.lies (And.intro H2.out.lies hS.out.below))
        obtain ⟨x0, x1, x2, x3, x4, x5, x6, x7, f0, f1, f2, f3, f4, f5, f6, f7⟩ := nd_facts (hS.out.has 1 _ _ rfl).1
        obtain ⟨y0, y1, y2, y3, y4, y5, y6, y7, q0, q1, q2, q3, q4, q5, q6, q7⟩ := nd_facts (hS.out.has 2 _ _ rfl).1
        go_wp2_with fail
        exact bodyPost_ret (v := .tuple #[.agg #[.int .i64 level1, .string nlow1, .string high1, .bool last1, .int .i64 next1, .slice A1 keys1.length ca1, .slice A2 vals1.length cb1, .slice A3 kids1.length cc1], .agg #[.int .i64 level2, .string nlow2, .string high2, .bool last2, .int .i64 next2, .slice B1 keys2.length da, .slice B2 vals2.length db, .slice B3 kids2.length dc], .bool true]) (by simp [results, Try.results62, go_sem, *]) rfl ⟨_, _, _, _, _, _, _, _, _, _, _, _, by simp only [ndCells], HFI.out⟩

set_option maxRecDepth 100000 in
set_option maxHeartbeats 16000000 in
theorem refburst_any (d : Nd) (low : ByteArray) (kid cell : Int) (A B C : Option Addr) (ca cb cc : Nat) (w : World) (h : Lies w d A B C ca cb cc) (hk : low.size ≤ maxLen) :
    Calls Try.prog 64 #[.agg (ndCells d A B C ca cb cc), .string low, .int .i64 kid, .int .i64 cell] w (P2Ret (burstD d low kid cell) w) := by
  have hS := Lib.hid (Sx.start3b w (.cells (ndCells d A B C ca cb cc) 26) (.cells #[.int .i64 0, .string ⟨#[]⟩, .string ⟨#[]⟩, .bool false, .int .i64 0, .slice none 0 0, .slice none 0 0, .slice none 0 0] 26) (.cells #[.int .i64 0, .string ⟨#[]⟩, .string ⟨#[]⟩, .bool false, .int .i64 0, .slice none 0 0, .slice none 0 0, .slice none 0 0] 26))
  have H00 := Lib.hid h
  have HIn := Lib.hid (fun W hW => refinner_any d A B C ca cb cc W hW)
  have HKy := Lib.hid (fun W => refkey_any low W hk)
  have HCe := Lib.hid (fun W => refcell_any cell W)
  have HCk := Lib.hid (fun W => refcell_any kid W)
  have HIs := Lib.hid (fun W => refinside_any d.low d.high d.last low W h.low h.high hk)
  have HPu := Lib.hid (fun W (hW : Lies W d A B C ca cb cc) (q1 : innerB d = true) (q2 : ∀ q (hq : q < d.keys.length), d.keys[q] ≠ low) =>
    refput_any d low kid A B C ca cb cc W hW hk ((innerB_iff d).1 q1).up q2 ((innerB_iff d).1 q1).kp.len (by have := ((innerB_iff d).1 q1).kp.len; have := ((innerB_iff d).1 q1).kp.ne; omega) (by have := ((innerB_iff d).1 q1).fan; omega) ((innerB_iff d).1 q1).kp.vals)
  have HPa := Lib.hid (fun (A B C : Option Addr) (ca cb cc : Nat) W (hW : Lies W (postN d low kid) A B C ca cb cc) (q : innerB d = true) => refpart_any (postN d low kid) cell A B C ca cb cc W hW (part_of_post q))
  have hpb : burstB d low kid cell = (innerB d && (!hasD d low && (cellB cell && (cellB kid && (goodB low && (insB d low && !decide (kid ∈ d.kids))))))) := rfl
  have hno := Lib.hid (fun (q : burstB d low kid cell = false) => burstD_no q)
  have hyes := Lib.hid (fun (q : burstB d low kid cell = true) => burstD_yes q)
  have hlen := Lib.hid (fun (q : innerB d = true) => And.intro ((innerB_iff d).1 q).kp.len (show d.keys.length ≤ 64 by have := ((innerB_iff d).1 q).fan; omega))
  have HH0 := Lib.hid (fun (q : innerB d = true) (hn : ∀ q (hq : q < d.keys.length), d.keys[q] ≠ low) => has_no ((innerB_iff d).1 q).up hn)
  have HH1 := Lib.hid (fun (q : innerB d = true) (j : Nat) (hj : j < d.keys.length) (e : d.keys[j] = low) => has_yes ((innerB_iff d).1 q).up hj e)
  have HP0 := Lib.hid (fun (hn : ∀ q (hq : q < d.kids.length), d.kids[q] ≠ kid) => (decide_eq_false (not_mem_of fun q hq e => hn q hq e.symm) : decide (kid ∈ d.kids) = false))
  have HP1 := Lib.hid (fun (j : Nat) (hj : j < d.kids.length) (e : d.kids[j] = kid) => (decide_eq_true (e ▸ List.getElem_mem hj) : decide (kid ∈ d.kids) = true))
  rw [show (!Pl.ls low.data.toList d.low.data.toList && (d.last || Pl.ls low.data.toList d.high.data.toList)) = insB d low from rfl] at HIs
  clear h hk
  generalize hon : burstD d low kid cell = o at hno hyes ⊢
  clear hon
  generalize burstB d low kid cell = pb at hpb hno hyes
  generalize partL (postN d low kid) cell = pl at hyes HPa
  generalize partR (postN d low kid) = pr at hyes HPa
  generalize goodB low = gb at HKy hpb
  generalize cellB kid = ck at HCk hpb
  generalize cellB cell = cl at HCe hpb
  generalize insB d low = ns at HIs hpb
  generalize hasD d low = hs at hpb HH0 HH1
  generalize decide (kid ∈ d.kids) = pm at hpb HP0 HP1
  generalize postN d low kid = pn at HPu HPa
  generalize innerB d = ib at HIn HPu HPa hpb hlen HH0 HH1
  have HPB := Lib.hid hpb
  clear hpb
  obtain ⟨level, nlow, high, last, next, keys, vals, kids⟩ := d
  simp only [] at hlen HPB HPu HH0 HH1 HP0 HP1 HIs
  simp only [ndCells] at hS HIn HPu ⊢
  go_enter Try.func64, Try.ntmps64
  go_upto_region 1 with fail
  generalize ((w.alloc _).alloc _).alloc _ = W at hS ⊢
  obtain ⟨x0, x1, x2, x3, x4, x5, x6, x7, f0, f1, f2, f3, f4, f5, f6, f7⟩ := nd_facts (hS.out.has 0 _ _ rfl).1
  go_wp2_with fail
  refine (HIn.out _ (H00.out.up hS.out.below)).mono ?_
  rintro e wn ⟨rfl, hbn⟩
  clear x0 x1 x2 x3 x4 x5 x6 x7 f0 f1 f2 f3 f4 f5 f6 f7
  replace hS := Lib.hid (hS.out.call hbn)
  clear hbn
  obtain ⟨x0, x1, x2, x3, x4, x5, x6, x7, f0, f1, f2, f3, f4, f5, f6, f7⟩ := nd_facts (hS.out.has 0 _ _ rfl).1
  cases ib
  · obtain rfl : o = (false, zeroN, zeroN) := hno.out (by rw [HPB.out]; rfl)
    obtain ⟨y0, y1, y2, y3, y4, y5, y6, y7, q0, q1, q2, q3, q4, q5, q6, q7⟩ := nd_facts (hS.out.has 1 _ _ rfl).1
    obtain ⟨z0, z1, z2, z3, z4, z5, z6, z7, r0, r1, r2, r3, r4, r5, r6, r7⟩ := nd_facts (hS.out.has 2 _ _ rfl).1
    have hZ := ((hS.out.store 1 rfl (.int .i64 0) (.string ⟨#[]⟩) (.string ⟨#[]⟩) (.bool false) (.int .i64 0) (.slice none 0 0) (.slice none 0 0) (.slice none 0 0)).store 2 rfl (.int .i64 0) (.string ⟨#[]⟩) (.string ⟨#[]⟩) (.bool false) (.int .i64 0) (.slice none 0 0) (.slice none 0 0) (.slice none 0 0)).below
    simp only [set8] at hZ
    have HZ := Lib.hid hZ
    clear hZ
    go_wp2_with fail
    exact bodyPost_ret (v := .tuple #[.agg #[.int .i64 0, .string ⟨#[]⟩, .string ⟨#[]⟩, .bool false, .int .i64 0, .slice none 0 0, .slice none 0 0, .slice none 0 0], .agg #[.int .i64 0, .string ⟨#[]⟩, .string ⟨#[]⟩, .bool false, .int .i64 0, .slice none 0 0, .slice none 0 0, .slice none 0 0], .bool false]) (by simp [results, Try.results64, go_sem, *]) rfl ⟨none, none, none, none, none, none, 0, 0, 0, 0, 0, 0, rfl, zero_lies _, zero_lies _, HZ.out⟩
  · go_wp2_with fail
    refine (HCe.out _).mono ?_
    rintro e wn ⟨rfl, hbn⟩
    clear x0 x1 x2 x3 x4 x5 x6 x7 f0 f1 f2 f3 f4 f5 f6 f7
    replace hS := Lib.hid (hS.out.call hbn)
    clear hbn
    obtain ⟨x0, x1, x2, x3, x4, x5, x6, x7, f0, f1, f2, f3, f4, f5, f6, f7⟩ := nd_facts (hS.out.has 0 _ _ rfl).1
    cases cl
    · obtain rfl : o = (false, zeroN, zeroN) := hno.out (by rw [HPB.out]; simp)
      obtain ⟨y0, y1, y2, y3, y4, y5, y6, y7, q0, q1, q2, q3, q4, q5, q6, q7⟩ := nd_facts (hS.out.has 1 _ _ rfl).1
      obtain ⟨z0, z1, z2, z3, z4, z5, z6, z7, r0, r1, r2, r3, r4, r5, r6, r7⟩ := nd_facts (hS.out.has 2 _ _ rfl).1
      have hZ := ((hS.out.store 1 rfl (.int .i64 0) (.string ⟨#[]⟩) (.string ⟨#[]⟩) (.bool false) (.int .i64 0) (.slice none 0 0) (.slice none 0 0) (.slice none 0 0)).store 2 rfl (.int .i64 0) (.string ⟨#[]⟩) (.string ⟨#[]⟩) (.bool false) (.int .i64 0) (.slice none 0 0) (.slice none 0 0) (.slice none 0 0)).below
      simp only [set8] at hZ
      have HZ := Lib.hid hZ
      clear hZ
      go_wp2_with fail
      exact bodyPost_ret (v := .tuple #[.agg #[.int .i64 0, .string ⟨#[]⟩, .string ⟨#[]⟩, .bool false, .int .i64 0, .slice none 0 0, .slice none 0 0, .slice none 0 0], .agg #[.int .i64 0, .string ⟨#[]⟩, .string ⟨#[]⟩, .bool false, .int .i64 0, .slice none 0 0, .slice none 0 0, .slice none 0 0], .bool false]) (by simp [results, Try.results64, go_sem, *]) rfl ⟨none, none, none, none, none, none, 0, 0, 0, 0, 0, 0, rfl, zero_lies _, zero_lies _, HZ.out⟩
    · go_wp2_with fail
      refine (HCk.out _).mono ?_
      rintro e wn ⟨rfl, hbn⟩
      clear x0 x1 x2 x3 x4 x5 x6 x7 f0 f1 f2 f3 f4 f5 f6 f7
      replace hS := Lib.hid (hS.out.call hbn)
      clear hbn
      obtain ⟨x0, x1, x2, x3, x4, x5, x6, x7, f0, f1, f2, f3, f4, f5, f6, f7⟩ := nd_facts (hS.out.has 0 _ _ rfl).1
      cases ck
      · obtain rfl : o = (false, zeroN, zeroN) := hno.out (by rw [HPB.out]; simp)
        obtain ⟨y0, y1, y2, y3, y4, y5, y6, y7, q0, q1, q2, q3, q4, q5, q6, q7⟩ := nd_facts (hS.out.has 1 _ _ rfl).1
        obtain ⟨z0, z1, z2, z3, z4, z5, z6, z7, r0, r1, r2, r3, r4, r5, r6, r7⟩ := nd_facts (hS.out.has 2 _ _ rfl).1
        have hZ := ((hS.out.store 1 rfl (.int .i64 0) (.string ⟨#[]⟩) (.string ⟨#[]⟩) (.bool false) (.int .i64 0) (.slice none 0 0) (.slice none 0 0) (.slice none 0 0)).store 2 rfl (.int .i64 0) (.string ⟨#[]⟩) (.string ⟨#[]⟩) (.bool false) (.int .i64 0) (.slice none 0 0) (.slice none 0 0) (.slice none 0 0)).below
        simp only [set8] at hZ
        have HZ := Lib.hid hZ
        clear hZ
        go_wp2_with fail
        exact bodyPost_ret (v := .tuple #[.agg #[.int .i64 0, .string ⟨#[]⟩, .string ⟨#[]⟩, .bool false, .int .i64 0, .slice none 0 0, .slice none 0 0, .slice none 0 0], .agg #[.int .i64 0, .string ⟨#[]⟩, .string ⟨#[]⟩, .bool false, .int .i64 0, .slice none 0 0, .slice none 0 0, .slice none 0 0], .bool false]) (by simp [results, Try.results64, go_sem, *]) rfl ⟨none, none, none, none, none, none, 0, 0, 0, 0, 0, 0, rfl, zero_lies _, zero_lies _, HZ.out⟩
      · go_wp2_with fail
        refine (HKy.out _).mono ?_
        rintro e wn ⟨rfl, hbn⟩
        clear x0 x1 x2 x3 x4 x5 x6 x7 f0 f1 f2 f3 f4 f5 f6 f7
        replace hS := Lib.hid (hS.out.call hbn)
        clear hbn
        obtain ⟨x0, x1, x2, x3, x4, x5, x6, x7, f0, f1, f2, f3, f4, f5, f6, f7⟩ := nd_facts (hS.out.has 0 _ _ rfl).1
        cases gb
        · obtain rfl : o = (false, zeroN, zeroN) := hno.out (by rw [HPB.out]; simp)
          obtain ⟨y0, y1, y2, y3, y4, y5, y6, y7, q0, q1, q2, q3, q4, q5, q6, q7⟩ := nd_facts (hS.out.has 1 _ _ rfl).1
          obtain ⟨z0, z1, z2, z3, z4, z5, z6, z7, r0, r1, r2, r3, r4, r5, r6, r7⟩ := nd_facts (hS.out.has 2 _ _ rfl).1
          have hZ := ((hS.out.store 1 rfl (.int .i64 0) (.string ⟨#[]⟩) (.string ⟨#[]⟩) (.bool false) (.int .i64 0) (.slice none 0 0) (.slice none 0 0) (.slice none 0 0)).store 2 rfl (.int .i64 0) (.string ⟨#[]⟩) (.string ⟨#[]⟩) (.bool false) (.int .i64 0) (.slice none 0 0) (.slice none 0 0) (.slice none 0 0)).below
          simp only [set8] at hZ
          have HZ := Lib.hid hZ
          clear hZ
          go_wp2_with fail
          exact bodyPost_ret (v := .tuple #[.agg #[.int .i64 0, .string ⟨#[]⟩, .string ⟨#[]⟩, .bool false, .int .i64 0, .slice none 0 0, .slice none 0 0, .slice none 0 0], .agg #[.int .i64 0, .string ⟨#[]⟩, .string ⟨#[]⟩, .bool false, .int .i64 0, .slice none 0 0, .slice none 0 0, .slice none 0 0], .bool false]) (by simp [results, Try.results64, go_sem, *]) rfl ⟨none, none, none, none, none, none, 0, 0, 0, 0, 0, 0, rfl, zero_lies _, zero_lies _, HZ.out⟩
        · go_wp2_with fail
          refine (HIs.out _).mono ?_
          rintro e wn ⟨rfl, hbn⟩
          clear x0 x1 x2 x3 x4 x5 x6 x7 f0 f1 f2 f3 f4 f5 f6 f7
          replace hS := Lib.hid (hS.out.call hbn)
          clear hbn
          obtain ⟨x0, x1, x2, x3, x4, x5, x6, x7, f0, f1, f2, f3, f4, f5, f6, f7⟩ := nd_facts (hS.out.has 0 _ _ rfl).1
          cases ns
          · obtain rfl : o = (false, zeroN, zeroN) := hno.out (by rw [HPB.out]; simp)
            obtain ⟨y0, y1, y2, y3, y4, y5, y6, y7, q0, q1, q2, q3, q4, q5, q6, q7⟩ := nd_facts (hS.out.has 1 _ _ rfl).1
            obtain ⟨z0, z1, z2, z3, z4, z5, z6, z7, r0, r1, r2, r3, r4, r5, r6, r7⟩ := nd_facts (hS.out.has 2 _ _ rfl).1
            have hZ := ((hS.out.store 1 rfl (.int .i64 0) (.string ⟨#[]⟩) (.string ⟨#[]⟩) (.bool false) (.int .i64 0) (.slice none 0 0) (.slice none 0 0) (.slice none 0 0)).store 2 rfl (.int .i64 0) (.string ⟨#[]⟩) (.string ⟨#[]⟩) (.bool false) (.int .i64 0) (.slice none 0 0) (.slice none 0 0) (.slice none 0 0)).below
            simp only [set8] at hZ
            have HZ := Lib.hid hZ
            clear hZ
            go_wp2_with fail
            exact bodyPost_ret (v := .tuple #[.agg #[.int .i64 0, .string ⟨#[]⟩, .string ⟨#[]⟩, .bool false, .int .i64 0, .slice none 0 0, .slice none 0 0, .slice none 0 0], .agg #[.int .i64 0, .string ⟨#[]⟩, .string ⟨#[]⟩, .bool false, .int .i64 0, .slice none 0 0, .slice none 0 0, .slice none 0 0], .bool false]) (by simp [results, Try.results64, go_sem, *]) rfl ⟨none, none, none, none, none, none, 0, 0, 0, 0, 0, 0, rfl, zero_lies _, zero_lies _, HZ.out⟩
          · have hlk : keys.length ≤ 64 := (hlen.out (by trivial)).2
            have HL := Lib.hid (show kids.length = keys.length from (hlen.out (by trivial)).1)
            clear hlen HIn HKy HCe HCk HIs
            go_wp2_with fail
            go_loopw [11] (fun i wr => ∃ j : Nat, i = .int .i64 j ∧ Hid (j ≤ keys.length ∧ (∀ q (hq : q < keys.length) (hq' : q < kids.length), q < j → keys[q] ≠ low ∧ kids[q] ≠ kid) ∧
              Sx w.heap.size w wr [(w.heap.size, .cells #[.int .i64 level, .string nlow, .string high, .bool last, .int .i64 next, .slice A keys.length ca, .slice B vals.length cb, .slice C kids.length cc] 26), (w.heap.size + 1, .cells #[.int .i64 0, .string ⟨#[]⟩, .string ⟨#[]⟩, .bool false, .int .i64 0, .slice none 0 0, .slice none 0 0, .slice none 0 0] 26), (w.heap.size + 1 + 1, .cells #[.int .i64 0, .string ⟨#[]⟩, .string ⟨#[]⟩, .bool false, .int .i64 0, .slice none 0 0, .slice none 0 0, .slice none 0 0] 26)])) (fun i _ => keys.length - (intOf i).toNat)
            case atStart => exact ⟨0, rfl, Nat.zero_le _, fun q _ _ hq => absurd hq (Nat.not_lt_zero _), hS.out⟩
            case round =>
              obtain ⟨j, rfl, H⟩ := hrel
              clear x0 x1 x2 x3 x4 x5 x6 x7 f0 f1 f2 f3 f4 f5 f6 f7
              clear hS
              have hS := Lib.hid H.out.2.2
              obtain ⟨x0, x1, x2, x3, x4, x5, x6, x7, f0, f1, f2, f3, f4, f5, f6, f7⟩ := nd_facts (hS.out.has 0 _ _ rfl).1
              by_cases hlt : j < keys.length
              · have hlt2 : j < kids.length := by have := HL.out; omega
                have HPRE := Lib.hid H.out.2.1
                clear H
                have hL := H00.out.up hS.out.below
                obtain ⟨b, off, rfl, hbB, hc⟩ := RdS.spot hL.keys (show 0 < keys.length by omega)
                obtain ⟨b', off', rfl, hbB', hc'⟩ := RdI.spot hL.kids (show 0 < kids.length by omega)
                have cj := hc j hlt
                have dj := hc' j hlt2
                have HHj := Lib.hid (HH1.out (by trivial) j hlt)
                have HPj := Lib.hid (HP1.out j hlt2)
                have HNX := Lib.hid (fun (q1 : keys[j] ≠ low) (q2 : kids[j] ≠ kid) (q : Nat) (hq : q < keys.length) (hq' : q < kids.length) (hqj : q < j + 1) => show keys[q] ≠ low ∧ kids[q] ≠ kid from by
                  rcases Nat.lt_succ_iff_lt_or_eq.1 hqj with g | rfl
                  · exact HPRE.out q hq hq' g
                  · exact ⟨q1, q2⟩)
                simp only [] at cj dj HHj HPj
                clear hL hc hc' hbB hbB' HPRE
                generalize keys[j] = kj at cj HHj HNX
                generalize kids[j] = cj2 at dj HPj HNX
                by_cases h1 : kj = low
                · obtain rfl : o = (false, zeroN, zeroN) := hno.out (by rw [HPB.out, HHj.out h1]; simp)
                  have h1b : (kj.toList == low.toList) = true := by rw [txt_eq]; exact decide_eq_true h1
                  clear h1
                  obtain ⟨y0, y1, y2, y3, y4, y5, y6, y7, q0, q1, q2, q3, q4, q5, q6, q7⟩ := nd_facts (hS.out.has 1 _ _ rfl).1
                  obtain ⟨z0, z1, z2, z3, z4, z5, z6, z7, r0, r1, r2, r3, r4, r5, r6, r7⟩ := nd_facts (hS.out.has 2 _ _ rfl).1
                  have hZ := ((hS.out.store 1 rfl (.int .i64 0) (.string ⟨#[]⟩) (.string ⟨#[]⟩) (.bool false) (.int .i64 0) (.slice none 0 0) (.slice none 0 0) (.slice none 0 0)).store 2 rfl (.int .i64 0) (.string ⟨#[]⟩) (.string ⟨#[]⟩) (.bool false) (.int .i64 0) (.slice none 0 0) (.slice none 0 0) (.slice none 0 0)).below
                  simp only [set8] at hZ
                  have HZ := Lib.hid hZ
                  clear hZ
                  go_wp2_with fail
                  exact bodyPost_ret (v := .tuple #[.agg #[.int .i64 0, .string ⟨#[]⟩, .string ⟨#[]⟩, .bool false, .int .i64 0, .slice none 0 0, .slice none 0 0, .slice none 0 0], .agg #[.int .i64 0, .string ⟨#[]⟩, .string ⟨#[]⟩, .bool false, .int .i64 0, .slice none 0 0, .slice none 0 0, .slice none 0 0], .bool false]) (by simp [results, Try.results64, go_sem, *]) rfl ⟨none, none, none, none, none, none, 0, 0, 0, 0, 0, 0, rfl, zero_lies _, zero_lies _, HZ.out⟩
                · have h1b : (kj.toList == low.toList) = false := by rw [txt_eq]; exact decide_eq_false h1
                  by_cases h2 : cj2 = kid
                  · obtain rfl : o = (false, zeroN, zeroN) := hno.out (by rw [HPB.out, HPj.out h2]; simp)
                    have h2b : (cj2 == kid) = true := beq_iff_eq.2 h2
                    clear h1 h2
                    obtain ⟨y0, y1, y2, y3, y4, y5, y6, y7, q0, q1, q2, q3, q4, q5, q6, q7⟩ := nd_facts (hS.out.has 1 _ _ rfl).1
                    obtain ⟨z0, z1, z2, z3, z4, z5, z6, z7, r0, r1, r2, r3, r4, r5, r6, r7⟩ := nd_facts (hS.out.has 2 _ _ rfl).1
                    have hZ := ((hS.out.store 1 rfl (.int .i64 0) (.string ⟨#[]⟩) (.string ⟨#[]⟩) (.bool false) (.int .i64 0) (.slice none 0 0) (.slice none 0 0) (.slice none 0 0)).store 2 rfl (.int .i64 0) (.string ⟨#[]⟩) (.string ⟨#[]⟩) (.bool false) (.int .i64 0) (.slice none 0 0) (.slice none 0 0) (.slice none 0 0)).below
                    simp only [set8] at hZ
                    have HZ := Lib.hid hZ
                    clear hZ
                    go_wp2_with fail
                    exact bodyPost_ret (v := .tuple #[.agg #[.int .i64 0, .string ⟨#[]⟩, .string ⟨#[]⟩, .bool false, .int .i64 0, .slice none 0 0, .slice none 0 0, .slice none 0 0], .agg #[.int .i64 0, .string ⟨#[]⟩, .string ⟨#[]⟩, .bool false, .int .i64 0, .slice none 0 0, .slice none 0 0, .slice none 0 0], .bool false]) (by simp [results, Try.results64, go_sem, *]) rfl ⟨none, none, none, none, none, none, 0, 0, 0, 0, 0, 0, rfl, zero_lies _, zero_lies _, HZ.out⟩
                  · have h2b : (cj2 == kid) = false := by simpa using h2
                    have HNY := Lib.hid (HNX.out h1 h2)
                    clear h1 h2 HNX
                    go_wp2_with fail
                    go_roundw
                    case rel => exact ⟨j + 1, by go_num, by omega, HNY.out, hS.out⟩
                    case measure => simp [intOf]; omega
              · obtain rfl : j = keys.length := by have := H.out.1; omega
                have hnk : ∀ q (hq : q < keys.length), keys[q] ≠ low := fun q hq => (H.out.2.1 q hq (by have := HL.out; omega) hq).1
                have hnc : ∀ q (hq : q < kids.length), kids[q] ≠ kid := fun q hq => (H.out.2.1 q (by have := HL.out; omega) hq (by have := HL.out; omega)).2
                have hpt : pb = true := by
                  rw [HPB.out, HH0.out (by trivial) hnk, HP0.out hnc]; rfl
                obtain rfl := hyes.out hpt
                clear hpt
                have HN := Lib.hid hnk
                clear hnk hnc H HH0 HH1 HP0 HP1 hno hyes HPB
                go_wp2_with fail
                refine (HPu.out _ (H00.out.up hS.out.below) (by trivial) HN.out).mono ?_
                rintro e Y0 ⟨A4, B4, C4, ca4, cb4, cc4, rfl, hl, hb⟩
                clear x0 x1 x2 x3 x4 x5 x6 x7 f0 f1 f2 f3 f4 f5 f6 f7
                replace hS := Lib.hid (hS.out.call hb)
                have HL0 := Lib.hid hl.lies
                clear hl hb HPu
                obtain ⟨x0, x1, x2, x3, x4, x5, x6, x7, f0, f1, f2, f3, f4, f5, f6, f7⟩ := nd_facts (hS.out.has 0 _ _ rfl).1
                go_wp2_with fail
                refine (HPa.out A4 B4 C4 ca4 cb4 cc4 _ HL0.out (by trivial)).mono ?_
                rintro e Y1 ⟨A1, A2, A3, B1, B2, B3, ca1, cb1, cc1, da, db, dc, rfl, hl1, hl2, hb⟩
                clear HPa HL0 HN hlt
                clear x0 x1 x2 x3 x4 x5 x6 x7 f0 f1 f2 f3 f4 f5 f6 f7
                obtain ⟨level1, nlow1, high1, last1, next1, keys1, vals1, kids1⟩ := pl
                obtain ⟨level2, nlow2, high2, last2, next2, keys2, vals2, kids2⟩ := pr
                have hbx := below_alloc Y1 (.cells #[.int .i64 level1, .string nlow1, .string high1, .bool last1, .int .i64 next1, .slice A1 keys1.length ca1, .slice A2 vals1.length cb1, .slice A3 kids1.length cc1] 26)
                have hby := below_alloc (Y1.alloc (.cells #[.int .i64 level1, .string nlow1, .string high1, .bool last1, .int .i64 next1, .slice A1 keys1.length ca1, .slice A2 vals1.length cb1, .slice A3 kids1.length cc1] 26)) (.cells #[.int .i64 level2, .string nlow2, .string high2, .bool last2, .int .i64 next2, .slice B1 keys2.length da, .slice B2 vals2.length db, .slice B3 kids2.length dc] 26)
                have hlt := hS.out.lt (i := 2) rfl
                replace hl1 := ((hl1.mono (B' := w.heap.size + 3) (by omega)).up hbx).up hby
                replace hl2 := ((hl2.mono (B' := w.heap.size + 3) (by omega)).up hbx).up hby
                replace hS := Lib.hid (((hS.out.call hb).alloc (.cells #[.int .i64 level1, .string nlow1, .string high1, .bool last1, .int .i64 next1, .slice A1 keys1.length ca1, .slice A2 vals1.length cb1, .slice A3 kids1.length cc1] 26)).alloc (.cells #[.int .i64 level2, .string nlow2, .string high2, .bool last2, .int .i64 next2, .slice B1 keys2.length da, .slice B2 vals2.length db, .slice B3 kids2.length dc] 26))
                have H1 := Lib.hid hl1
                have H2 := Lib.hid hl2
                clear hl1 hl2 hb hbx hby hlt
                simp only [List.cons_append, List.nil_append, ndCells, alloc_size] at hS ⊢
                go_upto_region 9 with fail
                generalize (Y1.alloc _).alloc _ = W4 at hS H1 H2 ⊢
                generalize Y1.heap.size = g at hS ⊢
                have hd := Below.drew (Below.refl W4.heap.size W4)
                replace hS := Lib.hid (hS.out.call hd)
                replace H1 := Lib.hid (H1.out.up hd)
                replace H2 := Lib.hid (H2.out.up hd)
                clear hd
                refine wp_region_held_drew (S := fun w' => Sx w.heap.size w w' [(g, .cells #[.int .i64 level1, .string nlow1, .string high1, .bool last1, .int .i64 next1, .slice A1 keys1.length ca1, .slice A2 vals1.length cb1, .slice A3 kids1.length cc1] 26), (g + 1, .cells #[.int .i64 level2, .string nlow2, .string high2, .bool last2, .int .i64 next2, .slice B1 keys2.length da, .slice B2 vals2.length db, .slice B3 kids2.length dc] 26)]) (by kernel_rfl) (hS.out.bot 3) (fun hcur => ?_)
                (try dsimp only at hcur)
                generalize World.drew _ = X at hS H1 H2 hcur ⊢
                refine wpAnyH_take (i := 0) (v := ?_) rfl (by decide +kernel) (by decide +kernel) (by decide +kernel) (fun _ _ _ h => h) (Or.inl ⟨by rfl, ?hy⟩) hcur ?_
                case hy =>
                  intro w1 hSw
                  (try dsimp only at hSw)
                  obtain ⟨x0, x1, x2, x3, x4, x5, x6, x7, -, -, -, -, -, -, -, -⟩ := nd_facts (hSw.has 0 _ _ rfl).1
                  obtain ⟨y0, y1, y2, y3, y4, y5, y6, y7, -, -, -, -, -, -, -, -⟩ := nd_facts (hSw.has 1 _ _ rfl).1
                  go_simp
                  (try with_reducible rfl)
                (try simp only [Act.put, List.getElem_toArray, List.getElem_cons_zero, List.getElem_cons_succ, List.setIfInBounds_toArray, List.set_cons_zero, List.set_cons_succ])
                refine wpAnyH_take (i := 1) (v := ?_) rfl (by decide +kernel) (by decide +kernel) (by decide +kernel) (fun _ _ _ h => h) (Or.inl ⟨by rfl, ?hy⟩) hcur ?_
                case hy =>
                  intro w1 hSw
                  (try dsimp only at hSw)
                  obtain ⟨x0, x1, x2, x3, x4, x5, x6, x7, -, -, -, -, -, -, -, -⟩ := nd_facts (hSw.has 0 _ _ rfl).1
                  obtain ⟨y0, y1, y2, y3, y4, y5, y6, y7, -, -, -, -, -, -, -, -⟩ := nd_facts (hSw.has 1 _ _ rfl).1
                  go_simp
                  (try with_reducible rfl)
                (try simp only [Act.put, List.getElem_toArray, List.getElem_cons_zero, List.getElem_cons_succ, List.setIfInBounds_toArray, List.set_cons_zero, List.set_cons_succ])
                refine wpAnyH_ready (rs := [2]) (by decide +kernel) (by simp) ?_
                refine AllReadyH.cons rfl (fun K hK => ?_) AllReadyH.nil
                obtain ⟨y0, y1, y2, y3, y4, y5, y6, y7, q0, q1, q2, q3, q4, q5, q6, q7⟩ := nd_facts (hS.out.has 1 _ _ rfl).1
                go_simp
                have hZ := hS.out.store 1 rfl (.int .i64 level1) (.string nlow1) (.string high1) (.bool last1) (.int .i64 next1) (.slice A1 keys1.length ca1) (.slice A2 vals1.length cb1) (.slice A3 kids1.length cc1)
                have hZ1 := H1.out.off (set8_off _ (w.heap.size + 1) (.int .i64 level1) (.string nlow1) (.string high1) (.bool last1) (.int .i64 next1) (.slice A1 keys1.length ca1) (.slice A2 vals1.length cb1) (.slice A3 kids1.length cc1)) (fun k q => by omega)
                have hZ2 := H2.out.off (set8_off _ (w.heap.size + 1) (.int .i64 level1) (.string nlow1) (.string high1) (.bool last1) (.int .i64 next1) (.slice A1 keys1.length ca1) (.slice A2 vals1.length cb1) (.slice A3 kids1.length cc1)) (fun k q => by omega)
                simp only [set8] at hZ hZ1 hZ2
                replace hS := Lib.hid hZ
                replace H1 := Lib.hid hZ1
                replace H2 := Lib.hid hZ2
                clear hZ hZ1 hZ2
                simp only [List.cons_append, List.nil_append, List.set_cons_zero, List.set_cons_succ] at hS
                clear y0 y1 y2 y3 y4 y5 y6 y7 q0 q1 q2 q3 q4 q5 q6 q7
                refine hK.out _ _ (hS.out.bot 3) (fun hcur2 => ?_)
                clear hK K
                replace hcur := hcur2
                (try dsimp only at hcur)
                clear hcur2
                (try simp only [Act.put, List.getElem_toArray, List.getElem_cons_zero, List.getElem_cons_succ, List.setIfInBounds_toArray, List.set_cons_zero, List.set_cons_succ])
                generalize World.setCell _ _ _ = X1 at hS H1 H2 hcur ⊢
                refine wpAnyH_ready (rs := [3]) (by decide +kernel) (by simp) ?_
                refine AllReadyH.cons rfl (fun K hK => ?_) AllReadyH.nil
                obtain ⟨y0, y1, y2, y3, y4, y5, y6, y7, q0, q1, q2, q3, q4, q5, q6, q7⟩ := nd_facts (hS.out.has 2 _ _ rfl).1
                go_simp
                have hZ := hS.out.store 2 rfl (.int .i64 level2) (.string nlow2) (.string high2) (.bool last2) (.int .i64 next2) (.slice B1 keys2.length da) (.slice B2 vals2.length db) (.slice B3 kids2.length dc)
                have hZ1 := H1.out.off (set8_off _ (w.heap.size + 1 + 1) (.int .i64 level2) (.string nlow2) (.string high2) (.bool last2) (.int .i64 next2) (.slice B1 keys2.length da) (.slice B2 vals2.length db) (.slice B3 kids2.length dc)) (fun k q => by omega)
                have hZ2 := H2.out.off (set8_off _ (w.heap.size + 1 + 1) (.int .i64 level2) (.string nlow2) (.string high2) (.bool last2) (.int .i64 next2) (.slice B1 keys2.length da) (.slice B2 vals2.length db) (.slice B3 kids2.length dc)) (fun k q => by omega)
                simp only [set8] at hZ hZ1 hZ2
                replace hS := Lib.hid hZ
                replace H1 := Lib.hid hZ1
                replace H2 := Lib.hid hZ2
                clear hZ hZ1 hZ2
                simp only [List.cons_append, List.nil_append, List.set_cons_zero, List.set_cons_succ] at hS
                clear y0 y1 y2 y3 y4 y5 y6 y7 q0 q1 q2 q3 q4 q5 q6 q7
                refine hK.out _ _ (hS.out.bot 3) (fun hcur2 => ?_)
                clear hK K
                replace hcur := hcur2
                (try dsimp only at hcur)
                clear hcur2
                (try simp only [Act.put, List.getElem_toArray, List.getElem_cons_zero, List.getElem_cons_succ, List.setIfInBounds_toArray, List.set_cons_zero, List.set_cons_succ])
                generalize World.setCell _ _ _ = X2 at hS H1 H2 hcur ⊢
                refine wpAnyH_take (i := 4) (v := ?_) rfl (by decide +kernel) (by decide +kernel) (by decide +kernel) (fun _ _ _ h => h) (Or.inl ⟨by rfl, ?hy⟩) hcur ?_
                case hy =>
                  intro w1 hSw
                  (try dsimp only at hSw)
                  obtain ⟨x0, x1, x2, x3, x4, x5, x6, x7, -, -, -, -, -, -, -, -⟩ := nd_facts (hSw.has 0 _ _ rfl).1
                  obtain ⟨y0, y1, y2, y3, y4, y5, y6, y7, -, -, -, -, -, -, -, -⟩ := nd_facts (hSw.has 1 _ _ rfl).1
                  go_simp
                  (try with_reducible rfl)
                (try simp only [Act.put, List.getElem_toArray, List.getElem_cons_zero, List.getElem_cons_succ, List.setIfInBounds_toArray, List.set_cons_zero, List.set_cons_succ])
                refine wpAnyH_done (by decide +kernel) ?_ _
                clear hcur
                have HFI := Lib.hid (And.intro H1.out.lies (And.intro H2.out.lies hS.out.below))
                obtain ⟨x0, x1, x2, x3, x4, x5, x6, x7, f0, f1, f2, f3, f4, f5, f6, f7⟩ := nd_facts (hS.out.has 1 _ _ rfl).1
                obtain ⟨y0, y1, y2, y3, y4, y5, y6, y7, q0, q1, q2, q3, q4, q5, q6, q7⟩ := nd_facts (hS.out.has 2 _ _ rfl).1
                go_wp2_with fail
                exact bodyPost_ret (v := .tuple #[.agg #[.int .i64 level1, .string nlow1, .string high1, .bool last1, .int .i64 next1, .slice A1 keys1.length ca1, .slice A2 vals1.length cb1, .slice A3 kids1.length cc1], .agg #[.int .i64 level2, .string nlow2, .string high2, .bool last2, .int .i64 next2, .slice B1 keys2.length da, .slice B2 vals2.length db, .slice B3 kids2.length dc], .bool true]) (by simp [results, Try.results64, go_sem, *]) rfl ⟨_, _, _, _, _, _, _, _, _, _, _, _, by simp only [ndCells], HFI.out⟩

theorem apart_yes2 {a b : Nd} (h : ∀ q (hq : q < a.kids.length), a.kids[q] ∉ b.kids) : apartB a b = true := by
  refine apart_yes fun q hq hm => ?_
  obtain ⟨p, hp, e⟩ := List.getElem_of_mem hm
  exact h p hp (e ▸ List.getElem_mem hq)
set_option maxRecDepth 100000 in
set_option maxHeartbeats 4000000 in
theorem refneigh_any (a b : Nd) (A B C A' B' C' : Option Addr) (ca cb cc ca' cb' cc' : Nat) (w : World) (h : Lies w a A B C ca cb cc) (k : Lies w b A' B' C' ca' cb' cc') :
    Calls Try.prog 103 #[.agg (ndCells a A B C ca cb cc), .agg (ndCells b A' B' C' ca' cb' cc')] w (Ret (.bool (neighB a b)) w) := by
  have hS := Lib.hid (Sx.start2 w (.cells (ndCells a A B C ca cb cc) 26) (.cells (ndCells b A' B' C' ca' cb' cc') 26))
  have HA := Lib.hid h
  have HB := Lib.hid k
  have HSa := Lib.hid (fun W hW => refsound_any a 64 A B C ca cb cc W hW)
  have HSb := Lib.hid (fun W hW => refsound_any b 64 A' B' C' ca' cb' cc' W hW)
  have hpb : neighB a b = (soundB a 64 && (soundB b 64 && (decide (a.level = b.level) && (!a.last && (decide (a.high = b.low) && apartB a b))))) := rfl
  have HY := Lib.hid (fun (q : ∀ q (hq : q < a.kids.length), a.kids[q] ∉ b.kids) => apart_yes2 q)
  have HN := Lib.hid (fun (q p : Nat) (hq : q < b.kids.length) (hp : p < a.kids.length) (e : b.kids[q] = a.kids[p]) => apart_no hq hp e)
  clear h k
  generalize neighB a b = pb at hpb ⊢
  generalize apartB a b = ap at hpb HY HN
  generalize soundB a 64 = sa at HSa hpb
  generalize soundB b 64 = sb at HSb hpb
  have HPB := Lib.hid hpb
  clear hpb
  obtain ⟨level, nlow, high, last, next, keys, vals, kids⟩ := a
  obtain ⟨level', nlow', high', last', next', keys', vals', kids'⟩ := b
  simp only [] at HPB HY HN
  simp only [ndCells] at hS HSa HSb ⊢
  go_enter Try.func103, Try.ntmps103
  go_upto_region 1 with fail
  generalize (w.alloc _).alloc _ = W at hS ⊢
  obtain ⟨x0, x1, x2, x3, x4, x5, x6, x7, f0, f1, f2, f3, f4, f5, f6, f7⟩ := nd_facts (hS.out.has 0 _ _ rfl).1
  obtain ⟨y0, y1, y2, y3, y4, y5, y6, y7, q0, q1, q2, q3, q4, q5, q6, q7⟩ := nd_facts (hS.out.has 1 _ _ rfl).1
  go_wp2_with fail
  refine (HSa.out _ (HA.out.up hS.out.below)).mono ?_
  rintro e wn ⟨rfl, hbn⟩
  clear x0 x1 x2 x3 x4 x5 x6 x7 f0 f1 f2 f3 f4 f5 f6 f7
  clear y0 y1 y2 y3 y4 y5 y6 y7 q0 q1 q2 q3 q4 q5 q6 q7
  replace hS := Lib.hid (hS.out.call hbn)
  clear hbn
  obtain ⟨x0, x1, x2, x3, x4, x5, x6, x7, f0, f1, f2, f3, f4, f5, f6, f7⟩ := nd_facts (hS.out.has 0 _ _ rfl).1
  obtain ⟨y0, y1, y2, y3, y4, y5, y6, y7, q0, q1, q2, q3, q4, q5, q6, q7⟩ := nd_facts (hS.out.has 1 _ _ rfl).1
  cases sa
  · go_wp2_with fail
    go_ret
    exact ⟨ret_bool (by rw [HPB.out]; rfl), hS.out.below⟩
  · go_wp2_with fail
    refine (HSb.out _ (HB.out.up hS.out.below)).mono ?_
    rintro e wn ⟨rfl, hbn⟩
    clear x0 x1 x2 x3 x4 x5 x6 x7 f0 f1 f2 f3 f4 f5 f6 f7
    clear y0 y1 y2 y3 y4 y5 y6 y7 q0 q1 q2 q3 q4 q5 q6 q7
    replace hS := Lib.hid (hS.out.call hbn)
    clear hbn
    obtain ⟨x0, x1, x2, x3, x4, x5, x6, x7, f0, f1, f2, f3, f4, f5, f6, f7⟩ := nd_facts (hS.out.has 0 _ _ rfl).1
    obtain ⟨y0, y1, y2, y3, y4, y5, y6, y7, q0, q1, q2, q3, q4, q5, q6, q7⟩ := nd_facts (hS.out.has 1 _ _ rfl).1
    clear HSa HSb
    cases sb
    · go_wp2_with fail
      go_ret
      exact ⟨ret_bool (by rw [HPB.out]; rfl), hS.out.below⟩
    · by_cases h1 : level = level'
      · have h1b : (level != level') = false := by simpa using h1
        have H1 := Lib.hid h1
        clear h1
        cases last
        · by_cases h2 : high = nlow'
          · have h2c : (high.toList == nlow'.toList) = true := by rw [txt_eq]; exact decide_eq_true h2
            have h2b : (high.toList != nlow'.toList) = false := by
              rw [bne, h2c]; rfl
            have h2d : high.toList = nlow'.toList := by rw [h2]
            have H2 := Lib.hid h2
            clear h2
            have hlc : kids.length ≤ 9223372036854775807 := HA.out.lc
            have hlc' : kids'.length ≤ 9223372036854775807 := HB.out.lc
            have hk : RdI _ C kids.length kids := (HA.out.up hS.out.below).kids
            have hk' : RdI _ C' kids'.length kids' := (HB.out.up hS.out.below).kids
            have HPR := Lib.hid (show pb = ap by rw [HPB.out, decide_eq_true H1.out, decide_eq_true H2.out]; rfl)
            clear HPB H1 H2
            have hlc : kids.length ≤ 9223372036854775807 := HA.out.lc
            have hlc' : kids'.length ≤ 9223372036854775807 := HB.out.lc
            go_wp2_with fail
            go_loopw [5, 6] (fun i _ wr => ∃ j : Nat, i = .int .i64 j ∧ Hid (j ≤ kids.length ∧ (∀ (q : Nat) (hq : q < kids.length), q < j → kids[q] ∉ kids') ∧ Sx w.heap.size w wr [(w.heap.size, .cells #[.int .i64 level, .string nlow, .string high, .bool false, .int .i64 next, .slice A keys.length ca, .slice B vals.length cb, .slice C kids.length cc] 26), (w.heap.size + 1, .cells #[.int .i64 level', .string nlow', .string high', .bool last', .int .i64 next', .slice A' keys'.length ca', .slice B' vals'.length cb', .slice C' kids'.length cc'] 26)])) (fun i _ _ => kids.length - (intOf i).toNat)
            case atStart => exact ⟨0, rfl, Nat.zero_le _, fun q _ hq => absurd hq (Nat.not_lt_zero _), hS.out⟩
            case round =>
              obtain ⟨j, rfl, H⟩ := hrel
              clear x0 x1 x2 x3 x4 x5 x6 x7 f0 f1 f2 f3 f4 f5 f6 f7
              clear y0 y1 y2 y3 y4 y5 y6 y7 q0 q1 q2 q3 q4 q5 q6 q7
              clear hS
              have hS := Lib.hid H.out.2.2
              obtain ⟨x0, x1, x2, x3, x4, x5, x6, x7, f0, f1, f2, f3, f4, f5, f6, f7⟩ := nd_facts (hS.out.has 0 _ _ rfl).1
              obtain ⟨y0, y1, y2, y3, y4, y5, y6, y7, q0, q1, q2, q3, q4, q5, q6, q7⟩ := nd_facts (hS.out.has 1 _ _ rfl).1
              by_cases hlt : j < kids.length
              · have hpre := Lib.hid H.out.2.1
                clear H
                have hkA : RdI w C kids.length kids := HA.out.kids
                obtain ⟨b, off, rfl, hbB, hc⟩ := hkA.spot (by omega)
                have HB1 := Lib.hid (And.intro hbB (hc j hlt))
                have HNX := Lib.hid (fun (q1 : kids[j] ∉ kids') (q : Nat) (hq : q < kids.length) (hqj : q < j + 1) => show kids[q] ∉ kids' from by
                  rcases Nat.lt_succ_iff_lt_or_eq.1 hqj with g | rfl
                  · exact hpre.out q hq g
                  · exact q1)
                have HNj := Lib.hid (fun (p : Nat) (hp : p < kids'.length) (e : kids'[p] = kids[j]) => HN.out p j hp hlt e)
                clear hc hpre hbB hkA
                generalize kids[j] = kj at HB1 HNX HNj
                go_wp2_with fail
                go_loopw [6] (fun i wr => ∃ k : Nat, i = .int .i64 k ∧ Hid (k ≤ kids'.length ∧ (∀ (q : Nat) (hq : q < kids'.length), q < k → kj ≠ kids'[q]) ∧ Sx w.heap.size w wr [(w.heap.size, .cells #[.int .i64 level, .string nlow, .string high, .bool false, .int .i64 next, .slice A keys.length ca, .slice B vals.length cb, .slice (some ⟨b, off, none⟩) kids.length cc] 26), (w.heap.size + 1, .cells #[.int .i64 level', .string nlow', .string high', .bool last', .int .i64 next', .slice A' keys'.length ca', .slice B' vals'.length cb', .slice C' kids'.length cc'] 26)])) (fun i _ => kids'.length - (intOf i).toNat)
                case atStart => exact ⟨0, rfl, Nat.zero_le _, fun q _ hq => absurd hq (Nat.not_lt_zero _), hS.out⟩
                case round =>
                  obtain ⟨k, rfl, H⟩ := hrel
                  clear x0 x1 x2 x3 x4 x5 x6 x7 f0 f1 f2 f3 f4 f5 f6 f7
                  clear y0 y1 y2 y3 y4 y5 y6 y7 q0 q1 q2 q3 q4 q5 q6 q7
                  clear hS
                  have hS := Lib.hid H.out.2.2
                  obtain ⟨x0, x1, x2, x3, x4, x5, x6, x7, f0, f1, f2, f3, f4, f5, f6, f7⟩ := nd_facts (hS.out.has 0 _ _ rfl).1
                  obtain ⟨y0, y1, y2, y3, y4, y5, y6, y7, q0, q1, q2, q3, q4, q5, q6, q7⟩ := nd_facts (hS.out.has 1 _ _ rfl).1
                  by_cases hlt2 : k < kids'.length
                  · have hpre := Lib.hid H.out.2.1
                    clear H
                    have hkB : RdI w C' kids'.length kids' := HB.out.kids
                    obtain ⟨b', off', rfl, hbB', hc'⟩ := hkB.spot (by omega)
                    have h9 := hc' k hlt2
                    have HE := Lib.hid (show kj ≠ kids'[k] → ∀ (q : Nat) (hq : q < kids'.length), q < k + 1 → kj ≠ kids'[q] from fun hs q hq hqp => by
                      rcases Nat.lt_succ_iff_lt_or_eq.1 hqp with g | rfl
                      · exact hpre.out q hq g
                      · exact hs)
                    have HNk := Lib.hid (HNj.out k hlt2)
                    generalize kids'[k] = kk at h9 HE HNk
                    have HB1' := Lib.hid (And.intro (Nat.lt_of_lt_of_le HB1.out.1 hS.out.below.size) ((hS.out.below.cell (p := ⟨b, off + j, none⟩) HB1.out.1).trans HB1.out.2))
                    have HB2' := Lib.hid (And.intro (Nat.lt_of_lt_of_le hbB' hS.out.below.size) ((hS.out.below.cell (p := ⟨b', off' + k, none⟩) hbB').trans h9))
                    clear hc' hpre hbB' hkB h9
                    go_upto_region 9 with fail
                    clear x0 x1 x2 x3 x4 x5 x6 x7 f0 f1 f2 f3 f4 f5 f6 f7
                    clear y0 y1 y2 y3 y4 y5 y6 y7 q0 q1 q2 q3 q4 q5 q6 q7
                    generalize wr = W at hS HB1' HB2' ⊢
                    clear HB1
                    have HB1 := HB1'
                    have HB2 := HB2'
                    clear HB1' HB2'
                    refine wp_region_held_drew (S := fun w' => Below W.heap.size W w') (by kernel_rfl) (Below.drew (Below.refl _ _)) (fun hcur => ?_)
                    replace hcur : Below W.heap.size W W.drew := hcur
                    refine wpAnyH_take (i := 0) (v := ?_) rfl (by decide +kernel) (by decide +kernel) (by decide +kernel) (fun _ _ _ h => h) (Or.inl ⟨by rfl, ?hy⟩) hcur ?_
                    case hy =>
                      intro w1 hSw
                      replace hSw : Below W.heap.size W w1 := hSw
                      obtain ⟨x0, x1, x2, x3, x4, x5, x6, x7, -, -, -, -, -, -, -, -⟩ := nd_facts ((hS.out.call hSw).has 0 _ _ rfl).1
                      obtain ⟨y0, y1, y2, y3, y4, y5, y6, y7, -, -, -, -, -, -, -, -⟩ := nd_facts ((hS.out.call hSw).has 1 _ _ rfl).1
                      have cj := (hSw.cell (p := ⟨b, off + j, none⟩) HB1.out.1).trans HB1.out.2
                      have dj := (hSw.cell (p := ⟨b', off' + k, none⟩) HB2.out.1).trans HB2.out.2
                      go_simp
                      (try with_reducible rfl)
                    (try simp only [Act.put, List.getElem_toArray, List.getElem_cons_zero, List.getElem_cons_succ, List.setIfInBounds_toArray, List.set_cons_zero, List.set_cons_succ])
                    refine wpAnyH_take (i := 1) (v := ?_) rfl (by decide +kernel) (by decide +kernel) (by decide +kernel) (fun _ _ _ h => h) (Or.inl ⟨by rfl, ?hy⟩) hcur ?_
                    case hy =>
                      intro w1 hSw
                      replace hSw : Below W.heap.size W w1 := hSw
                      obtain ⟨x0, x1, x2, x3, x4, x5, x6, x7, -, -, -, -, -, -, -, -⟩ := nd_facts ((hS.out.call hSw).has 0 _ _ rfl).1
                      obtain ⟨y0, y1, y2, y3, y4, y5, y6, y7, -, -, -, -, -, -, -, -⟩ := nd_facts ((hS.out.call hSw).has 1 _ _ rfl).1
                      have cj := (hSw.cell (p := ⟨b, off + j, none⟩) HB1.out.1).trans HB1.out.2
                      have dj := (hSw.cell (p := ⟨b', off' + k, none⟩) HB2.out.1).trans HB2.out.2
                      go_simp
                      (try with_reducible rfl)
                    (try simp only [Act.put, List.getElem_toArray, List.getElem_cons_zero, List.getElem_cons_succ, List.setIfInBounds_toArray, List.set_cons_zero, List.set_cons_succ])
                    refine wpAnyH_take (i := 2) (v := ?_) rfl (by decide +kernel) (by decide +kernel) (by decide +kernel) (fun _ _ _ h => h) (Or.inl ⟨by rfl, ?hy⟩) hcur ?_
                    case hy =>
                      intro w1 hSw
                      replace hSw : Below W.heap.size W w1 := hSw
                      obtain ⟨x0, x1, x2, x3, x4, x5, x6, x7, -, -, -, -, -, -, -, -⟩ := nd_facts ((hS.out.call hSw).has 0 _ _ rfl).1
                      obtain ⟨y0, y1, y2, y3, y4, y5, y6, y7, -, -, -, -, -, -, -, -⟩ := nd_facts ((hS.out.call hSw).has 1 _ _ rfl).1
                      have cj := (hSw.cell (p := ⟨b, off + j, none⟩) HB1.out.1).trans HB1.out.2
                      have dj := (hSw.cell (p := ⟨b', off' + k, none⟩) HB2.out.1).trans HB2.out.2
                      go_simp
                      (try with_reducible rfl)
                    (try simp only [Act.put, List.getElem_toArray, List.getElem_cons_zero, List.getElem_cons_succ, List.setIfInBounds_toArray, List.set_cons_zero, List.set_cons_succ])
                    refine wpAnyH_take (i := 3) (v := ?_) rfl (by decide +kernel) (by decide +kernel) (by decide +kernel) (fun _ _ _ h => h) (Or.inl ⟨by rfl, ?hy⟩) hcur ?_
                    case hy =>
                      intro w1 hSw
                      replace hSw : Below W.heap.size W w1 := hSw
                      obtain ⟨x0, x1, x2, x3, x4, x5, x6, x7, -, -, -, -, -, -, -, -⟩ := nd_facts ((hS.out.call hSw).has 0 _ _ rfl).1
                      obtain ⟨y0, y1, y2, y3, y4, y5, y6, y7, -, -, -, -, -, -, -, -⟩ := nd_facts ((hS.out.call hSw).has 1 _ _ rfl).1
                      have cj := (hSw.cell (p := ⟨b, off + j, none⟩) HB1.out.1).trans HB1.out.2
                      have dj := (hSw.cell (p := ⟨b', off' + k, none⟩) HB2.out.1).trans HB2.out.2
                      go_simp
                      (try with_reducible rfl)
                    (try simp only [Act.put, List.getElem_toArray, List.getElem_cons_zero, List.getElem_cons_succ, List.setIfInBounds_toArray, List.set_cons_zero, List.set_cons_succ])
                    refine wpAnyH_take (i := 4) (v := ?_) rfl (by decide +kernel) (by decide +kernel) (by decide +kernel) (fun _ _ _ h => h) (Or.inl ⟨by rfl, ?hy⟩) hcur ?_
                    case hy =>
                      intro w1 hSw
                      replace hSw : Below W.heap.size W w1 := hSw
                      obtain ⟨x0, x1, x2, x3, x4, x5, x6, x7, -, -, -, -, -, -, -, -⟩ := nd_facts ((hS.out.call hSw).has 0 _ _ rfl).1
                      obtain ⟨y0, y1, y2, y3, y4, y5, y6, y7, -, -, -, -, -, -, -, -⟩ := nd_facts ((hS.out.call hSw).has 1 _ _ rfl).1
                      have cj := (hSw.cell (p := ⟨b, off + j, none⟩) HB1.out.1).trans HB1.out.2
                      have dj := (hSw.cell (p := ⟨b', off' + k, none⟩) HB2.out.1).trans HB2.out.2
                      go_simp
                      (try with_reducible rfl)
                    (try simp only [Act.put, List.getElem_toArray, List.getElem_cons_zero, List.getElem_cons_succ, List.setIfInBounds_toArray, List.set_cons_zero, List.set_cons_succ])
                    refine wpAnyH_take (i := 5) (v := ?_) rfl (by decide +kernel) (by decide +kernel) (by decide +kernel) (fun _ _ _ h => h) (Or.inl ⟨by rfl, ?hy⟩) hcur ?_
                    case hy =>
                      intro w1 hSw
                      replace hSw : Below W.heap.size W w1 := hSw
                      obtain ⟨x0, x1, x2, x3, x4, x5, x6, x7, -, -, -, -, -, -, -, -⟩ := nd_facts ((hS.out.call hSw).has 0 _ _ rfl).1
                      obtain ⟨y0, y1, y2, y3, y4, y5, y6, y7, -, -, -, -, -, -, -, -⟩ := nd_facts ((hS.out.call hSw).has 1 _ _ rfl).1
                      have cj := (hSw.cell (p := ⟨b, off + j, none⟩) HB1.out.1).trans HB1.out.2
                      have dj := (hSw.cell (p := ⟨b', off' + k, none⟩) HB2.out.1).trans HB2.out.2
                      go_simp
                      (try with_reducible rfl)
                    (try simp only [Act.put, List.getElem_toArray, List.getElem_cons_zero, List.getElem_cons_succ, List.setIfInBounds_toArray, List.set_cons_zero, List.set_cons_succ])
                    refine wpAnyH_take (i := 6) (v := ?_) rfl (by decide +kernel) (by decide +kernel) (by decide +kernel) (fun _ _ _ h => h) (Or.inl ⟨by rfl, ?hy⟩) hcur ?_
                    case hy =>
                      intro w1 hSw
                      replace hSw : Below W.heap.size W w1 := hSw
                      obtain ⟨x0, x1, x2, x3, x4, x5, x6, x7, -, -, -, -, -, -, -, -⟩ := nd_facts ((hS.out.call hSw).has 0 _ _ rfl).1
                      obtain ⟨y0, y1, y2, y3, y4, y5, y6, y7, -, -, -, -, -, -, -, -⟩ := nd_facts ((hS.out.call hSw).has 1 _ _ rfl).1
                      have cj := (hSw.cell (p := ⟨b, off + j, none⟩) HB1.out.1).trans HB1.out.2
                      have dj := (hSw.cell (p := ⟨b', off' + k, none⟩) HB2.out.1).trans HB2.out.2
                      go_simp
                      (try with_reducible rfl)
                    (try simp only [Act.put, List.getElem_toArray, List.getElem_cons_zero, List.getElem_cons_succ, List.setIfInBounds_toArray, List.set_cons_zero, List.set_cons_succ])
                    refine wpAnyH_take (i := 7) (v := ?_) rfl (by decide +kernel) (by decide +kernel) (by decide +kernel) (fun _ _ _ h => h) (Or.inl ⟨by rfl, ?hy⟩) hcur ?_
                    case hy =>
                      intro w1 hSw
                      replace hSw : Below W.heap.size W w1 := hSw
                      obtain ⟨x0, x1, x2, x3, x4, x5, x6, x7, -, -, -, -, -, -, -, -⟩ := nd_facts ((hS.out.call hSw).has 0 _ _ rfl).1
                      obtain ⟨y0, y1, y2, y3, y4, y5, y6, y7, -, -, -, -, -, -, -, -⟩ := nd_facts ((hS.out.call hSw).has 1 _ _ rfl).1
                      have cj := (hSw.cell (p := ⟨b, off + j, none⟩) HB1.out.1).trans HB1.out.2
                      have dj := (hSw.cell (p := ⟨b', off' + k, none⟩) HB2.out.1).trans HB2.out.2
                      go_simp
                      (try with_reducible rfl)
                    (try simp only [Act.put, List.getElem_toArray, List.getElem_cons_zero, List.getElem_cons_succ, List.setIfInBounds_toArray, List.set_cons_zero, List.set_cons_succ])
                    refine wpAnyH_take (i := 8) (v := ?_) rfl (by decide +kernel) (by decide +kernel) (by decide +kernel) (fun _ _ _ h => h) (Or.inl ⟨by rfl, ?hy⟩) hcur ?_
                    case hy =>
                      intro w1 hSw
                      replace hSw : Below W.heap.size W w1 := hSw
                      obtain ⟨x0, x1, x2, x3, x4, x5, x6, x7, -, -, -, -, -, -, -, -⟩ := nd_facts ((hS.out.call hSw).has 0 _ _ rfl).1
                      obtain ⟨y0, y1, y2, y3, y4, y5, y6, y7, -, -, -, -, -, -, -, -⟩ := nd_facts ((hS.out.call hSw).has 1 _ _ rfl).1
                      have cj := (hSw.cell (p := ⟨b, off + j, none⟩) HB1.out.1).trans HB1.out.2
                      have dj := (hSw.cell (p := ⟨b', off' + k, none⟩) HB2.out.1).trans HB2.out.2
                      go_simp
                      (try with_reducible rfl)
                    (try simp only [Act.put, List.getElem_toArray, List.getElem_cons_zero, List.getElem_cons_succ, List.setIfInBounds_toArray, List.set_cons_zero, List.set_cons_succ])
                    refine wpAnyH_take (i := 9) (v := ?_) rfl (by decide +kernel) (by decide +kernel) (by decide +kernel) (fun _ _ _ h => h) (Or.inl ⟨by rfl, ?hy⟩) hcur ?_
                    case hy =>
                      intro w1 hSw
                      replace hSw : Below W.heap.size W w1 := hSw
                      obtain ⟨x0, x1, x2, x3, x4, x5, x6, x7, -, -, -, -, -, -, -, -⟩ := nd_facts ((hS.out.call hSw).has 0 _ _ rfl).1
                      obtain ⟨y0, y1, y2, y3, y4, y5, y6, y7, -, -, -, -, -, -, -, -⟩ := nd_facts ((hS.out.call hSw).has 1 _ _ rfl).1
                      have cj := (hSw.cell (p := ⟨b, off + j, none⟩) HB1.out.1).trans HB1.out.2
                      have dj := (hSw.cell (p := ⟨b', off' + k, none⟩) HB2.out.1).trans HB2.out.2
                      go_simp
                      (try with_reducible rfl)
                    (try simp only [Act.put, List.getElem_toArray, List.getElem_cons_zero, List.getElem_cons_succ, List.setIfInBounds_toArray, List.set_cons_zero, List.set_cons_succ])
                    by_cases hs : kj = kk
                    · have HF := Lib.hid (HNk.out hs.symm)
                      have hs2 : (kj == kk) = true := beq_iff_eq.2 hs
                      clear hs
                      refine wpAnyH_take (i := 10) (v := ?_) rfl (by decide +kernel) (by decide +kernel) (by decide +kernel) (fun _ _ _ h => h) (Or.inl ⟨by rfl, ?hy⟩) hcur ?_
                      case hy =>
                        intro w1 hSw
                        replace hSw : Below W.heap.size W w1 := hSw
                        obtain ⟨x0, x1, x2, x3, x4, x5, x6, x7, -, -, -, -, -, -, -, -⟩ := nd_facts ((hS.out.call hSw).has 0 _ _ rfl).1
                        obtain ⟨y0, y1, y2, y3, y4, y5, y6, y7, -, -, -, -, -, -, -, -⟩ := nd_facts ((hS.out.call hSw).has 1 _ _ rfl).1
                        have cj := (hSw.cell (p := ⟨b, off + j, none⟩) HB1.out.1).trans HB1.out.2
                        have dj := (hSw.cell (p := ⟨b', off' + k, none⟩) HB2.out.1).trans HB2.out.2
                        go_simp
                        (try with_reducible rfl)
                      (try simp only [Act.put, List.getElem_toArray, List.getElem_cons_zero, List.getElem_cons_succ, List.setIfInBounds_toArray, List.set_cons_zero, List.set_cons_succ])
                      refine wpAnyH_done (by decide +kernel) ?_ _
                      go_wp2_with fail
                      go_ret
                      exact ⟨ret_bool (by rw [HPR.out, HF.out]), (hS.out.call hcur).below⟩
                    · have HG := Lib.hid (HE.out hs)
                      have hs2 : (kj == kk) = false := by simpa using hs
                      clear hs
                      refine wpAnyH_take (i := 10) (v := ?_) rfl (by decide +kernel) (by decide +kernel) (by decide +kernel) (fun _ _ _ h => h) (Or.inl ⟨by rfl, ?hy⟩) hcur ?_
                      case hy =>
                        intro w1 hSw
                        replace hSw : Below W.heap.size W w1 := hSw
                        obtain ⟨x0, x1, x2, x3, x4, x5, x6, x7, -, -, -, -, -, -, -, -⟩ := nd_facts ((hS.out.call hSw).has 0 _ _ rfl).1
                        obtain ⟨y0, y1, y2, y3, y4, y5, y6, y7, -, -, -, -, -, -, -, -⟩ := nd_facts ((hS.out.call hSw).has 1 _ _ rfl).1
                        have cj := (hSw.cell (p := ⟨b, off + j, none⟩) HB1.out.1).trans HB1.out.2
                        have dj := (hSw.cell (p := ⟨b', off' + k, none⟩) HB2.out.1).trans HB2.out.2
                        go_simp
                        (try with_reducible rfl)
                      (try simp only [Act.put, List.getElem_toArray, List.getElem_cons_zero, List.getElem_cons_succ, List.setIfInBounds_toArray, List.set_cons_zero, List.set_cons_succ])
                      refine wpAnyH_done (by decide +kernel) ?_ _
                      go_wp2_with fail
                      go_roundw
                      case rel => exact ⟨k + 1, by go_num, by omega, HG.out, hS.out.call hcur⟩
                      case measure => simp [intOf]; omega
                  · have HE := Lib.hid (HNX.out (not_mem_of fun q hq => H.out.2.1 q hq (by omega)))
                    clear H
                    go_wp2_with fail
                    go_roundw
                    case rel => exact ⟨j + 1, by go_num, by omega, HE.out, hS.out⟩
                    case measure => simp [intOf]; omega
              · have HF := Lib.hid (HY.out fun q hq => H.out.2.1 q hq (by omega))
                clear H
                go_wp2_with fail
                go_ret
                exact ⟨ret_bool (by rw [HPR.out, HF.out]), hS.out.below⟩
          · have h2c : (high.toList == nlow'.toList) = false := by rw [txt_eq]; exact decide_eq_false h2
            have h2b : (high.toList != nlow'.toList) = true := by
              rw [bne, h2c]; rfl
            have h2d : ¬ high.toList = nlow'.toList := by simpa using h2c
            have H2 := Lib.hid h2
            clear h2
            go_wp2_with fail
            go_ret
            exact ⟨ret_bool (by rw [HPB.out, decide_eq_false H2.out]; simp), hS.out.below⟩
        · go_wp2_with fail
          go_ret
          exact ⟨ret_bool (by rw [HPB.out]; simp), hS.out.below⟩
      · have h1b : (level != level') = true := by simpa using h1
        have H1 := Lib.hid h1
        clear h1
        go_wp2_with fail
        go_ret
        exact ⟨ret_bool (by rw [HPB.out, decide_eq_false H1.out]; rfl), hS.out.below⟩

end Go.Proofs.Ytcoiadncennhpaa
