/- Contracts of package halve: Even. -/
import Derived.Test.YtcoiadncennhpaaHal5
namespace Go.Proofs.Ytcoiadncennhpaa
open Go.RowKit

theorem Sx.start4b (w : World) (a b c d : Obj) : Sx w.heap.size w ((((w.alloc a).alloc b).alloc c).alloc d) [(w.heap.size, a), (w.heap.size + 1, b), (w.heap.size + 1 + 1, c), (w.heap.size + 1 + 1 + 1, d)] := Sx.start4 w a b c d
theorem evenD_no {a b : Nd} (h : evenB a b = false) : evenD a b = (false, zeroN, zeroN) := if_neg (by rw [h]; exact Bool.false_ne_true)
theorem evenD_yes {a b : Nd} (h : evenB a b = true) : evenD a b = (true, partL (bothN a b) a.next, partR (bothN a b)) := if_pos h
theorem both_lens {a b : Nd} (h : neighB a b = true) : (bothN a b).keys.length = a.keys.length + b.keys.length ∧ (bothN a b).keys.length ≤ 1000 ∧ (bothN a b).vals.length ≤ 1000 ∧ (bothN a b).kids.length ≤ 1000 := by
  unfold neighB at h
  simp only [Bool.and_eq_true] at h
  have h1 := snd_lens h.1 (by omega)
  have h2 := snd_lens h.2.1 (by omega)
  show (a.keys ++ b.keys).length = a.keys.length + b.keys.length ∧ (a.keys ++ b.keys).length ≤ 1000 ∧ (a.vals ++ b.vals).length ≤ 1000 ∧ (a.kids ++ b.kids).length ≤ 1000
  rw [List.length_append, List.length_append, List.length_append]
  omega

set_option maxRecDepth 100000 in
set_option maxHeartbeats 16000000 in
theorem even_any (a b : Nd) (A B C A' B' C' : Option Addr) (ca cb cc ca' cb' cc' : Nat) (w : World) (h : Lies w a A B C ca cb cc) (k : Lies w b A' B' C' ca' cb' cc') :
    Calls Try.prog 51 #[.agg (ndCells a A B C ca cb cc), .agg (ndCells b A' B' C' ca' cb' cc')] w (P2Ret (evenD a b) w) := by
  have hS := Lib.hid (Sx.start4b w (.cells (ndCells a A B C ca cb cc) 26) (.cells (ndCells b A' B' C' ca' cb' cc') 26) (.cells #[.int .i64 0, .string ⟨#[]⟩, .string ⟨#[]⟩, .bool false, .int .i64 0, .slice none 0 0, .slice none 0 0, .slice none 0 0] 26) (.cells #[.int .i64 0, .string ⟨#[]⟩, .string ⟨#[]⟩, .bool false, .int .i64 0, .slice none 0 0, .slice none 0 0, .slice none 0 0] 26))
  have HA := Lib.hid h
  have HB := Lib.hid k
  have HNb := Lib.hid (fun W hW kW => neighbours_any a b A B C A' B' C' ca cb cc ca' cb' cc' W hW kW)
  have HBo := Lib.hid (fun W hW kW (q : neighB a b = true) => both_any a b A B C A' B' C' ca cb cc ca' cb' cc' W hW kW (neigh_lens q).1 (neigh_lens q).2)
  have HPa := Lib.hid (fun (A B C : Option Addr) (ca cb cc : Nat) W (hW : Lies W (bothN a b) A B C ca cb cc) (q : neighB a b = true) (q2 : 2 ≤ a.keys.length + b.keys.length) => part_any (bothN a b) a.next A B C ca cb cc W hW (by rw [(both_lens q).1]; exact q2) (both_lens q).2.1 (both_lens q).2.2.1 (both_lens q).2.2.2)
  have hpb : evenB a b = (neighB a b && decide (2 ≤ a.keys.length + b.keys.length)) := rfl
  have hno := Lib.hid (fun (q : evenB a b = false) => evenD_no q)
  have hyes := Lib.hid (fun (q : evenB a b = true) => evenD_yes q)
  have hln := Lib.hid (fun (q : neighB a b = true) => neigh_lens q)
  clear h k
  generalize hon : evenD a b = o at hno hyes ⊢
  clear hon
  generalize evenB a b = pb at hpb hno hyes
  generalize neighB a b = nb at hpb HNb HBo hln HPa
  generalize partL (bothN a b) a.next = pl at hyes HPa
  generalize partR (bothN a b) = pr at hyes HPa
  generalize bothN a b = bo at HBo HPa
  have HPB := Lib.hid hpb
  clear hpb
  obtain ⟨level, nlow, high, last, next, keys, vals, kids⟩ := a
  obtain ⟨level', nlow', high', last', next', keys', vals', kids'⟩ := b
  simp only [] at HPB hln HPa
  simp only [ndCells] at hS HNb HBo ⊢
  go_enter Try.func51, Try.ntmps51
  go_upto_region 1 with fail
  generalize (((w.alloc _).alloc _).alloc _).alloc _ = W at hS ⊢
  obtain ⟨x0, x1, x2, x3, x4, x5, x6, x7, f0, f1, f2, f3, f4, f5, f6, f7⟩ := nd_facts (hS.out.has 0 _ _ rfl).1
  obtain ⟨y0, y1, y2, y3, y4, y5, y6, y7, q0, q1, q2, q3, q4, q5, q6, q7⟩ := nd_facts (hS.out.has 1 _ _ rfl).1
  go_wp2_with fail
  refine (HNb.out _ (HA.out.up hS.out.below) (HB.out.up hS.out.below)).mono ?_
  rintro e wn ⟨rfl, hbn⟩
  clear x0 x1 x2 x3 x4 x5 x6 x7 f0 f1 f2 f3 f4 f5 f6 f7
  clear y0 y1 y2 y3 y4 y5 y6 y7 q0 q1 q2 q3 q4 q5 q6 q7
  replace hS := Lib.hid (hS.out.call hbn)
  clear hbn
  obtain ⟨x0, x1, x2, x3, x4, x5, x6, x7, f0, f1, f2, f3, f4, f5, f6, f7⟩ := nd_facts (hS.out.has 0 _ _ rfl).1
  obtain ⟨y0, y1, y2, y3, y4, y5, y6, y7, q0, q1, q2, q3, q4, q5, q6, q7⟩ := nd_facts (hS.out.has 1 _ _ rfl).1
  cases nb
  · obtain rfl : o = (false, zeroN, zeroN) := hno.out (by rw [HPB.out]; rfl)
    obtain ⟨s0, s1, s2, s3, s4, s5, s6, s7, t0, t1, t2, t3, t4, t5, t6, t7⟩ := nd_facts (hS.out.has 2 _ _ rfl).1
    obtain ⟨z0, z1, z2, z3, z4, z5, z6, z7, r0, r1, r2, r3, r4, r5, r6, r7⟩ := nd_facts (hS.out.has 3 _ _ rfl).1
    have hZ := ((hS.out.store 2 rfl (.int .i64 0) (.string ⟨#[]⟩) (.string ⟨#[]⟩) (.bool false) (.int .i64 0) (.slice none 0 0) (.slice none 0 0) (.slice none 0 0)).store 3 rfl (.int .i64 0) (.string ⟨#[]⟩) (.string ⟨#[]⟩) (.bool false) (.int .i64 0) (.slice none 0 0) (.slice none 0 0) (.slice none 0 0)).below
    simp only [set8] at hZ
    have HZ := Lib.hid hZ
    clear hZ
    go_wp2_with fail
    exact bodyPost_ret (v := .tuple #[.agg #[.int .i64 0, .string ⟨#[]⟩, .string ⟨#[]⟩, .bool false, .int .i64 0, .slice none 0 0, .slice none 0 0, .slice none 0 0], .agg #[.int .i64 0, .string ⟨#[]⟩, .string ⟨#[]⟩, .bool false, .int .i64 0, .slice none 0 0, .slice none 0 0, .slice none 0 0], .bool false]) (by simp [results, Try.results51, go_sem, *]) rfl ⟨none, none, none, none, none, none, 0, 0, 0, 0, 0, 0, rfl, zero_lies _, zero_lies _, HZ.out⟩
  · have hlk := hln.out (by trivial)
    have hms : wrap64 ((keys.length : Int) + (keys'.length : Int)) = (keys.length : Int) + (keys'.length : Int) := by unfold wrap64; omega
    by_cases h3 : keys.length + keys'.length < 2
    · obtain rfl : o = (false, zeroN, zeroN) := hno.out (by rw [HPB.out, decide_eq_false (p := 2 ≤ keys.length + keys'.length) (by omega)]; rfl)
      have h3b : decide ((keys.length : Int) + (keys'.length : Int) < 2) = true := decide_eq_true (by omega)
      clear hlk h3
      obtain ⟨s0, s1, s2, s3, s4, s5, s6, s7, t0, t1, t2, t3, t4, t5, t6, t7⟩ := nd_facts (hS.out.has 2 _ _ rfl).1
      obtain ⟨z0, z1, z2, z3, z4, z5, z6, z7, r0, r1, r2, r3, r4, r5, r6, r7⟩ := nd_facts (hS.out.has 3 _ _ rfl).1
      have hZ := ((hS.out.store 2 rfl (.int .i64 0) (.string ⟨#[]⟩) (.string ⟨#[]⟩) (.bool false) (.int .i64 0) (.slice none 0 0) (.slice none 0 0) (.slice none 0 0)).store 3 rfl (.int .i64 0) (.string ⟨#[]⟩) (.string ⟨#[]⟩) (.bool false) (.int .i64 0) (.slice none 0 0) (.slice none 0 0) (.slice none 0 0)).below
      simp only [set8] at hZ
      have HZ := Lib.hid hZ
      clear hZ
      go_wp2_with fail
      exact bodyPost_ret (v := .tuple #[.agg #[.int .i64 0, .string ⟨#[]⟩, .string ⟨#[]⟩, .bool false, .int .i64 0, .slice none 0 0, .slice none 0 0, .slice none 0 0], .agg #[.int .i64 0, .string ⟨#[]⟩, .string ⟨#[]⟩, .bool false, .int .i64 0, .slice none 0 0, .slice none 0 0, .slice none 0 0], .bool false]) (by simp [results, Try.results51, go_sem, *]) rfl ⟨none, none, none, none, none, none, 0, 0, 0, 0, 0, 0, rfl, zero_lies _, zero_lies _, HZ.out⟩
    · have h3b : decide ((keys.length : Int) + (keys'.length : Int) < 2) = false := decide_eq_false (by omega)
      have H3 := Lib.hid (show 2 ≤ keys.length + keys'.length by omega)
      obtain rfl := hyes.out (by rw [HPB.out, decide_eq_true H3.out]; rfl)
      clear hlk h3
      go_upto_region 3 with fail
      clear h3b hms
      clear x0 x1 x2 x3 x4 x5 x6 x7 f0 f1 f2 f3 f4 f5 f6 f7
      clear y0 y1 y2 y3 y4 y5 y6 y7 q0 q1 q2 q3 q4 q5 q6 q7
      generalize wn = W3 at hS ⊢
      have hd := Below.drew (Below.refl W3.heap.size W3)
      replace hS := Lib.hid (hS.out.call hd)
      clear hd
      refine wp_region_held_drew (S := fun w' => Sx w.heap.size w w' [(w.heap.size, .cells #[.int .i64 level, .string nlow, .string high, .bool last, .int .i64 next, .slice A keys.length ca, .slice B vals.length cb, .slice C kids.length cc] 26), (w.heap.size + 1, .cells #[.int .i64 level', .string nlow', .string high', .bool last', .int .i64 next', .slice A' keys'.length ca', .slice B' vals'.length cb', .slice C' kids'.length cc'] 26)]) (by kernel_rfl) (hS.out.top 2) (fun hcur => ?_)
      (try dsimp only at hcur)
      generalize W3.drew = X at hS hcur ⊢
      refine wpAnyH_take (i := 0) (v := ?_) rfl (by decide +kernel) (by decide +kernel) (by decide +kernel) (fun _ _ _ h => h) (Or.inl ⟨by rfl, ?hy⟩) hcur ?_
      case hy =>
        intro w1 hSw
        (try dsimp only at hSw)
        obtain ⟨x0, x1, x2, x3, x4, x5, x6, x7, -, -, -, -, -, -, -, -⟩ := nd_facts (hSw.has 0 _ _ rfl).1
        obtain ⟨y0, y1, y2, y3, y4, y5, y6, y7, -, -, -, -, -, -, -, -⟩ := nd_facts (hSw.has 1 _ _ rfl).1
        go_simp
        (try with_reducible rfl)
      (try simp only [Act.put, List.getElem_toArray, List.getElem_cons_zero, List.getElem_cons_succ, List.setIfInBounds_toArray, List.set_cons_zero, List.set_cons_succ])
      refine wpAnyH_take (i := 1) (v := ?_) rfl (by decide +kernel) (by decide +kernel) (by decide +kernel) (fun _ _ _ h => h) (Or.inl ⟨by rfl, ?hy⟩) hcur ?_
      case hy =>
        intro w1 hSw
        (try dsimp only at hSw)
        obtain ⟨x0, x1, x2, x3, x4, x5, x6, x7, -, -, -, -, -, -, -, -⟩ := nd_facts (hSw.has 0 _ _ rfl).1
        obtain ⟨y0, y1, y2, y3, y4, y5, y6, y7, -, -, -, -, -, -, -, -⟩ := nd_facts (hSw.has 1 _ _ rfl).1
        go_simp
        (try with_reducible rfl)
      (try simp only [Act.put, List.getElem_toArray, List.getElem_cons_zero, List.getElem_cons_succ, List.setIfInBounds_toArray, List.set_cons_zero, List.set_cons_succ])
      refine wpAnyH_take (i := 3) (v := ?_) rfl (by decide +kernel) (by decide +kernel) (by decide +kernel) (fun _ _ _ h => h) (Or.inl ⟨by rfl, ?hy⟩) hcur ?_
      case hy =>
        intro w1 hSw
        (try dsimp only at hSw)
        obtain ⟨x0, x1, x2, x3, x4, x5, x6, x7, -, -, -, -, -, -, -, -⟩ := nd_facts (hSw.has 0 _ _ rfl).1
        obtain ⟨y0, y1, y2, y3, y4, y5, y6, y7, -, -, -, -, -, -, -, -⟩ := nd_facts (hSw.has 1 _ _ rfl).1
        go_simp
        (try with_reducible rfl)
      (try simp only [Act.put, List.getElem_toArray, List.getElem_cons_zero, List.getElem_cons_succ, List.setIfInBounds_toArray, List.set_cons_zero, List.set_cons_succ])
      refine wpAnyH_take (i := 4) (v := ?_) rfl (by decide +kernel) (by decide +kernel) (by decide +kernel) (fun _ _ _ h => h) (Or.inl ⟨by rfl, ?hy⟩) hcur ?_
      case hy =>
        intro w1 hSw
        (try dsimp only at hSw)
        obtain ⟨x0, x1, x2, x3, x4, x5, x6, x7, -, -, -, -, -, -, -, -⟩ := nd_facts (hSw.has 0 _ _ rfl).1
        obtain ⟨y0, y1, y2, y3, y4, y5, y6, y7, -, -, -, -, -, -, -, -⟩ := nd_facts (hSw.has 1 _ _ rfl).1
        go_simp
        (try with_reducible rfl)
      (try simp only [Act.put, List.getElem_toArray, List.getElem_cons_zero, List.getElem_cons_succ, List.setIfInBounds_toArray, List.set_cons_zero, List.set_cons_succ])
      refine wpAnyH_ready (rs := [2]) (by decide +kernel) (by simp) ?_
      refine AllReadyH.cons rfl (fun K hK => ?_) AllReadyH.nil
      go_simp
      refine (HBo.out _ (HA.out.up hS.out.below) (HB.out.up hS.out.below) (by trivial)).mono ?_
      rintro e X1 ⟨A1, B1, C1, ca1, cb1, cc1, rfl, hl, hb⟩
      replace hS := Lib.hid (hS.out.call hb)
      have HL := Lib.hid hl
      clear hl hb
      go_wp2_with fail
      refine hK.out _ _ (hS.out.top 2) (fun hcur2 => ?_)
      clear hK K
      replace hcur := hcur2
      (try dsimp only at hcur)
      clear hcur2
      (try simp only [Act.put, List.getElem_toArray, List.getElem_cons_zero, List.getElem_cons_succ, List.setIfInBounds_toArray, List.set_cons_zero, List.set_cons_succ])
      refine wpAnyH_ready (rs := [5]) (by decide +kernel) (by simp) ?_
      refine AllReadyH.cons rfl (fun K hK => ?_) AllReadyH.nil
      go_simp
      refine (HPa.out A1 B1 C1 ca1 cb1 cc1 _ HL.out.lies (by trivial) H3.out).mono ?_
      rintro e X2 ⟨P1, P2, P3, Q1, Q2, Q3, da1, db1, dc1, da2, db2, dc2, rfl, hl1, hl2, hb⟩
      have HLT := Lib.hid (And.intro (hS.out.lt (i := 2) rfl) (hS.out.lt (i := 3) rfl))
      replace hS := Lib.hid (hS.out.call hb)
      clear hb
      obtain ⟨level1, nlow1, high1, last1, next1, keys1, vals1, kids1⟩ := pl
      obtain ⟨level2, nlow2, high2, last2, next2, keys2, vals2, kids2⟩ := pr
      simp only [ndCells] at hl1 hl2 ⊢
      go_wp2_with fail
      refine hK.out _ _ (hS.out.top 2) (fun hcur2 => ?_)
      clear hK K
      replace hcur := hcur2
      (try dsimp only at hcur)
      clear hcur2
      (try simp only [Act.put, List.getElem_toArray, List.getElem_cons_zero, List.getElem_cons_succ, List.setIfInBounds_toArray, List.set_cons_zero, List.set_cons_succ])
      replace hl1 := hl1.mono (B' := w.heap.size + 4) (by have := HLT.out; omega)
      replace hl2 := hl2.mono (B' := w.heap.size + 4) (by have := HLT.out; omega)
      refine wpAnyH_take (i := 6) (v := ?_) rfl (by decide +kernel) (by decide +kernel) (by decide +kernel) (fun _ _ _ h => h) (Or.inl ⟨by rfl, ?hy⟩) hcur ?_
      case hy =>
        intro w1 hSw
        (try dsimp only at hSw)
        obtain ⟨x0, x1, x2, x3, x4, x5, x6, x7, -, -, -, -, -, -, -, -⟩ := nd_facts (hSw.has 0 _ _ rfl).1
        obtain ⟨y0, y1, y2, y3, y4, y5, y6, y7, -, -, -, -, -, -, -, -⟩ := nd_facts (hSw.has 1 _ _ rfl).1
        go_simp
        (try with_reducible rfl)
      (try simp only [Act.put, List.getElem_toArray, List.getElem_cons_zero, List.getElem_cons_succ, List.setIfInBounds_toArray, List.set_cons_zero, List.set_cons_succ])
      refine wpAnyH_take (i := 7) (v := ?_) rfl (by decide +kernel) (by decide +kernel) (by decide +kernel) (fun _ _ _ h => h) (Or.inl ⟨by rfl, ?hy⟩) hcur ?_
      case hy =>
        intro w1 hSw
        (try dsimp only at hSw)
        obtain ⟨x0, x1, x2, x3, x4, x5, x6, x7, -, -, -, -, -, -, -, -⟩ := nd_facts (hSw.has 0 _ _ rfl).1
        obtain ⟨y0, y1, y2, y3, y4, y5, y6, y7, -, -, -, -, -, -, -, -⟩ := nd_facts (hSw.has 1 _ _ rfl).1
        go_simp
        (try with_reducible rfl)
      (try simp only [Act.put, List.getElem_toArray, List.getElem_cons_zero, List.getElem_cons_succ, List.setIfInBounds_toArray, List.set_cons_zero, List.set_cons_succ])
      refine wpAnyH_take (i := 8) (v := ?_) rfl (by decide +kernel) (by decide +kernel) (by decide +kernel) (fun _ _ _ h => h) (Or.inl ⟨by rfl, ?hy⟩) hcur ?_
      case hy =>
        intro w1 hSw
        (try dsimp only at hSw)
        obtain ⟨x0, x1, x2, x3, x4, x5, x6, x7, -, -, -, -, -, -, -, -⟩ := nd_facts (hSw.has 0 _ _ rfl).1
        obtain ⟨y0, y1, y2, y3, y4, y5, y6, y7, -, -, -, -, -, -, -, -⟩ := nd_facts (hSw.has 1 _ _ rfl).1
        go_simp
        (try with_reducible rfl)
      (try simp only [Act.put, List.getElem_toArray, List.getElem_cons_zero, List.getElem_cons_succ, List.setIfInBounds_toArray, List.set_cons_zero, List.set_cons_succ])
      refine wpAnyH_ready (rs := [9]) (by decide +kernel) (by simp) ?_
      refine AllReadyH.cons rfl (fun K hK => ?_) AllReadyH.nil
      obtain ⟨y0, y1, y2, y3, y4, y5, y6, y7, q0, q1, q2, q3, q4, q5, q6, q7⟩ := nd_facts (hS.out.has 2 _ _ rfl).1
      go_simp
      have hZ := And.intro (hS.out.store 2 rfl (.int .i64 level1) (.string nlow1) (.string high1) (.bool last1) (.int .i64 next1) (.slice P1 keys1.length da1) (.slice P2 vals1.length db1) (.slice P3 kids1.length dc1)) (And.intro (hl1.off (set8_off _ (w.heap.size + 1 + 1) (.int .i64 level1) (.string nlow1) (.string high1) (.bool last1) (.int .i64 next1) (.slice P1 keys1.length da1) (.slice P2 vals1.length db1) (.slice P3 kids1.length dc1)) (fun k q => by rw [q]; omega)) (hl2.off (set8_off _ (w.heap.size + 1 + 1) (.int .i64 level1) (.string nlow1) (.string high1) (.bool last1) (.int .i64 next1) (.slice P1 keys1.length da1) (.slice P2 vals1.length db1) (.slice P3 kids1.length dc1)) (fun k q => by rw [q]; omega)))
      simp only [set8, List.set_cons_zero, List.set_cons_succ] at hZ
      clear y0 y1 y2 y3 y4 y5 y6 y7 q0 q1 q2 q3 q4 q5 q6 q7
      replace hS := Lib.hid hZ.1
      replace hl1 := hZ.2.1
      replace hl2 := hZ.2.2
      clear hZ
      refine hK.out _ _ (hS.out.top 2) (fun hcur2 => ?_)
      clear hK K
      replace hcur := hcur2
      (try dsimp only at hcur)
      clear hcur2
      (try simp only [Act.put, List.getElem_toArray, List.getElem_cons_zero, List.getElem_cons_succ, List.setIfInBounds_toArray, List.set_cons_zero, List.set_cons_succ])
      generalize World.setCell _ _ _ = X3 at hS hl1 hl2 hcur ⊢
      refine wpAnyH_ready (rs := [10]) (by decide +kernel) (by simp) ?_
      refine AllReadyH.cons rfl (fun K hK => ?_) AllReadyH.nil
      obtain ⟨y0, y1, y2, y3, y4, y5, y6, y7, q0, q1, q2, q3, q4, q5, q6, q7⟩ := nd_facts (hS.out.has 3 _ _ rfl).1
      go_simp
      have hZ := And.intro (hS.out.store 3 rfl (.int .i64 level2) (.string nlow2) (.string high2) (.bool last2) (.int .i64 next2) (.slice Q1 keys2.length da2) (.slice Q2 vals2.length db2) (.slice Q3 kids2.length dc2)) (And.intro (hl1.off (set8_off _ (w.heap.size + 1 + 1 + 1) (.int .i64 level2) (.string nlow2) (.string high2) (.bool last2) (.int .i64 next2) (.slice Q1 keys2.length da2) (.slice Q2 vals2.length db2) (.slice Q3 kids2.length dc2)) (fun k q => by rw [q]; omega)) (hl2.off (set8_off _ (w.heap.size + 1 + 1 + 1) (.int .i64 level2) (.string nlow2) (.string high2) (.bool last2) (.int .i64 next2) (.slice Q1 keys2.length da2) (.slice Q2 vals2.length db2) (.slice Q3 kids2.length dc2)) (fun k q => by rw [q]; omega)))
      simp only [set8, List.set_cons_zero, List.set_cons_succ] at hZ
      clear y0 y1 y2 y3 y4 y5 y6 y7 q0 q1 q2 q3 q4 q5 q6 q7
      replace hS := Lib.hid hZ.1
      replace hl1 := hZ.2.1
      replace hl2 := hZ.2.2
      clear hZ
      refine hK.out _ _ (hS.out.top 2) (fun hcur2 => ?_)
      clear hK K
      replace hcur := hcur2
      (try dsimp only at hcur)
      clear hcur2
      (try simp only [Act.put, List.getElem_toArray, List.getElem_cons_zero, List.getElem_cons_succ, List.setIfInBounds_toArray, List.set_cons_zero, List.set_cons_succ])
      generalize World.setCell _ _ _ = X7 at hS hl1 hl2 hcur ⊢
      refine wpAnyH_done (by decide +kernel) ?_ _
      clear hcur
      go_upto_region 4 with fail
      generalize X7 = W4 at hS hl1 hl2 ⊢
      have hd := Below.drew (Below.refl W4.heap.size W4)
      have hZ := And.intro (hS.out.call hd) (And.intro (hl1.up hd) (hl2.up hd))
      clear hd hS hl1 hl2
      refine wp_region_held_drew (S := fun w' => Sx w.heap.size w w' [(w.heap.size, .cells #[.int .i64 level, .string nlow, .string high, .bool last, .int .i64 next, .slice A keys.length ca, .slice B vals.length cb, .slice C kids.length cc] 26), (w.heap.size + 1, .cells #[.int .i64 level', .string nlow', .string high', .bool last', .int .i64 next', .slice A' keys'.length ca', .slice B' vals'.length cb', .slice C' kids'.length cc'] 26), (w.heap.size + 1 + 1, .cells #[.int .i64 level1, .string nlow1, .string high1, .bool last1, .int .i64 next1, .slice P1 keys1.length da1, .slice P2 vals1.length db1, .slice P3 kids1.length dc1] 26), (w.heap.size + 1 + 1 + 1, .cells #[.int .i64 level2, .string nlow2, .string high2, .bool last2, .int .i64 next2, .slice Q1 keys2.length da2, .slice Q2 vals2.length db2, .slice Q3 kids2.length dc2] 26)] ∧ LiesF (w.heap.size + 4) w' ⟨level1, nlow1, high1, last1, next1, keys1, vals1, kids1⟩ P1 P2 P3 da1 db1 dc1 ∧ LiesF (w.heap.size + 4) w' ⟨level2, nlow2, high2, last2, next2, keys2, vals2, kids2⟩ Q1 Q2 Q3 da2 db2 dc2) (by kernel_rfl) hZ (fun hcur => ?_)
      (try dsimp only at hcur)
      generalize W4.drew = X4 at hZ hcur ⊢
      clear hZ
      refine wpAnyH_take (i := 0) (v := ?_) rfl (by decide +kernel) (by decide +kernel) (by decide +kernel) (fun _ _ _ h => h) (Or.inl ⟨by rfl, ?hy⟩) hcur ?_
      case hy =>
        intro w1 hSw
        (try dsimp only at hSw)
        obtain ⟨y0, y1, y2, y3, y4, y5, y6, y7, -, -, -, -, -, -, -, -⟩ := nd_facts (hSw.1.has 2 _ _ rfl).1
        obtain ⟨z0, z1, z2, z3, z4, z5, z6, z7, -, -, -, -, -, -, -, -⟩ := nd_facts (hSw.1.has 3 _ _ rfl).1
        go_simp
        (try with_reducible rfl)
      (try simp only [Act.put, List.getElem_toArray, List.getElem_cons_zero, List.getElem_cons_succ, List.setIfInBounds_toArray, List.set_cons_zero, List.set_cons_succ])
      refine wpAnyH_take (i := 1) (v := ?_) rfl (by decide +kernel) (by decide +kernel) (by decide +kernel) (fun _ _ _ h => h) (Or.inl ⟨by rfl, ?hy⟩) hcur ?_
      case hy =>
        intro w1 hSw
        (try dsimp only at hSw)
        obtain ⟨y0, y1, y2, y3, y4, y5, y6, y7, -, -, -, -, -, -, -, -⟩ := nd_facts (hSw.1.has 2 _ _ rfl).1
        obtain ⟨z0, z1, z2, z3, z4, z5, z6, z7, -, -, -, -, -, -, -, -⟩ := nd_facts (hSw.1.has 3 _ _ rfl).1
        go_simp
        (try with_reducible rfl)
      (try simp only [Act.put, List.getElem_toArray, List.getElem_cons_zero, List.getElem_cons_succ, List.setIfInBounds_toArray, List.set_cons_zero, List.set_cons_succ])
      refine wpAnyH_ready (rs := [2]) (by decide +kernel) (by simp) ?_
      refine AllReadyH.cons rfl (fun K hK => ?_) AllReadyH.nil
      obtain ⟨y0, y1, y2, y3, y4, y5, y6, y7, q0, q1, q2, q3, q4, q5, q6, q7⟩ := nd_facts (hcur.1.has 2 _ _ rfl).1
      go_simp
      have hZ := And.intro (hcur.1.store 2 rfl (.int .i64 level1) (.string nlow1) (.string high1) (.bool last1) (.int .i64 next1) (.slice P1 keys1.length da1) (.slice P2 vals1.length db1) (.slice P3 kids1.length dc1)) (And.intro (hcur.2.1.off (set8_off _ (w.heap.size + 1 + 1) (.int .i64 level1) (.string nlow1) (.string high1) (.bool last1) (.int .i64 next1) (.slice P1 keys1.length da1) (.slice P2 vals1.length db1) (.slice P3 kids1.length dc1)) (fun k q => by rw [q]; omega)) (hcur.2.2.off (set8_off _ (w.heap.size + 1 + 1) (.int .i64 level1) (.string nlow1) (.string high1) (.bool last1) (.int .i64 next1) (.slice P1 keys1.length da1) (.slice P2 vals1.length db1) (.slice P3 kids1.length dc1)) (fun k q => by rw [q]; omega)))
      simp only [set8, List.set_cons_zero, List.set_cons_succ] at hZ
      clear y0 y1 y2 y3 y4 y5 y6 y7 q0 q1 q2 q3 q4 q5 q6 q7
      refine hK.out _ _ (hZ) (fun hcur2 => ?_)
      clear hK K
      replace hcur := hcur2
      (try dsimp only at hcur)
      clear hcur2
      (try simp only [Act.put, List.getElem_toArray, List.getElem_cons_zero, List.getElem_cons_succ, List.setIfInBounds_toArray, List.set_cons_zero, List.set_cons_succ])
      clear hZ
      generalize World.setCell _ _ _ = X5 at hcur ⊢
      refine wpAnyH_ready (rs := [3]) (by decide +kernel) (by simp) ?_
      refine AllReadyH.cons rfl (fun K hK => ?_) AllReadyH.nil
      obtain ⟨y0, y1, y2, y3, y4, y5, y6, y7, q0, q1, q2, q3, q4, q5, q6, q7⟩ := nd_facts (hcur.1.has 3 _ _ rfl).1
      go_simp
      have hZ := And.intro (hcur.1.store 3 rfl (.int .i64 level2) (.string nlow2) (.string high2) (.bool last2) (.int .i64 next2) (.slice Q1 keys2.length da2) (.slice Q2 vals2.length db2) (.slice Q3 kids2.length dc2)) (And.intro (hcur.2.1.off (set8_off _ (w.heap.size + 1 + 1 + 1) (.int .i64 level2) (.string nlow2) (.string high2) (.bool last2) (.int .i64 next2) (.slice Q1 keys2.length da2) (.slice Q2 vals2.length db2) (.slice Q3 kids2.length dc2)) (fun k q => by rw [q]; omega)) (hcur.2.2.off (set8_off _ (w.heap.size + 1 + 1 + 1) (.int .i64 level2) (.string nlow2) (.string high2) (.bool last2) (.int .i64 next2) (.slice Q1 keys2.length da2) (.slice Q2 vals2.length db2) (.slice Q3 kids2.length dc2)) (fun k q => by rw [q]; omega)))
      simp only [set8, List.set_cons_zero, List.set_cons_succ] at hZ
      clear y0 y1 y2 y3 y4 y5 y6 y7 q0 q1 q2 q3 q4 q5 q6 q7
      refine hK.out _ _ (hZ) (fun hcur2 => ?_)
      clear hK K
      replace hcur := hcur2
      (try dsimp only at hcur)
      clear hcur2
      (try simp only [Act.put, List.getElem_toArray, List.getElem_cons_zero, List.getElem_cons_succ, List.setIfInBounds_toArray, List.set_cons_zero, List.set_cons_succ])
      clear hZ
      generalize World.setCell _ _ _ = X6 at hcur ⊢
      refine wpAnyH_take (i := 4) (v := ?_) rfl (by decide +kernel) (by decide +kernel) (by decide +kernel) (fun _ _ _ h => h) (Or.inl ⟨by rfl, ?hy⟩) hcur ?_
      case hy =>
        intro w1 hSw
        (try dsimp only at hSw)
        obtain ⟨y0, y1, y2, y3, y4, y5, y6, y7, -, -, -, -, -, -, -, -⟩ := nd_facts (hSw.1.has 2 _ _ rfl).1
        obtain ⟨z0, z1, z2, z3, z4, z5, z6, z7, -, -, -, -, -, -, -, -⟩ := nd_facts (hSw.1.has 3 _ _ rfl).1
        go_simp
        (try with_reducible rfl)
      (try simp only [Act.put, List.getElem_toArray, List.getElem_cons_zero, List.getElem_cons_succ, List.setIfInBounds_toArray, List.set_cons_zero, List.set_cons_succ])
      refine wpAnyH_done (by decide +kernel) ?_ _
      have HFI := Lib.hid (And.intro hcur.1.below (And.intro hcur.2.1.lies hcur.2.2.lies))
      obtain ⟨y0, y1, y2, y3, y4, y5, y6, y7, q0, q1, q2, q3, q4, q5, q6, q7⟩ := nd_facts (hcur.1.has 2 _ _ rfl).1
      obtain ⟨z0, z1, z2, z3, z4, z5, z6, z7, r0, r1, r2, r3, r4, r5, r6, r7⟩ := nd_facts (hcur.1.has 3 _ _ rfl).1
      clear hcur
      go_wp2_with fail
      exact bodyPost_ret (v := .tuple #[.agg #[.int .i64 level1, .string nlow1, .string high1, .bool last1, .int .i64 next1, .slice P1 keys1.length da1, .slice P2 vals1.length db1, .slice P3 kids1.length dc1], .agg #[.int .i64 level2, .string nlow2, .string high2, .bool last2, .int .i64 next2, .slice Q1 keys2.length da2, .slice Q2 vals2.length db2, .slice Q3 kids2.length dc2], .bool true]) (by simp [results, Try.results51, go_sem, *]) rfl ⟨_, _, _, _, _, _, _, _, _, _, _, _, by simp only [ndCells], HFI.out.2.1, HFI.out.2.2, HFI.out.1⟩

end Go.Proofs.Ytcoiadncennhpaa
