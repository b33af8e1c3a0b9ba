/- The reference of layer 13: Even. -/
import Derived.Test.YtcoiadncennhpaaHRef4
import Derived.Test.YtcoiadncennhpaaHal6
namespace Go.Proofs.Ytcoiadncennhpaa
open Go.RowKit

theorem Sx.sub6 {B : Nat} {W0 W : World} {L : List (Nat × Obj)} (h : Sx B W0 W L) {p q r s t u : Nat × Obj} (x y : Nat) (h0 : L[0]? = some p) (h1 : L[1]? = some q) (h2 : L[2]? = some r) (h3 : L[3]? = some s) (h4 : L[x]? = some t) (h5 : L[y]? = some u) (hx : 4 ≤ x) (hy : 4 ≤ y) (hxy : x ≠ y) : Sx B W0 W [p, q, r, s, t, u] := by
  have key : ∀ (i : Nat) (z : Nat × Obj), [p, q, r, s, t, u][i]? = some z → ∃ j, L[j]? = some z ∧ ((i < 4 ∧ j = i) ∨ (i = 4 ∧ j = x) ∨ (i = 5 ∧ j = y)) := by
    intro i z hz
    rcases i with _ | _ | _ | _ | _ | _ | i
    · exact ⟨0, by simp at hz; subst hz; exact h0, .inl ⟨by omega, rfl⟩⟩
    · exact ⟨1, by simp at hz; subst hz; exact h1, .inl ⟨by omega, rfl⟩⟩
    · exact ⟨2, by simp at hz; subst hz; exact h2, .inl ⟨by omega, rfl⟩⟩
    · exact ⟨3, by simp at hz; subst hz; exact h3, .inl ⟨by omega, rfl⟩⟩
    · exact ⟨x, by simp at hz; subst hz; exact h4, .inr (.inl ⟨rfl, rfl⟩)⟩
    · exact ⟨y, by simp at hz; subst hz; exact h5, .inr (.inr ⟨rfl, rfl⟩)⟩
    · simp at hz
  refine ⟨h.below, h.le, fun i g o hi => ?_, fun i j z z' hij hi hj => ?_⟩
  · obtain ⟨j, hj, _⟩ := key i _ hi
    exact h.has j g o hj
  · obtain ⟨a, ha, hia⟩ := key i z hi
    obtain ⟨b, hb, hib⟩ := key j z' hj
    exact h.ne a b z z' (by omega) ha hb
theorem LiesR.toF {lo hi B : Nat} {w : World} {d : Nd} {A1 A2 A3 : Option Addr} {ca cb cc : Nat} (h : LiesR lo hi w d A1 A2 A3 ca cb cc) (hB : B ≤ lo) : LiesF B w d A1 A2 A3 ca cb cc :=
  ⟨h.lies, fun h0 a e => Nat.le_trans hB (h.f1 h0 a e).1, fun h0 a e => Nat.le_trans hB (h.f2 h0 a e).1, fun h0 a e => Nat.le_trans hB (h.f3 h0 a e).1⟩
theorem part_of_both {a b : Nd} (h : neighB a b = true) (hm : 2 ≤ a.keys.length + b.keys.length) : PartP (bothN a b) := by
  obtain ⟨h1, h2, h3, h4⟩ := both_lens h
  refine ⟨by rw [h1]; exact hm, h2, ?_⟩
  unfold neighB at h
  simp only [Bool.and_eq_true, decide_eq_true_iff] at h
  have ha := ((snd_iff a 64).1 h.1).1
  have hb := ((snd_iff b 64).1 h.2.1).1
  have hl := h.2.2.1
  have e1 : (bothN a b).vals.length = a.vals.length + b.vals.length := List.length_append
  have e2 : (bothN a b).kids.length = a.kids.length + b.kids.length := List.length_append
  rcases ha.rest with ⟨e, f1, f2, _⟩ | ⟨e, f⟩ <;> rcases hb.rest with ⟨e', g1, g2, _⟩ | ⟨e', g⟩
  · exact .inl ⟨e, by omega, by omega⟩
  · omega
  · omega
  · have := f.len; have := f.vals; have := g.len; have := g.vals
    exact .inr ⟨e, by omega, by omega⟩

set_option maxRecDepth 100000 in
set_option maxHeartbeats 16000000 in
theorem refeven_any (a b : Nd) (A B C A' B' C' : Option Addr) (ca cb cc ca' cb' cc' : Nat) (w : World) (h : Lies w a A B C ca cb cc) (k : Lies w b A' B' C' ca' cb' cc') :
    Calls Try.prog 52 #[.agg (ndCells a A B C ca cb cc), .agg (ndCells b A' B' C' ca' cb' cc')] w (P2Ret (evenD a b) w) := by
  have hS := Lib.hid (Sx.start4b w (.cells (ndCells a A B C ca cb cc) 26) (.cells (ndCells b A' B' C' ca' cb' cc') 26) (.cells #[.int .i64 0, .string ⟨#[]⟩, .string ⟨#[]⟩, .bool false, .int .i64 0, .slice none 0 0, .slice none 0 0, .slice none 0 0] 26) (.cells #[.int .i64 0, .string ⟨#[]⟩, .string ⟨#[]⟩, .bool false, .int .i64 0, .slice none 0 0, .slice none 0 0, .slice none 0 0] 26))
  have HA := Lib.hid h
  have HB := Lib.hid k
  have HNb := Lib.hid (fun W hW kW => refneigh_any a b A B C A' B' C' ca cb cc ca' cb' cc' W hW kW)
  have HBo := Lib.hid (fun W hW kW (q : neighB a b = true) => refboth_any a b A B C A' B' C' ca cb cc ca' cb' cc' W hW kW (neigh_lens q).1 (neigh_lens q).2)
  have HPa := Lib.hid (fun (A B C : Option Addr) (ca cb cc : Nat) W (hW : Lies W (bothN a b) A B C ca cb cc) (q : neighB a b = true) (q2 : 2 ≤ a.keys.length + b.keys.length) => refpart_any (bothN a b) a.next A B C ca cb cc W hW (part_of_both q q2))
  have hpb : evenB a b = (neighB a b && decide (2 ≤ a.keys.length + b.keys.length)) := rfl
  have hno := Lib.hid (fun (q : evenB a b = false) => evenD_no q)
  have hyes := Lib.hid (fun (q : evenB a b = true) => evenD_yes q)
  have hln := Lib.hid (fun (q : neighB a b = true) => neigh_lens q)
  clear h k
  generalize hon : evenD a b = o at hno hyes ⊢
  clear hon
  generalize evenB a b = pb at hpb hno hyes
  generalize neighB a b = nb at hpb HNb HBo hln HPa
  generalize partL (bothN a b) a.next = pl at hyes HPa
  generalize partR (bothN a b) = pr at hyes HPa
  generalize bothN a b = bo at HBo HPa
  have HPB := Lib.hid hpb
  clear hpb
  obtain ⟨level, nlow, high, last, next, keys, vals, kids⟩ := a
  obtain ⟨level', nlow', high', last', next', keys', vals', kids'⟩ := b
  simp only [] at HPB hln HPa
  simp only [ndCells] at hS HNb HBo ⊢
  go_enter Try.func52, Try.ntmps52
  go_upto_region 1 with fail
  generalize (((w.alloc _).alloc _).alloc _).alloc _ = W at hS ⊢
  obtain ⟨x0, x1, x2, x3, x4, x5, x6, x7, f0, f1, f2, f3, f4, f5, f6, f7⟩ := nd_facts (hS.out.has 0 _ _ rfl).1
  obtain ⟨y0, y1, y2, y3, y4, y5, y6, y7, q0, q1, q2, q3, q4, q5, q6, q7⟩ := nd_facts (hS.out.has 1 _ _ rfl).1
  go_wp2_with fail
  refine (HNb.out _ (HA.out.up hS.out.below) (HB.out.up hS.out.below)).mono ?_
  rintro e wn ⟨rfl, hbn⟩
  clear x0 x1 x2 x3 x4 x5 x6 x7 f0 f1 f2 f3 f4 f5 f6 f7
  clear y0 y1 y2 y3 y4 y5 y6 y7 q0 q1 q2 q3 q4 q5 q6 q7
  replace hS := Lib.hid (hS.out.call hbn)
  clear hbn
  obtain ⟨x0, x1, x2, x3, x4, x5, x6, x7, f0, f1, f2, f3, f4, f5, f6, f7⟩ := nd_facts (hS.out.has 0 _ _ rfl).1
  obtain ⟨y0, y1, y2, y3, y4, y5, y6, y7, q0, q1, q2, q3, q4, q5, q6, q7⟩ := nd_facts (hS.out.has 1 _ _ rfl).1
  cases nb
  · obtain rfl : o = (false, zeroN, zeroN) := hno.out (by rw [HPB.out]; rfl)
    obtain ⟨s0, s1, s2, s3, s4, s5, s6, s7, t0, t1, t2, t3, t4, t5, t6, t7⟩ := nd_facts (hS.out.has 2 _ _ rfl).1
    obtain ⟨z0, z1, z2, z3, z4, z5, z6, z7, r0, r1, r2, r3, r4, r5, r6, r7⟩ := nd_facts (hS.out.has 3 _ _ rfl).1
    have hZ := ((hS.out.store 2 rfl (.int .i64 0) (.string ⟨#[]⟩) (.string ⟨#[]⟩) (.bool false) (.int .i64 0) (.slice none 0 0) (.slice none 0 0) (.slice none 0 0)).store 3 rfl (.int .i64 0) (.string ⟨#[]⟩) (.string ⟨#[]⟩) (.bool false) (.int .i64 0) (.slice none 0 0) (.slice none 0 0) (.slice none 0 0)).below
    simp only [set8] at hZ
    have HZ := Lib.hid hZ
    clear hZ
    go_wp2_with fail
    exact bodyPost_ret (v := .tuple #[.agg #[.int .i64 0, .string ⟨#[]⟩, .string ⟨#[]⟩, .bool false, .int .i64 0, .slice none 0 0, .slice none 0 0, .slice none 0 0], .agg #[.int .i64 0, .string ⟨#[]⟩, .string ⟨#[]⟩, .bool false, .int .i64 0, .slice none 0 0, .slice none 0 0, .slice none 0 0], .bool false]) (by simp [results, Try.results52, go_sem, *]) rfl ⟨none, none, none, none, none, none, 0, 0, 0, 0, 0, 0, rfl, zero_lies _, zero_lies _, HZ.out⟩
  · have hlk := hln.out (by trivial)
    have hms : wrap64 ((keys.length : Int) + (keys'.length : Int)) = (keys.length : Int) + (keys'.length : Int) := by unfold wrap64; omega
    by_cases h3 : keys.length + keys'.length < 2
    · obtain rfl : o = (false, zeroN, zeroN) := hno.out (by rw [HPB.out, decide_eq_false (p := 2 ≤ keys.length + keys'.length) (by omega)]; rfl)
      have h3b : decide ((keys.length : Int) + (keys'.length : Int) < 2) = true := decide_eq_true (by omega)
      clear hlk h3
      obtain ⟨s0, s1, s2, s3, s4, s5, s6, s7, t0, t1, t2, t3, t4, t5, t6, t7⟩ := nd_facts (hS.out.has 2 _ _ rfl).1
      obtain ⟨z0, z1, z2, z3, z4, z5, z6, z7, r0, r1, r2, r3, r4, r5, r6, r7⟩ := nd_facts (hS.out.has 3 _ _ rfl).1
      have hZ := ((hS.out.store 2 rfl (.int .i64 0) (.string ⟨#[]⟩) (.string ⟨#[]⟩) (.bool false) (.int .i64 0) (.slice none 0 0) (.slice none 0 0) (.slice none 0 0)).store 3 rfl (.int .i64 0) (.string ⟨#[]⟩) (.string ⟨#[]⟩) (.bool false) (.int .i64 0) (.slice none 0 0) (.slice none 0 0) (.slice none 0 0)).below
      simp only [set8] at hZ
      have HZ := Lib.hid hZ
      clear hZ
      go_wp2_with fail
      exact bodyPost_ret (v := .tuple #[.agg #[.int .i64 0, .string ⟨#[]⟩, .string ⟨#[]⟩, .bool false, .int .i64 0, .slice none 0 0, .slice none 0 0, .slice none 0 0], .agg #[.int .i64 0, .string ⟨#[]⟩, .string ⟨#[]⟩, .bool false, .int .i64 0, .slice none 0 0, .slice none 0 0, .slice none 0 0], .bool false]) (by simp [results, Try.results52, go_sem, *]) rfl ⟨none, none, none, none, none, none, 0, 0, 0, 0, 0, 0, rfl, zero_lies _, zero_lies _, HZ.out⟩
    · have h3b : decide ((keys.length : Int) + (keys'.length : Int) < 2) = false := decide_eq_false (by omega)
      have H3 := Lib.hid (show 2 ≤ keys.length + keys'.length by omega)
      obtain rfl := hyes.out (by rw [HPB.out, decide_eq_true H3.out]; rfl)
      clear hlk h3
      obtain ⟨level1, nlow1, high1, last1, next1, keys1, vals1, kids1⟩ := pl
      obtain ⟨level2, nlow2, high2, last2, next2, keys2, vals2, kids2⟩ := pr
      go_upto_region 3 with fail
      clear h3b hms
      clear x0 x1 x2 x3 x4 x5 x6 x7 f0 f1 f2 f3 f4 f5 f6 f7
      clear y0 y1 y2 y3 y4 y5 y6 y7 q0 q1 q2 q3 q4 q5 q6 q7
      generalize wn = W3 at hS ⊢
      go_cut [7, 8] (fun s7 s8 wx => ∃ g7 g8 P1 P2 P3 Q1 Q2 Q3 da1 db1 dc1 da2 db2 dc2, s7 = .pointer (some ⟨g7, 0, none⟩) ∧ s8 = .pointer (some ⟨g8, 0, none⟩) ∧ Hid (Sx w.heap.size w wx [(w.heap.size, .cells #[.int .i64 level, .string nlow, .string high, .bool last, .int .i64 next, .slice A keys.length ca, .slice B vals.length cb, .slice C kids.length cc] 26), (w.heap.size + 1, .cells #[.int .i64 level', .string nlow', .string high', .bool last', .int .i64 next', .slice A' keys'.length ca', .slice B' vals'.length cb', .slice C' kids'.length cc'] 26), (w.heap.size + 1 + 1, .cells #[.int .i64 0, .string ⟨#[]⟩, .string ⟨#[]⟩, .bool false, .int .i64 0, .slice none 0 0, .slice none 0 0, .slice none 0 0] 26), (w.heap.size + 1 + 1 + 1, .cells #[.int .i64 0, .string ⟨#[]⟩, .string ⟨#[]⟩, .bool false, .int .i64 0, .slice none 0 0, .slice none 0 0, .slice none 0 0] 26), (g7, .cells #[.int .i64 level1, .string nlow1, .string high1, .bool last1, .int .i64 next1, .slice P1 keys1.length da1, .slice P2 vals1.length db1, .slice P3 kids1.length dc1] 26), (g8, .cells #[.int .i64 level2, .string nlow2, .string high2, .bool last2, .int .i64 next2, .slice Q1 keys2.length da2, .slice Q2 vals2.length db2, .slice Q3 kids2.length dc2] 26)] ∧
        LiesF (w.heap.size + 4) wx ⟨level1, nlow1, high1, last1, next1, keys1, vals1, kids1⟩ P1 P2 P3 da1 db1 dc1 ∧ LiesF (w.heap.size + 4) wx ⟨level2, nlow2, high2, last2, next2, keys2, vals2, kids2⟩ Q1 Q2 Q3 da2 db2 dc2))
      case first =>
        have hd := Below.drew (Below.refl W3.heap.size W3)
        replace hS := Lib.hid (hS.out.call hd)
        clear hd
        refine wp_region_held_drew (S := fun w' => Sx w.heap.size w w' [(w.heap.size, .cells #[.int .i64 level, .string nlow, .string high, .bool last, .int .i64 next, .slice A keys.length ca, .slice B vals.length cb, .slice C kids.length cc] 26), (w.heap.size + 1, .cells #[.int .i64 level', .string nlow', .string high', .bool last', .int .i64 next', .slice A' keys'.length ca', .slice B' vals'.length cb', .slice C' kids'.length cc'] 26)]) (by kernel_rfl) (hS.out.top 2) (fun hcur => ?_)
        (try dsimp only at hcur)
        generalize W3.drew = X at hS hcur ⊢
        refine wpAnyH_take (i := 0) (v := ?_) rfl (by decide +kernel) (by decide +kernel) (by decide +kernel) (fun _ _ _ h => h) (Or.inl ⟨by rfl, ?hy⟩) hcur ?_
        case hy =>
          intro w1 hSw
          (try dsimp only at hSw)
          obtain ⟨x0, x1, x2, x3, x4, x5, x6, x7, -, -, -, -, -, -, -, -⟩ := nd_facts (hSw.has 0 _ _ rfl).1
          obtain ⟨y0, y1, y2, y3, y4, y5, y6, y7, -, -, -, -, -, -, -, -⟩ := nd_facts (hSw.has 1 _ _ rfl).1
          go_simp
          (try with_reducible rfl)
        (try simp only [Act.put, List.getElem_toArray, List.getElem_cons_zero, List.getElem_cons_succ, List.setIfInBounds_toArray, List.set_cons_zero, List.set_cons_succ])
        refine wpAnyH_take (i := 1) (v := ?_) rfl (by decide +kernel) (by decide +kernel) (by decide +kernel) (fun _ _ _ h => h) (Or.inl ⟨by rfl, ?hy⟩) hcur ?_
        case hy =>
          intro w1 hSw
          (try dsimp only at hSw)
          obtain ⟨x0, x1, x2, x3, x4, x5, x6, x7, -, -, -, -, -, -, -, -⟩ := nd_facts (hSw.has 0 _ _ rfl).1
          obtain ⟨y0, y1, y2, y3, y4, y5, y6, y7, -, -, -, -, -, -, -, -⟩ := nd_facts (hSw.has 1 _ _ rfl).1
          go_simp
          (try with_reducible rfl)
        (try simp only [Act.put, List.getElem_toArray, List.getElem_cons_zero, List.getElem_cons_succ, List.setIfInBounds_toArray, List.set_cons_zero, List.set_cons_succ])
        refine wpAnyH_take (i := 3) (v := ?_) rfl (by decide +kernel) (by decide +kernel) (by decide +kernel) (fun _ _ _ h => h) (Or.inl ⟨by rfl, ?hy⟩) hcur ?_
        case hy =>
          intro w1 hSw
          (try dsimp only at hSw)
          obtain ⟨x0, x1, x2, x3, x4, x5, x6, x7, -, -, -, -, -, -, -, -⟩ := nd_facts (hSw.has 0 _ _ rfl).1
          obtain ⟨y0, y1, y2, y3, y4, y5, y6, y7, -, -, -, -, -, -, -, -⟩ := nd_facts (hSw.has 1 _ _ rfl).1
          go_simp
          (try with_reducible rfl)
        (try simp only [Act.put, List.getElem_toArray, List.getElem_cons_zero, List.getElem_cons_succ, List.setIfInBounds_toArray, List.set_cons_zero, List.set_cons_succ])
        refine wpAnyH_take (i := 4) (v := ?_) rfl (by decide +kernel) (by decide +kernel) (by decide +kernel) (fun _ _ _ h => h) (Or.inl ⟨by rfl, ?hy⟩) hcur ?_
        case hy =>
          intro w1 hSw
          (try dsimp only at hSw)
          obtain ⟨x0, x1, x2, x3, x4, x5, x6, x7, -, -, -, -, -, -, -, -⟩ := nd_facts (hSw.has 0 _ _ rfl).1
          obtain ⟨y0, y1, y2, y3, y4, y5, y6, y7, -, -, -, -, -, -, -, -⟩ := nd_facts (hSw.has 1 _ _ rfl).1
          go_simp
          (try with_reducible rfl)
        (try simp only [Act.put, List.getElem_toArray, List.getElem_cons_zero, List.getElem_cons_succ, List.setIfInBounds_toArray, List.set_cons_zero, List.set_cons_succ])
        refine wpAnyH_ready (rs := [2, 9, 10]) (by decide +kernel) (by simp) ?_
        refine AllReadyH.cons rfl (fun K hK => ?_) (AllReadyH.cons rfl (fun K hK => ?_) (AllReadyH.cons rfl (fun K hK => ?_) AllReadyH.nil))
        · go_simp
          refine (HBo.out _ (HA.out.up hS.out.below) (HB.out.up hS.out.below) (by trivial)).mono ?_
          rintro e X ⟨A1, B1, C1, ca1, cb1, cc1, rfl, hl, hb⟩
          replace hS := Lib.hid (hS.out.call hb)
          have HL := Lib.hid hl.lies
          clear hl hb
          go_wp2_with fail
          refine hK.out _ _ (hS.out.top 2) (fun hcur2 => ?_)
          clear hK K
          replace hcur := hcur2
          (try dsimp only at hcur)
          clear hcur2
          (try simp only [Act.put, List.getElem_toArray, List.getElem_cons_zero, List.getElem_cons_succ, List.setIfInBounds_toArray, List.set_cons_zero, List.set_cons_succ])
          refine wpAnyH_ready (rs := [5, 9, 10]) (by decide +kernel) (by simp) ?_
          refine AllReadyH.cons rfl (fun K hK => ?_) (AllReadyH.cons rfl (fun K hK => ?_) (AllReadyH.cons rfl (fun K hK => ?_) AllReadyH.nil))
          · go_simp
            have HLO := hS.out.lt (i := 3) rfl
            refine (HPa.out A1 B1 C1 ca1 cb1 cc1 _ HL.out (by trivial) H3.out).mono ?_
            rintro e Y ⟨P1, P2, P3, Q1, Q2, Q3, da1, db1, dc1, da2, db2, dc2, rfl, hl1, hl2, hb⟩
            replace hS := Lib.hid (hS.out.call hb)
            clear hb HL
            have HR1 := LiesR.of hl1 (Nat.le_refl _)
            have HR2 := LiesR.of hl2 (Nat.le_refl _)
            clear hl1 hl2
            generalize X.heap.size = lo at HR1 HR2 HLO
            obtain ⟨hi, ehi⟩ : ∃ hi, hi = Y.heap.size := ⟨_, rfl⟩
            rw [← ehi] at HR1 HR2
            have HHI := Lib.hid (Nat.le_of_eq ehi)
            clear ehi
            simp only [ndCells] at HR1 HR2 ⊢
            go_wp2_with fail
            refine hK.out _ _ (hS.out.top 2) (fun hcur2 => ?_)
            clear hK K
            replace hcur := hcur2
            (try dsimp only at hcur)
            clear hcur2
            (try simp only [Act.put, List.getElem_toArray, List.getElem_cons_zero, List.getElem_cons_succ, List.setIfInBounds_toArray, List.set_cons_zero, List.set_cons_succ])
            clear X
            generalize Y = X at hS HR1 HR2 HHI hcur ⊢
            refine wpAnyH_take (i := 6) (v := ?_) rfl (by decide +kernel) (by decide +kernel) (by decide +kernel) (fun _ _ _ h => h) (Or.inl ⟨by rfl, ?hy⟩) hcur ?_
            case hy =>
              intro w1 hSw
              (try dsimp only at hSw)
              obtain ⟨x0, x1, x2, x3, x4, x5, x6, x7, -, -, -, -, -, -, -, -⟩ := nd_facts (hSw.has 0 _ _ rfl).1
              obtain ⟨y0, y1, y2, y3, y4, y5, y6, y7, -, -, -, -, -, -, -, -⟩ := nd_facts (hSw.has 1 _ _ rfl).1
              go_simp
              (try with_reducible rfl)
            (try simp only [Act.put, List.getElem_toArray, List.getElem_cons_zero, List.getElem_cons_succ, List.setIfInBounds_toArray, List.set_cons_zero, List.set_cons_succ])
            refine wpAnyH_take (i := 7) (v := ?_) rfl (by decide +kernel) (by decide +kernel) (by decide +kernel) (fun _ _ _ h => h) (Or.inl ⟨by rfl, ?hy⟩) hcur ?_
            case hy =>
              intro w1 hSw
              (try dsimp only at hSw)
              obtain ⟨x0, x1, x2, x3, x4, x5, x6, x7, -, -, -, -, -, -, -, -⟩ := nd_facts (hSw.has 0 _ _ rfl).1
              obtain ⟨y0, y1, y2, y3, y4, y5, y6, y7, -, -, -, -, -, -, -, -⟩ := nd_facts (hSw.has 1 _ _ rfl).1
              go_simp
              (try with_reducible rfl)
            (try simp only [Act.put, List.getElem_toArray, List.getElem_cons_zero, List.getElem_cons_succ, List.setIfInBounds_toArray, List.set_cons_zero, List.set_cons_succ])
            refine wpAnyH_take (i := 8) (v := ?_) rfl (by decide +kernel) (by decide +kernel) (by decide +kernel) (fun _ _ _ h => h) (Or.inl ⟨by rfl, ?hy⟩) hcur ?_
            case hy =>
              intro w1 hSw
              (try dsimp only at hSw)
              obtain ⟨x0, x1, x2, x3, x4, x5, x6, x7, -, -, -, -, -, -, -, -⟩ := nd_facts (hSw.has 0 _ _ rfl).1
              obtain ⟨y0, y1, y2, y3, y4, y5, y6, y7, -, -, -, -, -, -, -, -⟩ := nd_facts (hSw.has 1 _ _ rfl).1
              go_simp
              (try with_reducible rfl)
            (try simp only [Act.put, List.getElem_toArray, List.getElem_cons_zero, List.getElem_cons_succ, List.setIfInBounds_toArray, List.set_cons_zero, List.set_cons_succ])
            refine wpAnyH_ready (rs := [9, 10]) (by decide +kernel) (by simp) ?_
            refine AllReadyH.cons rfl (fun K hK => ?_) (AllReadyH.cons rfl (fun K hK => ?_) AllReadyH.nil)
            · go_simp
              replace hS := Lib.hid (hS.out.alloc (.cells #[.int .i64 0, .string ⟨#[]⟩, .string ⟨#[]⟩, .bool false, .int .i64 0, .slice none 0 0, .slice none 0 0, .slice none 0 0] 26))
              replace HR1 := HR1.up (below_alloc X (.cells #[.int .i64 0, .string ⟨#[]⟩, .string ⟨#[]⟩, .bool false, .int .i64 0, .slice none 0 0, .slice none 0 0, .slice none 0 0] 26))
              replace HR2 := HR2.up (below_alloc X (.cells #[.int .i64 0, .string ⟨#[]⟩, .string ⟨#[]⟩, .bool false, .int .i64 0, .slice none 0 0, .slice none 0 0, .slice none 0 0] 26))
              have H7 := Lib.hid (show X.heap.size < lo ∨ hi ≤ X.heap.size from Or.inr HHI.out)
              replace HHI := Lib.hid (Nat.le_trans HHI.out (below_alloc X (.cells #[.int .i64 0, .string ⟨#[]⟩, .string ⟨#[]⟩, .bool false, .int .i64 0, .slice none 0 0, .slice none 0 0, .slice none 0 0] 26)).size)
              simp only [List.cons_append, List.nil_append, List.set_cons_zero, List.set_cons_succ] at hS
              refine hK.out _ _ (hS.out.top 2) (fun hcur2 => ?_)
              clear hK K
              replace hcur := hcur2
              (try dsimp only at hcur)
              clear hcur2
              (try simp only [Act.put, List.getElem_toArray, List.getElem_cons_zero, List.getElem_cons_succ, List.setIfInBounds_toArray, List.set_cons_zero, List.set_cons_succ])
              generalize X.heap.size = g7 at hS H7 ⊢
              generalize X.alloc _ = X at hS hcur HR1 HR2 HHI ⊢
              refine wpAnyH_ready (rs := [10]) (by decide +kernel) (by simp) ?_
              refine AllReadyH.cons rfl (fun K hK => ?_) AllReadyH.nil
              go_simp
              replace hS := Lib.hid (hS.out.alloc (.cells #[.int .i64 0, .string ⟨#[]⟩, .string ⟨#[]⟩, .bool false, .int .i64 0, .slice none 0 0, .slice none 0 0, .slice none 0 0] 26))
              replace HR1 := HR1.up (below_alloc X (.cells #[.int .i64 0, .string ⟨#[]⟩, .string ⟨#[]⟩, .bool false, .int .i64 0, .slice none 0 0, .slice none 0 0, .slice none 0 0] 26))
              replace HR2 := HR2.up (below_alloc X (.cells #[.int .i64 0, .string ⟨#[]⟩, .string ⟨#[]⟩, .bool false, .int .i64 0, .slice none 0 0, .slice none 0 0, .slice none 0 0] 26))
              have H8 := Lib.hid (show X.heap.size < lo ∨ hi ≤ X.heap.size from Or.inr HHI.out)
              replace HHI := Lib.hid (Nat.le_trans HHI.out (below_alloc X (.cells #[.int .i64 0, .string ⟨#[]⟩, .string ⟨#[]⟩, .bool false, .int .i64 0, .slice none 0 0, .slice none 0 0, .slice none 0 0] 26)).size)
              simp only [List.cons_append, List.nil_append, List.set_cons_zero, List.set_cons_succ] at hS
              refine hK.out _ _ (hS.out.top 2) (fun hcur2 => ?_)
              clear hK K
              replace hcur := hcur2
              (try dsimp only at hcur)
              clear hcur2
              (try simp only [Act.put, List.getElem_toArray, List.getElem_cons_zero, List.getElem_cons_succ, List.setIfInBounds_toArray, List.set_cons_zero, List.set_cons_succ])
              generalize X.heap.size = g8 at hS H8 ⊢
              generalize X.alloc _ = X at hS hcur HR1 HR2 HHI ⊢
              refine wpAnyH_ready (rs := [11]) (by decide +kernel) (by simp) ?_
              refine AllReadyH.cons rfl (fun K hK => ?_) AllReadyH.nil
              obtain ⟨y0, y1, y2, y3, y4, y5, y6, y7, q0, q1, q2, q3, q4, q5, q6, q7⟩ := nd_facts (hS.out.has 4 _ _ rfl).1
              go_simp
              have hZ := hS.out.store 4 rfl (.int .i64 level1) (.string nlow1) (.string high1) (.bool last1) (.int .i64 next1) (.slice P1 keys1.length da1) (.slice P2 vals1.length db1) (.slice P3 kids1.length dc1)
              have hZ1 := HR1.off (set8_off _ (g7) (.int .i64 level1) (.string nlow1) (.string high1) (.bool last1) (.int .i64 next1) (.slice P1 keys1.length da1) (.slice P2 vals1.length db1) (.slice P3 kids1.length dc1)) (fun k q => by subst q; exact H7.out)
              have hZ2 := HR2.off (set8_off _ (g7) (.int .i64 level1) (.string nlow1) (.string high1) (.bool last1) (.int .i64 next1) (.slice P1 keys1.length da1) (.slice P2 vals1.length db1) (.slice P3 kids1.length dc1)) (fun k q => by subst q; exact H7.out)
              simp only [set8, List.set_cons_zero, List.set_cons_succ] at hZ hZ1 hZ2
              clear y0 y1 y2 y3 y4 y5 y6 y7 q0 q1 q2 q3 q4 q5 q6 q7
              replace hS := Lib.hid hZ
              replace HR1 := hZ1
              replace HR2 := hZ2
              clear hZ hZ1 hZ2
              refine hK.out _ _ (hS.out.top 2) (fun hcur2 => ?_)
              clear hK K
              replace hcur := hcur2
              (try dsimp only at hcur)
              clear hcur2
              (try simp only [Act.put, List.getElem_toArray, List.getElem_cons_zero, List.getElem_cons_succ, List.setIfInBounds_toArray, List.set_cons_zero, List.set_cons_succ])
              clear HHI
              have HHI := Lib.hid True.intro
              generalize World.setCell _ _ _ = X at hS HR1 HR2 hcur ⊢
              refine wpAnyH_ready (rs := [12]) (by decide +kernel) (by simp) ?_
              refine AllReadyH.cons rfl (fun K hK => ?_) AllReadyH.nil
              obtain ⟨y0, y1, y2, y3, y4, y5, y6, y7, q0, q1, q2, q3, q4, q5, q6, q7⟩ := nd_facts (hS.out.has 5 _ _ rfl).1
              go_simp
              have hZ := hS.out.store 5 rfl (.int .i64 level2) (.string nlow2) (.string high2) (.bool last2) (.int .i64 next2) (.slice Q1 keys2.length da2) (.slice Q2 vals2.length db2) (.slice Q3 kids2.length dc2)
              have hZ1 := HR1.off (set8_off _ (g8) (.int .i64 level2) (.string nlow2) (.string high2) (.bool last2) (.int .i64 next2) (.slice Q1 keys2.length da2) (.slice Q2 vals2.length db2) (.slice Q3 kids2.length dc2)) (fun k q => by subst q; exact H8.out)
              have hZ2 := HR2.off (set8_off _ (g8) (.int .i64 level2) (.string nlow2) (.string high2) (.bool last2) (.int .i64 next2) (.slice Q1 keys2.length da2) (.slice Q2 vals2.length db2) (.slice Q3 kids2.length dc2)) (fun k q => by subst q; exact H8.out)
              simp only [set8, List.set_cons_zero, List.set_cons_succ] at hZ hZ1 hZ2
              clear y0 y1 y2 y3 y4 y5 y6 y7 q0 q1 q2 q3 q4 q5 q6 q7
              replace hS := Lib.hid hZ
              replace HR1 := hZ1
              replace HR2 := hZ2
              clear hZ hZ1 hZ2
              refine hK.out _ _ (hS.out.top 2) (fun hcur2 => ?_)
              clear hK K
              replace hcur := hcur2
              (try dsimp only at hcur)
              clear hcur2
              (try simp only [Act.put, List.getElem_toArray, List.getElem_cons_zero, List.getElem_cons_succ, List.setIfInBounds_toArray, List.set_cons_zero, List.set_cons_succ])
              clear HHI
              have HHI := Lib.hid True.intro
              generalize World.setCell _ _ _ = X at hS HR1 HR2 hcur ⊢
              refine wpAnyH_done (by decide +kernel) ?_ _
              clear hcur HHI H7 H8
              have HF := Lib.hid (And.intro (hS.out.sub6 4 5 rfl rfl rfl rfl rfl rfl (by omega) (by omega) (by omega)) (And.intro (HR1.toF (B := w.heap.size + 4) (by omega)) (HR2.toF (B := w.heap.size + 4) (by omega))))
              clear hS HR1 HR2 HLO
              go_wp2_with fail
              go_meet
              exact ⟨g7, g8, P1, P2, P3, Q1, Q2, Q3, da1, db1, dc1, da2, db2, dc2, rfl, rfl, HF⟩
            · go_simp
              replace hS := Lib.hid (hS.out.alloc (.cells #[.int .i64 0, .string ⟨#[]⟩, .string ⟨#[]⟩, .bool false, .int .i64 0, .slice none 0 0, .slice none 0 0, .slice none 0 0] 26))
              replace HR1 := HR1.up (below_alloc X (.cells #[.int .i64 0, .string ⟨#[]⟩, .string ⟨#[]⟩, .bool false, .int .i64 0, .slice none 0 0, .slice none 0 0, .slice none 0 0] 26))
              replace HR2 := HR2.up (below_alloc X (.cells #[.int .i64 0, .string ⟨#[]⟩, .string ⟨#[]⟩, .bool false, .int .i64 0, .slice none 0 0, .slice none 0 0, .slice none 0 0] 26))
              have H8 := Lib.hid (show X.heap.size < lo ∨ hi ≤ X.heap.size from Or.inr HHI.out)
              replace HHI := Lib.hid (Nat.le_trans HHI.out (below_alloc X (.cells #[.int .i64 0, .string ⟨#[]⟩, .string ⟨#[]⟩, .bool false, .int .i64 0, .slice none 0 0, .slice none 0 0, .slice none 0 0] 26)).size)
              simp only [List.cons_append, List.nil_append, List.set_cons_zero, List.set_cons_succ] at hS
              refine hK.out _ _ (hS.out.top 2) (fun hcur2 => ?_)
              clear hK K
              replace hcur := hcur2
              (try dsimp only at hcur)
              clear hcur2
              (try simp only [Act.put, List.getElem_toArray, List.getElem_cons_zero, List.getElem_cons_succ, List.setIfInBounds_toArray, List.set_cons_zero, List.set_cons_succ])
              generalize X.heap.size = g8 at hS H8 ⊢
              generalize X.alloc _ = X at hS hcur HR1 HR2 HHI ⊢
              refine wpAnyH_ready (rs := [9]) (by decide +kernel) (by simp) ?_
              refine AllReadyH.cons rfl (fun K hK => ?_) AllReadyH.nil
              go_simp
              replace hS := Lib.hid (hS.out.alloc (.cells #[.int .i64 0, .string ⟨#[]⟩, .string ⟨#[]⟩, .bool false, .int .i64 0, .slice none 0 0, .slice none 0 0, .slice none 0 0] 26))
              replace HR1 := HR1.up (below_alloc X (.cells #[.int .i64 0, .string ⟨#[]⟩, .string ⟨#[]⟩, .bool false, .int .i64 0, .slice none 0 0, .slice none 0 0, .slice none 0 0] 26))
              replace HR2 := HR2.up (below_alloc X (.cells #[.int .i64 0, .string ⟨#[]⟩, .string ⟨#[]⟩, .bool false, .int .i64 0, .slice none 0 0, .slice none 0 0, .slice none 0 0] 26))
              have H7 := Lib.hid (show X.heap.size < lo ∨ hi ≤ X.heap.size from Or.inr HHI.out)
              replace HHI := Lib.hid (Nat.le_trans HHI.out (below_alloc X (.cells #[.int .i64 0, .string ⟨#[]⟩, .string ⟨#[]⟩, .bool false, .int .i64 0, .slice none 0 0, .slice none 0 0, .slice none 0 0] 26)).size)
              simp only [List.cons_append, List.nil_append, List.set_cons_zero, List.set_cons_succ] at hS
              refine hK.out _ _ (hS.out.top 2) (fun hcur2 => ?_)
              clear hK K
              replace hcur := hcur2
              (try dsimp only at hcur)
              clear hcur2
              (try simp only [Act.put, List.getElem_toArray, List.getElem_cons_zero, List.getElem_cons_succ, List.setIfInBounds_toArray, List.set_cons_zero, List.set_cons_succ])
              generalize X.heap.size = g7 at hS H7 ⊢
              generalize X.alloc _ = X at hS hcur HR1 HR2 HHI ⊢
              refine wpAnyH_ready (rs := [11]) (by decide +kernel) (by simp) ?_
              refine AllReadyH.cons rfl (fun K hK => ?_) AllReadyH.nil
              obtain ⟨y0, y1, y2, y3, y4, y5, y6, y7, q0, q1, q2, q3, q4, q5, q6, q7⟩ := nd_facts (hS.out.has 5 _ _ rfl).1
              go_simp
              have hZ := hS.out.store 5 rfl (.int .i64 level1) (.string nlow1) (.string high1) (.bool last1) (.int .i64 next1) (.slice P1 keys1.length da1) (.slice P2 vals1.length db1) (.slice P3 kids1.length dc1)
              have hZ1 := HR1.off (set8_off _ (g7) (.int .i64 level1) (.string nlow1) (.string high1) (.bool last1) (.int .i64 next1) (.slice P1 keys1.length da1) (.slice P2 vals1.length db1) (.slice P3 kids1.length dc1)) (fun k q => by subst q; exact H7.out)
              have hZ2 := HR2.off (set8_off _ (g7) (.int .i64 level1) (.string nlow1) (.string high1) (.bool last1) (.int .i64 next1) (.slice P1 keys1.length da1) (.slice P2 vals1.length db1) (.slice P3 kids1.length dc1)) (fun k q => by subst q; exact H7.out)
              simp only [set8, List.set_cons_zero, List.set_cons_succ] at hZ hZ1 hZ2
              clear y0 y1 y2 y3 y4 y5 y6 y7 q0 q1 q2 q3 q4 q5 q6 q7
              replace hS := Lib.hid hZ
              replace HR1 := hZ1
              replace HR2 := hZ2
              clear hZ hZ1 hZ2
              refine hK.out _ _ (hS.out.top 2) (fun hcur2 => ?_)
              clear hK K
              replace hcur := hcur2
              (try dsimp only at hcur)
              clear hcur2
              (try simp only [Act.put, List.getElem_toArray, List.getElem_cons_zero, List.getElem_cons_succ, List.setIfInBounds_toArray, List.set_cons_zero, List.set_cons_succ])
              clear HHI
              have HHI := Lib.hid True.intro
              generalize World.setCell _ _ _ = X at hS HR1 HR2 hcur ⊢
              refine wpAnyH_ready (rs := [12]) (by decide +kernel) (by simp) ?_
              refine AllReadyH.cons rfl (fun K hK => ?_) AllReadyH.nil
              obtain ⟨y0, y1, y2, y3, y4, y5, y6, y7, q0, q1, q2, q3, q4, q5, q6, q7⟩ := nd_facts (hS.out.has 4 _ _ rfl).1
              go_simp
              have hZ := hS.out.store 4 rfl (.int .i64 level2) (.string nlow2) (.string high2) (.bool last2) (.int .i64 next2) (.slice Q1 keys2.length da2) (.slice Q2 vals2.length db2) (.slice Q3 kids2.length dc2)
              have hZ1 := HR1.off (set8_off _ (g8) (.int .i64 level2) (.string nlow2) (.string high2) (.bool last2) (.int .i64 next2) (.slice Q1 keys2.length da2) (.slice Q2 vals2.length db2) (.slice Q3 kids2.length dc2)) (fun k q => by subst q; exact H8.out)
              have hZ2 := HR2.off (set8_off _ (g8) (.int .i64 level2) (.string nlow2) (.string high2) (.bool last2) (.int .i64 next2) (.slice Q1 keys2.length da2) (.slice Q2 vals2.length db2) (.slice Q3 kids2.length dc2)) (fun k q => by subst q; exact H8.out)
              simp only [set8, List.set_cons_zero, List.set_cons_succ] at hZ hZ1 hZ2
              clear y0 y1 y2 y3 y4 y5 y6 y7 q0 q1 q2 q3 q4 q5 q6 q7
              replace hS := Lib.hid hZ
              replace HR1 := hZ1
              replace HR2 := hZ2
              clear hZ hZ1 hZ2
              refine hK.out _ _ (hS.out.top 2) (fun hcur2 => ?_)
              clear hK K
              replace hcur := hcur2
              (try dsimp only at hcur)
              clear hcur2
              (try simp only [Act.put, List.getElem_toArray, List.getElem_cons_zero, List.getElem_cons_succ, List.setIfInBounds_toArray, List.set_cons_zero, List.set_cons_succ])
              clear HHI
              have HHI := Lib.hid True.intro
              generalize World.setCell _ _ _ = X at hS HR1 HR2 hcur ⊢
              refine wpAnyH_done (by decide +kernel) ?_ _
              clear hcur HHI H7 H8
              have HF := Lib.hid (And.intro (hS.out.sub6 5 4 rfl rfl rfl rfl rfl rfl (by omega) (by omega) (by omega)) (And.intro (HR1.toF (B := w.heap.size + 4) (by omega)) (HR2.toF (B := w.heap.size + 4) (by omega))))
              clear hS HR1 HR2 HLO
              go_wp2_with fail
              go_meet
              exact ⟨g7, g8, P1, P2, P3, Q1, Q2, Q3, da1, db1, dc1, da2, db2, dc2, rfl, rfl, HF⟩
          · go_simp
            replace hS := Lib.hid (hS.out.alloc (.cells #[.int .i64 0, .string ⟨#[]⟩, .string ⟨#[]⟩, .bool false, .int .i64 0, .slice none 0 0, .slice none 0 0, .slice none 0 0] 26))
            replace HL := Lib.hid (HL.out.up (below_alloc X (.cells #[.int .i64 0, .string ⟨#[]⟩, .string ⟨#[]⟩, .bool false, .int .i64 0, .slice none 0 0, .slice none 0 0, .slice none 0 0] 26)))
            simp only [List.cons_append, List.nil_append, List.set_cons_zero, List.set_cons_succ] at hS
            refine hK.out _ _ (hS.out.top 2) (fun hcur2 => ?_)
            clear hK K
            replace hcur := hcur2
            (try dsimp only at hcur)
            clear hcur2
            (try simp only [Act.put, List.getElem_toArray, List.getElem_cons_zero, List.getElem_cons_succ, List.setIfInBounds_toArray, List.set_cons_zero, List.set_cons_succ])
            generalize X.heap.size = g7 at hS ⊢
            generalize X.alloc _ = X at hS hcur HL ⊢
            refine wpAnyH_ready (rs := [5, 10]) (by decide +kernel) (by simp) ?_
            refine AllReadyH.cons rfl (fun K hK => ?_) (AllReadyH.cons rfl (fun K hK => ?_) AllReadyH.nil)
            · have l7 := hS.out.lt (i := 4) rfl
              go_simp
              have HLO := hS.out.lt (i := 3) rfl
              refine (HPa.out A1 B1 C1 ca1 cb1 cc1 _ HL.out (by trivial) H3.out).mono ?_
              rintro e Y ⟨P1, P2, P3, Q1, Q2, Q3, da1, db1, dc1, da2, db2, dc2, rfl, hl1, hl2, hb⟩
              replace hS := Lib.hid (hS.out.call hb)
              clear hb HL
              have HR1 := LiesR.of hl1 (Nat.le_refl _)
              have HR2 := LiesR.of hl2 (Nat.le_refl _)
              clear hl1 hl2
              generalize X.heap.size = lo at HR1 HR2 l7  HLO
              obtain ⟨hi, ehi⟩ : ∃ hi, hi = Y.heap.size := ⟨_, rfl⟩
              rw [← ehi] at HR1 HR2
              have HHI := Lib.hid (Nat.le_of_eq ehi)
              clear ehi
              simp only [ndCells] at HR1 HR2 ⊢
              go_wp2_with fail
              refine hK.out _ _ (hS.out.top 2) (fun hcur2 => ?_)
              clear hK K
              replace hcur := hcur2
              (try dsimp only at hcur)
              clear hcur2
              (try simp only [Act.put, List.getElem_toArray, List.getElem_cons_zero, List.getElem_cons_succ, List.setIfInBounds_toArray, List.set_cons_zero, List.set_cons_succ])
              clear X
              generalize Y = X at hS HR1 HR2 HHI hcur ⊢
              have H7 := Lib.hid (show g7 < lo ∨ hi ≤ g7 from Or.inl l7)
              clear l7
              refine wpAnyH_take (i := 6) (v := ?_) rfl (by decide +kernel) (by decide +kernel) (by decide +kernel) (fun _ _ _ h => h) (Or.inl ⟨by rfl, ?hy⟩) hcur ?_
              case hy =>
                intro w1 hSw
                (try dsimp only at hSw)
                obtain ⟨x0, x1, x2, x3, x4, x5, x6, x7, -, -, -, -, -, -, -, -⟩ := nd_facts (hSw.has 0 _ _ rfl).1
                obtain ⟨y0, y1, y2, y3, y4, y5, y6, y7, -, -, -, -, -, -, -, -⟩ := nd_facts (hSw.has 1 _ _ rfl).1
                go_simp
                (try with_reducible rfl)
              (try simp only [Act.put, List.getElem_toArray, List.getElem_cons_zero, List.getElem_cons_succ, List.setIfInBounds_toArray, List.set_cons_zero, List.set_cons_succ])
              refine wpAnyH_take (i := 7) (v := ?_) rfl (by decide +kernel) (by decide +kernel) (by decide +kernel) (fun _ _ _ h => h) (Or.inl ⟨by rfl, ?hy⟩) hcur ?_
              case hy =>
                intro w1 hSw
                (try dsimp only at hSw)
                obtain ⟨x0, x1, x2, x3, x4, x5, x6, x7, -, -, -, -, -, -, -, -⟩ := nd_facts (hSw.has 0 _ _ rfl).1
                obtain ⟨y0, y1, y2, y3, y4, y5, y6, y7, -, -, -, -, -, -, -, -⟩ := nd_facts (hSw.has 1 _ _ rfl).1
                go_simp
                (try with_reducible rfl)
              (try simp only [Act.put, List.getElem_toArray, List.getElem_cons_zero, List.getElem_cons_succ, List.setIfInBounds_toArray, List.set_cons_zero, List.set_cons_succ])
              refine wpAnyH_take (i := 8) (v := ?_) rfl (by decide +kernel) (by decide +kernel) (by decide +kernel) (fun _ _ _ h => h) (Or.inl ⟨by rfl, ?hy⟩) hcur ?_
              case hy =>
                intro w1 hSw
                (try dsimp only at hSw)
                obtain ⟨x0, x1, x2, x3, x4, x5, x6, x7, -, -, -, -, -, -, -, -⟩ := nd_facts (hSw.has 0 _ _ rfl).1
                obtain ⟨y0, y1, y2, y3, y4, y5, y6, y7, -, -, -, -, -, -, -, -⟩ := nd_facts (hSw.has 1 _ _ rfl).1
                go_simp
                (try with_reducible rfl)
              (try simp only [Act.put, List.getElem_toArray, List.getElem_cons_zero, List.getElem_cons_succ, List.setIfInBounds_toArray, List.set_cons_zero, List.set_cons_succ])
              refine wpAnyH_ready (rs := [10]) (by decide +kernel) (by simp) ?_
              refine AllReadyH.cons rfl (fun K hK => ?_) AllReadyH.nil
              go_simp
              replace hS := Lib.hid (hS.out.alloc (.cells #[.int .i64 0, .string ⟨#[]⟩, .string ⟨#[]⟩, .bool false, .int .i64 0, .slice none 0 0, .slice none 0 0, .slice none 0 0] 26))
              replace HR1 := HR1.up (below_alloc X (.cells #[.int .i64 0, .string ⟨#[]⟩, .string ⟨#[]⟩, .bool false, .int .i64 0, .slice none 0 0, .slice none 0 0, .slice none 0 0] 26))
              replace HR2 := HR2.up (below_alloc X (.cells #[.int .i64 0, .string ⟨#[]⟩, .string ⟨#[]⟩, .bool false, .int .i64 0, .slice none 0 0, .slice none 0 0, .slice none 0 0] 26))
              have H8 := Lib.hid (show X.heap.size < lo ∨ hi ≤ X.heap.size from Or.inr HHI.out)
              replace HHI := Lib.hid (Nat.le_trans HHI.out (below_alloc X (.cells #[.int .i64 0, .string ⟨#[]⟩, .string ⟨#[]⟩, .bool false, .int .i64 0, .slice none 0 0, .slice none 0 0, .slice none 0 0] 26)).size)
              simp only [List.cons_append, List.nil_append, List.set_cons_zero, List.set_cons_succ] at hS
              refine hK.out _ _ (hS.out.top 2) (fun hcur2 => ?_)
              clear hK K
              replace hcur := hcur2
              (try dsimp only at hcur)
              clear hcur2
              (try simp only [Act.put, List.getElem_toArray, List.getElem_cons_zero, List.getElem_cons_succ, List.setIfInBounds_toArray, List.set_cons_zero, List.set_cons_succ])
              generalize X.heap.size = g8 at hS H8 ⊢
              generalize X.alloc _ = X at hS hcur HR1 HR2 HHI ⊢
              refine wpAnyH_ready (rs := [11]) (by decide +kernel) (by simp) ?_
              refine AllReadyH.cons rfl (fun K hK => ?_) AllReadyH.nil
              obtain ⟨y0, y1, y2, y3, y4, y5, y6, y7, q0, q1, q2, q3, q4, q5, q6, q7⟩ := nd_facts (hS.out.has 4 _ _ rfl).1
              go_simp
              have hZ := hS.out.store 4 rfl (.int .i64 level1) (.string nlow1) (.string high1) (.bool last1) (.int .i64 next1) (.slice P1 keys1.length da1) (.slice P2 vals1.length db1) (.slice P3 kids1.length dc1)
              have hZ1 := HR1.off (set8_off _ (g7) (.int .i64 level1) (.string nlow1) (.string high1) (.bool last1) (.int .i64 next1) (.slice P1 keys1.length da1) (.slice P2 vals1.length db1) (.slice P3 kids1.length dc1)) (fun k q => by subst q; exact H7.out)
              have hZ2 := HR2.off (set8_off _ (g7) (.int .i64 level1) (.string nlow1) (.string high1) (.bool last1) (.int .i64 next1) (.slice P1 keys1.length da1) (.slice P2 vals1.length db1) (.slice P3 kids1.length dc1)) (fun k q => by subst q; exact H7.out)
              simp only [set8, List.set_cons_zero, List.set_cons_succ] at hZ hZ1 hZ2
              clear y0 y1 y2 y3 y4 y5 y6 y7 q0 q1 q2 q3 q4 q5 q6 q7
              replace hS := Lib.hid hZ
              replace HR1 := hZ1
              replace HR2 := hZ2
              clear hZ hZ1 hZ2
              refine hK.out _ _ (hS.out.top 2) (fun hcur2 => ?_)
              clear hK K
              replace hcur := hcur2
              (try dsimp only at hcur)
              clear hcur2
              (try simp only [Act.put, List.getElem_toArray, List.getElem_cons_zero, List.getElem_cons_succ, List.setIfInBounds_toArray, List.set_cons_zero, List.set_cons_succ])
              clear HHI
              have HHI := Lib.hid True.intro
              generalize World.setCell _ _ _ = X at hS HR1 HR2 hcur ⊢
              refine wpAnyH_ready (rs := [12]) (by decide +kernel) (by simp) ?_
              refine AllReadyH.cons rfl (fun K hK => ?_) AllReadyH.nil
              obtain ⟨y0, y1, y2, y3, y4, y5, y6, y7, q0, q1, q2, q3, q4, q5, q6, q7⟩ := nd_facts (hS.out.has 5 _ _ rfl).1
              go_simp
              have hZ := hS.out.store 5 rfl (.int .i64 level2) (.string nlow2) (.string high2) (.bool last2) (.int .i64 next2) (.slice Q1 keys2.length da2) (.slice Q2 vals2.length db2) (.slice Q3 kids2.length dc2)
              have hZ1 := HR1.off (set8_off _ (g8) (.int .i64 level2) (.string nlow2) (.string high2) (.bool last2) (.int .i64 next2) (.slice Q1 keys2.length da2) (.slice Q2 vals2.length db2) (.slice Q3 kids2.length dc2)) (fun k q => by subst q; exact H8.out)
              have hZ2 := HR2.off (set8_off _ (g8) (.int .i64 level2) (.string nlow2) (.string high2) (.bool last2) (.int .i64 next2) (.slice Q1 keys2.length da2) (.slice Q2 vals2.length db2) (.slice Q3 kids2.length dc2)) (fun k q => by subst q; exact H8.out)
              simp only [set8, List.set_cons_zero, List.set_cons_succ] at hZ hZ1 hZ2
              clear y0 y1 y2 y3 y4 y5 y6 y7 q0 q1 q2 q3 q4 q5 q6 q7
              replace hS := Lib.hid hZ
              replace HR1 := hZ1
              replace HR2 := hZ2
              clear hZ hZ1 hZ2
              refine hK.out _ _ (hS.out.top 2) (fun hcur2 => ?_)
              clear hK K
              replace hcur := hcur2
              (try dsimp only at hcur)
              clear hcur2
              (try simp only [Act.put, List.getElem_toArray, List.getElem_cons_zero, List.getElem_cons_succ, List.setIfInBounds_toArray, List.set_cons_zero, List.set_cons_succ])
              clear HHI
              have HHI := Lib.hid True.intro
              generalize World.setCell _ _ _ = X at hS HR1 HR2 hcur ⊢
              refine wpAnyH_done (by decide +kernel) ?_ _
              clear hcur HHI H7 H8
              have HF := Lib.hid (And.intro (hS.out.sub6 4 5 rfl rfl rfl rfl rfl rfl (by omega) (by omega) (by omega)) (And.intro (HR1.toF (B := w.heap.size + 4) (by omega)) (HR2.toF (B := w.heap.size + 4) (by omega))))
              clear hS HR1 HR2 HLO
              go_wp2_with fail
              go_meet
              exact ⟨g7, g8, P1, P2, P3, Q1, Q2, Q3, da1, db1, dc1, da2, db2, dc2, rfl, rfl, HF⟩
            · go_simp
              replace hS := Lib.hid (hS.out.alloc (.cells #[.int .i64 0, .string ⟨#[]⟩, .string ⟨#[]⟩, .bool false, .int .i64 0, .slice none 0 0, .slice none 0 0, .slice none 0 0] 26))
              replace HL := Lib.hid (HL.out.up (below_alloc X (.cells #[.int .i64 0, .string ⟨#[]⟩, .string ⟨#[]⟩, .bool false, .int .i64 0, .slice none 0 0, .slice none 0 0, .slice none 0 0] 26)))
              simp only [List.cons_append, List.nil_append, List.set_cons_zero, List.set_cons_succ] at hS
              refine hK.out _ _ (hS.out.top 2) (fun hcur2 => ?_)
              clear hK K
              replace hcur := hcur2
              (try dsimp only at hcur)
              clear hcur2
              (try simp only [Act.put, List.getElem_toArray, List.getElem_cons_zero, List.getElem_cons_succ, List.setIfInBounds_toArray, List.set_cons_zero, List.set_cons_succ])
              generalize X.heap.size = g8 at hS ⊢
              generalize X.alloc _ = X at hS hcur HL ⊢
              refine wpAnyH_ready (rs := [5]) (by decide +kernel) (by simp) ?_
              refine AllReadyH.cons rfl (fun K hK => ?_) AllReadyH.nil
              have l7 := hS.out.lt (i := 4) rfl
              have l8 := hS.out.lt (i := 5) rfl
              go_simp
              have HLO := hS.out.lt (i := 3) rfl
              refine (HPa.out A1 B1 C1 ca1 cb1 cc1 _ HL.out (by trivial) H3.out).mono ?_
              rintro e Y ⟨P1, P2, P3, Q1, Q2, Q3, da1, db1, dc1, da2, db2, dc2, rfl, hl1, hl2, hb⟩
              replace hS := Lib.hid (hS.out.call hb)
              clear hb HL
              have HR1 := LiesR.of hl1 (Nat.le_refl _)
              have HR2 := LiesR.of hl2 (Nat.le_refl _)
              clear hl1 hl2
              generalize X.heap.size = lo at HR1 HR2 l7 l8 HLO
              obtain ⟨hi, ehi⟩ : ∃ hi, hi = Y.heap.size := ⟨_, rfl⟩
              rw [← ehi] at HR1 HR2
              have HHI := Lib.hid (Nat.le_of_eq ehi)
              clear ehi
              simp only [ndCells] at HR1 HR2 ⊢
              go_wp2_with fail
              refine hK.out _ _ (hS.out.top 2) (fun hcur2 => ?_)
              clear hK K
              replace hcur := hcur2
              (try dsimp only at hcur)
              clear hcur2
              (try simp only [Act.put, List.getElem_toArray, List.getElem_cons_zero, List.getElem_cons_succ, List.setIfInBounds_toArray, List.set_cons_zero, List.set_cons_succ])
              clear X
              generalize Y = X at hS HR1 HR2 HHI hcur ⊢
              have H7 := Lib.hid (show g7 < lo ∨ hi ≤ g7 from Or.inl l7)
              have H8 := Lib.hid (show g8 < lo ∨ hi ≤ g8 from Or.inl l8)
              clear l7
              clear l8
              refine wpAnyH_take (i := 6) (v := ?_) rfl (by decide +kernel) (by decide +kernel) (by decide +kernel) (fun _ _ _ h => h) (Or.inl ⟨by rfl, ?hy⟩) hcur ?_
              case hy =>
                intro w1 hSw
                (try dsimp only at hSw)
                obtain ⟨x0, x1, x2, x3, x4, x5, x6, x7, -, -, -, -, -, -, -, -⟩ := nd_facts (hSw.has 0 _ _ rfl).1
                obtain ⟨y0, y1, y2, y3, y4, y5, y6, y7, -, -, -, -, -, -, -, -⟩ := nd_facts (hSw.has 1 _ _ rfl).1
                go_simp
                (try with_reducible rfl)
              (try simp only [Act.put, List.getElem_toArray, List.getElem_cons_zero, List.getElem_cons_succ, List.setIfInBounds_toArray, List.set_cons_zero, List.set_cons_succ])
              refine wpAnyH_take (i := 7) (v := ?_) rfl (by decide +kernel) (by decide +kernel) (by decide +kernel) (fun _ _ _ h => h) (Or.inl ⟨by rfl, ?hy⟩) hcur ?_
              case hy =>
                intro w1 hSw
                (try dsimp only at hSw)
                obtain ⟨x0, x1, x2, x3, x4, x5, x6, x7, -, -, -, -, -, -, -, -⟩ := nd_facts (hSw.has 0 _ _ rfl).1
                obtain ⟨y0, y1, y2, y3, y4, y5, y6, y7, -, -, -, -, -, -, -, -⟩ := nd_facts (hSw.has 1 _ _ rfl).1
                go_simp
                (try with_reducible rfl)
              (try simp only [Act.put, List.getElem_toArray, List.getElem_cons_zero, List.getElem_cons_succ, List.setIfInBounds_toArray, List.set_cons_zero, List.set_cons_succ])
              refine wpAnyH_take (i := 8) (v := ?_) rfl (by decide +kernel) (by decide +kernel) (by decide +kernel) (fun _ _ _ h => h) (Or.inl ⟨by rfl, ?hy⟩) hcur ?_
              case hy =>
                intro w1 hSw
                (try dsimp only at hSw)
                obtain ⟨x0, x1, x2, x3, x4, x5, x6, x7, -, -, -, -, -, -, -, -⟩ := nd_facts (hSw.has 0 _ _ rfl).1
                obtain ⟨y0, y1, y2, y3, y4, y5, y6, y7, -, -, -, -, -, -, -, -⟩ := nd_facts (hSw.has 1 _ _ rfl).1
                go_simp
                (try with_reducible rfl)
              (try simp only [Act.put, List.getElem_toArray, List.getElem_cons_zero, List.getElem_cons_succ, List.setIfInBounds_toArray, List.set_cons_zero, List.set_cons_succ])
              refine wpAnyH_ready (rs := [11]) (by decide +kernel) (by simp) ?_
              refine AllReadyH.cons rfl (fun K hK => ?_) AllReadyH.nil
              obtain ⟨y0, y1, y2, y3, y4, y5, y6, y7, q0, q1, q2, q3, q4, q5, q6, q7⟩ := nd_facts (hS.out.has 4 _ _ rfl).1
              go_simp
              have hZ := hS.out.store 4 rfl (.int .i64 level1) (.string nlow1) (.string high1) (.bool last1) (.int .i64 next1) (.slice P1 keys1.length da1) (.slice P2 vals1.length db1) (.slice P3 kids1.length dc1)
              have hZ1 := HR1.off (set8_off _ (g7) (.int .i64 level1) (.string nlow1) (.string high1) (.bool last1) (.int .i64 next1) (.slice P1 keys1.length da1) (.slice P2 vals1.length db1) (.slice P3 kids1.length dc1)) (fun k q => by subst q; exact H7.out)
              have hZ2 := HR2.off (set8_off _ (g7) (.int .i64 level1) (.string nlow1) (.string high1) (.bool last1) (.int .i64 next1) (.slice P1 keys1.length da1) (.slice P2 vals1.length db1) (.slice P3 kids1.length dc1)) (fun k q => by subst q; exact H7.out)
              simp only [set8, List.set_cons_zero, List.set_cons_succ] at hZ hZ1 hZ2
              clear y0 y1 y2 y3 y4 y5 y6 y7 q0 q1 q2 q3 q4 q5 q6 q7
              replace hS := Lib.hid hZ
              replace HR1 := hZ1
              replace HR2 := hZ2
              clear hZ hZ1 hZ2
              refine hK.out _ _ (hS.out.top 2) (fun hcur2 => ?_)
              clear hK K
              replace hcur := hcur2
              (try dsimp only at hcur)
              clear hcur2
              (try simp only [Act.put, List.getElem_toArray, List.getElem_cons_zero, List.getElem_cons_succ, List.setIfInBounds_toArray, List.set_cons_zero, List.set_cons_succ])
              clear HHI
              have HHI := Lib.hid True.intro
              generalize World.setCell _ _ _ = X at hS HR1 HR2 hcur ⊢
              refine wpAnyH_ready (rs := [12]) (by decide +kernel) (by simp) ?_
              refine AllReadyH.cons rfl (fun K hK => ?_) AllReadyH.nil
              obtain ⟨y0, y1, y2, y3, y4, y5, y6, y7, q0, q1, q2, q3, q4, q5, q6, q7⟩ := nd_facts (hS.out.has 5 _ _ rfl).1
              go_simp
              have hZ := hS.out.store 5 rfl (.int .i64 level2) (.string nlow2) (.string high2) (.bool last2) (.int .i64 next2) (.slice Q1 keys2.length da2) (.slice Q2 vals2.length db2) (.slice Q3 kids2.length dc2)
              have hZ1 := HR1.off (set8_off _ (g8) (.int .i64 level2) (.string nlow2) (.string high2) (.bool last2) (.int .i64 next2) (.slice Q1 keys2.length da2) (.slice Q2 vals2.length db2) (.slice Q3 kids2.length dc2)) (fun k q => by subst q; exact H8.out)
              have hZ2 := HR2.off (set8_off _ (g8) (.int .i64 level2) (.string nlow2) (.string high2) (.bool last2) (.int .i64 next2) (.slice Q1 keys2.length da2) (.slice Q2 vals2.length db2) (.slice Q3 kids2.length dc2)) (fun k q => by subst q; exact H8.out)
              simp only [set8, List.set_cons_zero, List.set_cons_succ] at hZ hZ1 hZ2
              clear y0 y1 y2 y3 y4 y5 y6 y7 q0 q1 q2 q3 q4 q5 q6 q7
              replace hS := Lib.hid hZ
              replace HR1 := hZ1
              replace HR2 := hZ2
              clear hZ hZ1 hZ2
              refine hK.out _ _ (hS.out.top 2) (fun hcur2 => ?_)
              clear hK K
              replace hcur := hcur2
              (try dsimp only at hcur)
              clear hcur2
              (try simp only [Act.put, List.getElem_toArray, List.getElem_cons_zero, List.getElem_cons_succ, List.setIfInBounds_toArray, List.set_cons_zero, List.set_cons_succ])
              clear HHI
              have HHI := Lib.hid True.intro
              generalize World.setCell _ _ _ = X at hS HR1 HR2 hcur ⊢
              refine wpAnyH_done (by decide +kernel) ?_ _
              clear hcur HHI H7 H8
              have HF := Lib.hid (And.intro (hS.out.sub6 4 5 rfl rfl rfl rfl rfl rfl (by omega) (by omega) (by omega)) (And.intro (HR1.toF (B := w.heap.size + 4) (by omega)) (HR2.toF (B := w.heap.size + 4) (by omega))))
              clear hS HR1 HR2 HLO
              go_wp2_with fail
              go_meet
              exact ⟨g7, g8, P1, P2, P3, Q1, Q2, Q3, da1, db1, dc1, da2, db2, dc2, rfl, rfl, HF⟩
          · go_simp
            replace hS := Lib.hid (hS.out.alloc (.cells #[.int .i64 0, .string ⟨#[]⟩, .string ⟨#[]⟩, .bool false, .int .i64 0, .slice none 0 0, .slice none 0 0, .slice none 0 0] 26))
            replace HL := Lib.hid (HL.out.up (below_alloc X (.cells #[.int .i64 0, .string ⟨#[]⟩, .string ⟨#[]⟩, .bool false, .int .i64 0, .slice none 0 0, .slice none 0 0, .slice none 0 0] 26)))
            simp only [List.cons_append, List.nil_append, List.set_cons_zero, List.set_cons_succ] at hS
            refine hK.out _ _ (hS.out.top 2) (fun hcur2 => ?_)
            clear hK K
            replace hcur := hcur2
            (try dsimp only at hcur)
            clear hcur2
            (try simp only [Act.put, List.getElem_toArray, List.getElem_cons_zero, List.getElem_cons_succ, List.setIfInBounds_toArray, List.set_cons_zero, List.set_cons_succ])
            generalize X.heap.size = g8 at hS ⊢
            generalize X.alloc _ = X at hS hcur HL ⊢
            refine wpAnyH_ready (rs := [5, 9]) (by decide +kernel) (by simp) ?_
            refine AllReadyH.cons rfl (fun K hK => ?_) (AllReadyH.cons rfl (fun K hK => ?_) AllReadyH.nil)
            · have l8 := hS.out.lt (i := 4) rfl
              go_simp
              have HLO := hS.out.lt (i := 3) rfl
              refine (HPa.out A1 B1 C1 ca1 cb1 cc1 _ HL.out (by trivial) H3.out).mono ?_
              rintro e Y ⟨P1, P2, P3, Q1, Q2, Q3, da1, db1, dc1, da2, db2, dc2, rfl, hl1, hl2, hb⟩
              replace hS := Lib.hid (hS.out.call hb)
              clear hb HL
              have HR1 := LiesR.of hl1 (Nat.le_refl _)
              have HR2 := LiesR.of hl2 (Nat.le_refl _)
              clear hl1 hl2
              generalize X.heap.size = lo at HR1 HR2 l8 HLO
              obtain ⟨hi, ehi⟩ : ∃ hi, hi = Y.heap.size := ⟨_, rfl⟩
              rw [← ehi] at HR1 HR2
              have HHI := Lib.hid (Nat.le_of_eq ehi)
              clear ehi
              simp only [ndCells] at HR1 HR2 ⊢
              go_wp2_with fail
              refine hK.out _ _ (hS.out.top 2) (fun hcur2 => ?_)
              clear hK K
              replace hcur := hcur2
              (try dsimp only at hcur)
              clear hcur2
              (try simp only [Act.put, List.getElem_toArray, List.getElem_cons_zero, List.getElem_cons_succ, List.setIfInBounds_toArray, List.set_cons_zero, List.set_cons_succ])
              clear X
              generalize Y = X at hS HR1 HR2 HHI hcur ⊢
              have H8 := Lib.hid (show g8 < lo ∨ hi ≤ g8 from Or.inl l8)
              clear l8
              refine wpAnyH_take (i := 6) (v := ?_) rfl (by decide +kernel) (by decide +kernel) (by decide +kernel) (fun _ _ _ h => h) (Or.inl ⟨by rfl, ?hy⟩) hcur ?_
              case hy =>
                intro w1 hSw
                (try dsimp only at hSw)
                obtain ⟨x0, x1, x2, x3, x4, x5, x6, x7, -, -, -, -, -, -, -, -⟩ := nd_facts (hSw.has 0 _ _ rfl).1
                obtain ⟨y0, y1, y2, y3, y4, y5, y6, y7, -, -, -, -, -, -, -, -⟩ := nd_facts (hSw.has 1 _ _ rfl).1
                go_simp
                (try with_reducible rfl)
              (try simp only [Act.put, List.getElem_toArray, List.getElem_cons_zero, List.getElem_cons_succ, List.setIfInBounds_toArray, List.set_cons_zero, List.set_cons_succ])
              refine wpAnyH_take (i := 7) (v := ?_) rfl (by decide +kernel) (by decide +kernel) (by decide +kernel) (fun _ _ _ h => h) (Or.inl ⟨by rfl, ?hy⟩) hcur ?_
              case hy =>
                intro w1 hSw
                (try dsimp only at hSw)
                obtain ⟨x0, x1, x2, x3, x4, x5, x6, x7, -, -, -, -, -, -, -, -⟩ := nd_facts (hSw.has 0 _ _ rfl).1
                obtain ⟨y0, y1, y2, y3, y4, y5, y6, y7, -, -, -, -, -, -, -, -⟩ := nd_facts (hSw.has 1 _ _ rfl).1
                go_simp
                (try with_reducible rfl)
              (try simp only [Act.put, List.getElem_toArray, List.getElem_cons_zero, List.getElem_cons_succ, List.setIfInBounds_toArray, List.set_cons_zero, List.set_cons_succ])
              refine wpAnyH_take (i := 8) (v := ?_) rfl (by decide +kernel) (by decide +kernel) (by decide +kernel) (fun _ _ _ h => h) (Or.inl ⟨by rfl, ?hy⟩) hcur ?_
              case hy =>
                intro w1 hSw
                (try dsimp only at hSw)
                obtain ⟨x0, x1, x2, x3, x4, x5, x6, x7, -, -, -, -, -, -, -, -⟩ := nd_facts (hSw.has 0 _ _ rfl).1
                obtain ⟨y0, y1, y2, y3, y4, y5, y6, y7, -, -, -, -, -, -, -, -⟩ := nd_facts (hSw.has 1 _ _ rfl).1
                go_simp
                (try with_reducible rfl)
              (try simp only [Act.put, List.getElem_toArray, List.getElem_cons_zero, List.getElem_cons_succ, List.setIfInBounds_toArray, List.set_cons_zero, List.set_cons_succ])
              refine wpAnyH_ready (rs := [9]) (by decide +kernel) (by simp) ?_
              refine AllReadyH.cons rfl (fun K hK => ?_) AllReadyH.nil
              go_simp
              replace hS := Lib.hid (hS.out.alloc (.cells #[.int .i64 0, .string ⟨#[]⟩, .string ⟨#[]⟩, .bool false, .int .i64 0, .slice none 0 0, .slice none 0 0, .slice none 0 0] 26))
              replace HR1 := HR1.up (below_alloc X (.cells #[.int .i64 0, .string ⟨#[]⟩, .string ⟨#[]⟩, .bool false, .int .i64 0, .slice none 0 0, .slice none 0 0, .slice none 0 0] 26))
              replace HR2 := HR2.up (below_alloc X (.cells #[.int .i64 0, .string ⟨#[]⟩, .string ⟨#[]⟩, .bool false, .int .i64 0, .slice none 0 0, .slice none 0 0, .slice none 0 0] 26))
              have H7 := Lib.hid (show X.heap.size < lo ∨ hi ≤ X.heap.size from Or.inr HHI.out)
              replace HHI := Lib.hid (Nat.le_trans HHI.out (below_alloc X (.cells #[.int .i64 0, .string ⟨#[]⟩, .string ⟨#[]⟩, .bool false, .int .i64 0, .slice none 0 0, .slice none 0 0, .slice none 0 0] 26)).size)
              simp only [List.cons_append, List.nil_append, List.set_cons_zero, List.set_cons_succ] at hS
              refine hK.out _ _ (hS.out.top 2) (fun hcur2 => ?_)
              clear hK K
              replace hcur := hcur2
              (try dsimp only at hcur)
              clear hcur2
              (try simp only [Act.put, List.getElem_toArray, List.getElem_cons_zero, List.getElem_cons_succ, List.setIfInBounds_toArray, List.set_cons_zero, List.set_cons_succ])
              generalize X.heap.size = g7 at hS H7 ⊢
              generalize X.alloc _ = X at hS hcur HR1 HR2 HHI ⊢
              refine wpAnyH_ready (rs := [11]) (by decide +kernel) (by simp) ?_
              refine AllReadyH.cons rfl (fun K hK => ?_) AllReadyH.nil
              obtain ⟨y0, y1, y2, y3, y4, y5, y6, y7, q0, q1, q2, q3, q4, q5, q6, q7⟩ := nd_facts (hS.out.has 5 _ _ rfl).1
              go_simp
              have hZ := hS.out.store 5 rfl (.int .i64 level1) (.string nlow1) (.string high1) (.bool last1) (.int .i64 next1) (.slice P1 keys1.length da1) (.slice P2 vals1.length db1) (.slice P3 kids1.length dc1)
              have hZ1 := HR1.off (set8_off _ (g7) (.int .i64 level1) (.string nlow1) (.string high1) (.bool last1) (.int .i64 next1) (.slice P1 keys1.length da1) (.slice P2 vals1.length db1) (.slice P3 kids1.length dc1)) (fun k q => by subst q; exact H7.out)
              have hZ2 := HR2.off (set8_off _ (g7) (.int .i64 level1) (.string nlow1) (.string high1) (.bool last1) (.int .i64 next1) (.slice P1 keys1.length da1) (.slice P2 vals1.length db1) (.slice P3 kids1.length dc1)) (fun k q => by subst q; exact H7.out)
              simp only [set8, List.set_cons_zero, List.set_cons_succ] at hZ hZ1 hZ2
              clear y0 y1 y2 y3 y4 y5 y6 y7 q0 q1 q2 q3 q4 q5 q6 q7
              replace hS := Lib.hid hZ
              replace HR1 := hZ1
              replace HR2 := hZ2
              clear hZ hZ1 hZ2
              refine hK.out _ _ (hS.out.top 2) (fun hcur2 => ?_)
              clear hK K
              replace hcur := hcur2
              (try dsimp only at hcur)
              clear hcur2
              (try simp only [Act.put, List.getElem_toArray, List.getElem_cons_zero, List.getElem_cons_succ, List.setIfInBounds_toArray, List.set_cons_zero, List.set_cons_succ])
              clear HHI
              have HHI := Lib.hid True.intro
              generalize World.setCell _ _ _ = X at hS HR1 HR2 hcur ⊢
              refine wpAnyH_ready (rs := [12]) (by decide +kernel) (by simp) ?_
              refine AllReadyH.cons rfl (fun K hK => ?_) AllReadyH.nil
              obtain ⟨y0, y1, y2, y3, y4, y5, y6, y7, q0, q1, q2, q3, q4, q5, q6, q7⟩ := nd_facts (hS.out.has 4 _ _ rfl).1
              go_simp
              have hZ := hS.out.store 4 rfl (.int .i64 level2) (.string nlow2) (.string high2) (.bool last2) (.int .i64 next2) (.slice Q1 keys2.length da2) (.slice Q2 vals2.length db2) (.slice Q3 kids2.length dc2)
              have hZ1 := HR1.off (set8_off _ (g8) (.int .i64 level2) (.string nlow2) (.string high2) (.bool last2) (.int .i64 next2) (.slice Q1 keys2.length da2) (.slice Q2 vals2.length db2) (.slice Q3 kids2.length dc2)) (fun k q => by subst q; exact H8.out)
              have hZ2 := HR2.off (set8_off _ (g8) (.int .i64 level2) (.string nlow2) (.string high2) (.bool last2) (.int .i64 next2) (.slice Q1 keys2.length da2) (.slice Q2 vals2.length db2) (.slice Q3 kids2.length dc2)) (fun k q => by subst q; exact H8.out)
              simp only [set8, List.set_cons_zero, List.set_cons_succ] at hZ hZ1 hZ2
              clear y0 y1 y2 y3 y4 y5 y6 y7 q0 q1 q2 q3 q4 q5 q6 q7
              replace hS := Lib.hid hZ
              replace HR1 := hZ1
              replace HR2 := hZ2
              clear hZ hZ1 hZ2
              refine hK.out _ _ (hS.out.top 2) (fun hcur2 => ?_)
              clear hK K
              replace hcur := hcur2
              (try dsimp only at hcur)
              clear hcur2
              (try simp only [Act.put, List.getElem_toArray, List.getElem_cons_zero, List.getElem_cons_succ, List.setIfInBounds_toArray, List.set_cons_zero, List.set_cons_succ])
              clear HHI
              have HHI := Lib.hid True.intro
              generalize World.setCell _ _ _ = X at hS HR1 HR2 hcur ⊢
              refine wpAnyH_done (by decide +kernel) ?_ _
              clear hcur HHI H7 H8
              have HF := Lib.hid (And.intro (hS.out.sub6 5 4 rfl rfl rfl rfl rfl rfl (by omega) (by omega) (by omega)) (And.intro (HR1.toF (B := w.heap.size + 4) (by omega)) (HR2.toF (B := w.heap.size + 4) (by omega))))
              clear hS HR1 HR2 HLO
              go_wp2_with fail
              go_meet
              exact ⟨g7, g8, P1, P2, P3, Q1, Q2, Q3, da1, db1, dc1, da2, db2, dc2, rfl, rfl, HF⟩
            · go_simp
              replace hS := Lib.hid (hS.out.alloc (.cells #[.int .i64 0, .string ⟨#[]⟩, .string ⟨#[]⟩, .bool false, .int .i64 0, .slice none 0 0, .slice none 0 0, .slice none 0 0] 26))
              replace HL := Lib.hid (HL.out.up (below_alloc X (.cells #[.int .i64 0, .string ⟨#[]⟩, .string ⟨#[]⟩, .bool false, .int .i64 0, .slice none 0 0, .slice none 0 0, .slice none 0 0] 26)))
              simp only [List.cons_append, List.nil_append, List.set_cons_zero, List.set_cons_succ] at hS
              refine hK.out _ _ (hS.out.top 2) (fun hcur2 => ?_)
              clear hK K
              replace hcur := hcur2
              (try dsimp only at hcur)
              clear hcur2
              (try simp only [Act.put, List.getElem_toArray, List.getElem_cons_zero, List.getElem_cons_succ, List.setIfInBounds_toArray, List.set_cons_zero, List.set_cons_succ])
              generalize X.heap.size = g7 at hS ⊢
              generalize X.alloc _ = X at hS hcur HL ⊢
              refine wpAnyH_ready (rs := [5]) (by decide +kernel) (by simp) ?_
              refine AllReadyH.cons rfl (fun K hK => ?_) AllReadyH.nil
              have l7 := hS.out.lt (i := 5) rfl
              have l8 := hS.out.lt (i := 4) rfl
              go_simp
              have HLO := hS.out.lt (i := 3) rfl
              refine (HPa.out A1 B1 C1 ca1 cb1 cc1 _ HL.out (by trivial) H3.out).mono ?_
              rintro e Y ⟨P1, P2, P3, Q1, Q2, Q3, da1, db1, dc1, da2, db2, dc2, rfl, hl1, hl2, hb⟩
              replace hS := Lib.hid (hS.out.call hb)
              clear hb HL
              have HR1 := LiesR.of hl1 (Nat.le_refl _)
              have HR2 := LiesR.of hl2 (Nat.le_refl _)
              clear hl1 hl2
              generalize X.heap.size = lo at HR1 HR2 l7 l8 HLO
              obtain ⟨hi, ehi⟩ : ∃ hi, hi = Y.heap.size := ⟨_, rfl⟩
              rw [← ehi] at HR1 HR2
              have HHI := Lib.hid (Nat.le_of_eq ehi)
              clear ehi
              simp only [ndCells] at HR1 HR2 ⊢
              go_wp2_with fail
              refine hK.out _ _ (hS.out.top 2) (fun hcur2 => ?_)
              clear hK K
              replace hcur := hcur2
              (try dsimp only at hcur)
              clear hcur2
              (try simp only [Act.put, List.getElem_toArray, List.getElem_cons_zero, List.getElem_cons_succ, List.setIfInBounds_toArray, List.set_cons_zero, List.set_cons_succ])
              clear X
              generalize Y = X at hS HR1 HR2 HHI hcur ⊢
              have H7 := Lib.hid (show g7 < lo ∨ hi ≤ g7 from Or.inl l7)
              have H8 := Lib.hid (show g8 < lo ∨ hi ≤ g8 from Or.inl l8)
              clear l7
              clear l8
              refine wpAnyH_take (i := 6) (v := ?_) rfl (by decide +kernel) (by decide +kernel) (by decide +kernel) (fun _ _ _ h => h) (Or.inl ⟨by rfl, ?hy⟩) hcur ?_
              case hy =>
                intro w1 hSw
                (try dsimp only at hSw)
                obtain ⟨x0, x1, x2, x3, x4, x5, x6, x7, -, -, -, -, -, -, -, -⟩ := nd_facts (hSw.has 0 _ _ rfl).1
                obtain ⟨y0, y1, y2, y3, y4, y5, y6, y7, -, -, -, -, -, -, -, -⟩ := nd_facts (hSw.has 1 _ _ rfl).1
                go_simp
                (try with_reducible rfl)
              (try simp only [Act.put, List.getElem_toArray, List.getElem_cons_zero, List.getElem_cons_succ, List.setIfInBounds_toArray, List.set_cons_zero, List.set_cons_succ])
              refine wpAnyH_take (i := 7) (v := ?_) rfl (by decide +kernel) (by decide +kernel) (by decide +kernel) (fun _ _ _ h => h) (Or.inl ⟨by rfl, ?hy⟩) hcur ?_
              case hy =>
                intro w1 hSw
                (try dsimp only at hSw)
                obtain ⟨x0, x1, x2, x3, x4, x5, x6, x7, -, -, -, -, -, -, -, -⟩ := nd_facts (hSw.has 0 _ _ rfl).1
                obtain ⟨y0, y1, y2, y3, y4, y5, y6, y7, -, -, -, -, -, -, -, -⟩ := nd_facts (hSw.has 1 _ _ rfl).1
                go_simp
                (try with_reducible rfl)
              (try simp only [Act.put, List.getElem_toArray, List.getElem_cons_zero, List.getElem_cons_succ, List.setIfInBounds_toArray, List.set_cons_zero, List.set_cons_succ])
              refine wpAnyH_take (i := 8) (v := ?_) rfl (by decide +kernel) (by decide +kernel) (by decide +kernel) (fun _ _ _ h => h) (Or.inl ⟨by rfl, ?hy⟩) hcur ?_
              case hy =>
                intro w1 hSw
                (try dsimp only at hSw)
                obtain ⟨x0, x1, x2, x3, x4, x5, x6, x7, -, -, -, -, -, -, -, -⟩ := nd_facts (hSw.has 0 _ _ rfl).1
                obtain ⟨y0, y1, y2, y3, y4, y5, y6, y7, -, -, -, -, -, -, -, -⟩ := nd_facts (hSw.has 1 _ _ rfl).1
                go_simp
                (try with_reducible rfl)
              (try simp only [Act.put, List.getElem_toArray, List.getElem_cons_zero, List.getElem_cons_succ, List.setIfInBounds_toArray, List.set_cons_zero, List.set_cons_succ])
              refine wpAnyH_ready (rs := [11]) (by decide +kernel) (by simp) ?_
              refine AllReadyH.cons rfl (fun K hK => ?_) AllReadyH.nil
              obtain ⟨y0, y1, y2, y3, y4, y5, y6, y7, q0, q1, q2, q3, q4, q5, q6, q7⟩ := nd_facts (hS.out.has 5 _ _ rfl).1
              go_simp
              have hZ := hS.out.store 5 rfl (.int .i64 level1) (.string nlow1) (.string high1) (.bool last1) (.int .i64 next1) (.slice P1 keys1.length da1) (.slice P2 vals1.length db1) (.slice P3 kids1.length dc1)
              have hZ1 := HR1.off (set8_off _ (g7) (.int .i64 level1) (.string nlow1) (.string high1) (.bool last1) (.int .i64 next1) (.slice P1 keys1.length da1) (.slice P2 vals1.length db1) (.slice P3 kids1.length dc1)) (fun k q => by subst q; exact H7.out)
              have hZ2 := HR2.off (set8_off _ (g7) (.int .i64 level1) (.string nlow1) (.string high1) (.bool last1) (.int .i64 next1) (.slice P1 keys1.length da1) (.slice P2 vals1.length db1) (.slice P3 kids1.length dc1)) (fun k q => by subst q; exact H7.out)
              simp only [set8, List.set_cons_zero, List.set_cons_succ] at hZ hZ1 hZ2
              clear y0 y1 y2 y3 y4 y5 y6 y7 q0 q1 q2 q3 q4 q5 q6 q7
              replace hS := Lib.hid hZ
              replace HR1 := hZ1
              replace HR2 := hZ2
              clear hZ hZ1 hZ2
              refine hK.out _ _ (hS.out.top 2) (fun hcur2 => ?_)
              clear hK K
              replace hcur := hcur2
              (try dsimp only at hcur)
              clear hcur2
              (try simp only [Act.put, List.getElem_toArray, List.getElem_cons_zero, List.getElem_cons_succ, List.setIfInBounds_toArray, List.set_cons_zero, List.set_cons_succ])
              clear HHI
              have HHI := Lib.hid True.intro
              generalize World.setCell _ _ _ = X at hS HR1 HR2 hcur ⊢
              refine wpAnyH_ready (rs := [12]) (by decide +kernel) (by simp) ?_
              refine AllReadyH.cons rfl (fun K hK => ?_) AllReadyH.nil
              obtain ⟨y0, y1, y2, y3, y4, y5, y6, y7, q0, q1, q2, q3, q4, q5, q6, q7⟩ := nd_facts (hS.out.has 4 _ _ rfl).1
              go_simp
              have hZ := hS.out.store 4 rfl (.int .i64 level2) (.string nlow2) (.string high2) (.bool last2) (.int .i64 next2) (.slice Q1 keys2.length da2) (.slice Q2 vals2.length db2) (.slice Q3 kids2.length dc2)
              have hZ1 := HR1.off (set8_off _ (g8) (.int .i64 level2) (.string nlow2) (.string high2) (.bool last2) (.int .i64 next2) (.slice Q1 keys2.length da2) (.slice Q2 vals2.length db2) (.slice Q3 kids2.length dc2)) (fun k q => by subst q; exact H8.out)
              have hZ2 := HR2.off (set8_off _ (g8) (.int .i64 level2) (.string nlow2) (.string high2) (.bool last2) (.int .i64 next2) (.slice Q1 keys2.length da2) (.slice Q2 vals2.length db2) (.slice Q3 kids2.length dc2)) (fun k q => by subst q; exact H8.out)
              simp only [set8, List.set_cons_zero, List.set_cons_succ] at hZ hZ1 hZ2
              clear y0 y1 y2 y3 y4 y5 y6 y7 q0 q1 q2 q3 q4 q5 q6 q7
              replace hS := Lib.hid hZ
              replace HR1 := hZ1
              replace HR2 := hZ2
              clear hZ hZ1 hZ2
              refine hK.out _ _ (hS.out.top 2) (fun hcur2 => ?_)
              clear hK K
              replace hcur := hcur2
              (try dsimp only at hcur)
              clear hcur2
              (try simp only [Act.put, List.getElem_toArray, List.getElem_cons_zero, List.getElem_cons_succ, List.setIfInBounds_toArray, List.set_cons_zero, List.set_cons_succ])
              clear HHI
              have HHI := Lib.hid True.intro
              generalize World.setCell _ _ _ = X at hS HR1 HR2 hcur ⊢
              refine wpAnyH_done (by decide +kernel) ?_ _
              clear hcur HHI H7 H8
              have HF := Lib.hid (And.intro (hS.out.sub6 5 4 rfl rfl rfl rfl rfl rfl (by omega) (by omega) (by omega)) (And.intro (HR1.toF (B := w.heap.size + 4) (by omega)) (HR2.toF (B := w.heap.size + 4) (by omega))))
              clear hS HR1 HR2 HLO
              go_wp2_with fail
              go_meet
              exact ⟨g7, g8, P1, P2, P3, Q1, Q2, Q3, da1, db1, dc1, da2, db2, dc2, rfl, rfl, HF⟩
        · go_simp
          replace hS := Lib.hid (hS.out.alloc (.cells #[.int .i64 0, .string ⟨#[]⟩, .string ⟨#[]⟩, .bool false, .int .i64 0, .slice none 0 0, .slice none 0 0, .slice none 0 0] 26))
          simp only [List.cons_append, List.nil_append, List.set_cons_zero, List.set_cons_succ] at hS
          refine hK.out _ _ (hS.out.top 2) (fun hcur2 => ?_)
          clear hK K
          replace hcur := hcur2
          (try dsimp only at hcur)
          clear hcur2
          (try simp only [Act.put, List.getElem_toArray, List.getElem_cons_zero, List.getElem_cons_succ, List.setIfInBounds_toArray, List.set_cons_zero, List.set_cons_succ])
          generalize X.heap.size = g7 at hS ⊢
          generalize X.alloc _ = X at hS hcur ⊢
          refine wpAnyH_ready (rs := [2, 10]) (by decide +kernel) (by simp) ?_
          refine AllReadyH.cons rfl (fun K hK => ?_) (AllReadyH.cons rfl (fun K hK => ?_) AllReadyH.nil)
          · go_simp
            refine (HBo.out _ (HA.out.up hS.out.below) (HB.out.up hS.out.below) (by trivial)).mono ?_
            rintro e X ⟨A1, B1, C1, ca1, cb1, cc1, rfl, hl, hb⟩
            replace hS := Lib.hid (hS.out.call hb)
            have HL := Lib.hid hl.lies
            clear hl hb
            go_wp2_with fail
            refine hK.out _ _ (hS.out.top 2) (fun hcur2 => ?_)
            clear hK K
            replace hcur := hcur2
            (try dsimp only at hcur)
            clear hcur2
            (try simp only [Act.put, List.getElem_toArray, List.getElem_cons_zero, List.getElem_cons_succ, List.setIfInBounds_toArray, List.set_cons_zero, List.set_cons_succ])
            refine wpAnyH_ready (rs := [5, 10]) (by decide +kernel) (by simp) ?_
            refine AllReadyH.cons rfl (fun K hK => ?_) (AllReadyH.cons rfl (fun K hK => ?_) AllReadyH.nil)
            · have l7 := hS.out.lt (i := 4) rfl
              go_simp
              have HLO := hS.out.lt (i := 3) rfl
              refine (HPa.out A1 B1 C1 ca1 cb1 cc1 _ HL.out (by trivial) H3.out).mono ?_
              rintro e Y ⟨P1, P2, P3, Q1, Q2, Q3, da1, db1, dc1, da2, db2, dc2, rfl, hl1, hl2, hb⟩
              replace hS := Lib.hid (hS.out.call hb)
              clear hb HL
              have HR1 := LiesR.of hl1 (Nat.le_refl _)
              have HR2 := LiesR.of hl2 (Nat.le_refl _)
              clear hl1 hl2
              generalize X.heap.size = lo at HR1 HR2 l7  HLO
              obtain ⟨hi, ehi⟩ : ∃ hi, hi = Y.heap.size := ⟨_, rfl⟩
              rw [← ehi] at HR1 HR2
              have HHI := Lib.hid (Nat.le_of_eq ehi)
              clear ehi
              simp only [ndCells] at HR1 HR2 ⊢
              go_wp2_with fail
              refine hK.out _ _ (hS.out.top 2) (fun hcur2 => ?_)
              clear hK K
              replace hcur := hcur2
              (try dsimp only at hcur)
              clear hcur2
              (try simp only [Act.put, List.getElem_toArray, List.getElem_cons_zero, List.getElem_cons_succ, List.setIfInBounds_toArray, List.set_cons_zero, List.set_cons_succ])
              clear X
              generalize Y = X at hS HR1 HR2 HHI hcur ⊢
              have H7 := Lib.hid (show g7 < lo ∨ hi ≤ g7 from Or.inl l7)
              clear l7
              refine wpAnyH_take (i := 6) (v := ?_) rfl (by decide +kernel) (by decide +kernel) (by decide +kernel) (fun _ _ _ h => h) (Or.inl ⟨by rfl, ?hy⟩) hcur ?_
              case hy =>
                intro w1 hSw
                (try dsimp only at hSw)
                obtain ⟨x0, x1, x2, x3, x4, x5, x6, x7, -, -, -, -, -, -, -, -⟩ := nd_facts (hSw.has 0 _ _ rfl).1
                obtain ⟨y0, y1, y2, y3, y4, y5, y6, y7, -, -, -, -, -, -, -, -⟩ := nd_facts (hSw.has 1 _ _ rfl).1
                go_simp
                (try with_reducible rfl)
              (try simp only [Act.put, List.getElem_toArray, List.getElem_cons_zero, List.getElem_cons_succ, List.setIfInBounds_toArray, List.set_cons_zero, List.set_cons_succ])
              refine wpAnyH_take (i := 7) (v := ?_) rfl (by decide +kernel) (by decide +kernel) (by decide +kernel) (fun _ _ _ h => h) (Or.inl ⟨by rfl, ?hy⟩) hcur ?_
              case hy =>
                intro w1 hSw
                (try dsimp only at hSw)
                obtain ⟨x0, x1, x2, x3, x4, x5, x6, x7, -, -, -, -, -, -, -, -⟩ := nd_facts (hSw.has 0 _ _ rfl).1
                obtain ⟨y0, y1, y2, y3, y4, y5, y6, y7, -, -, -, -, -, -, -, -⟩ := nd_facts (hSw.has 1 _ _ rfl).1
                go_simp
                (try with_reducible rfl)
              (try simp only [Act.put, List.getElem_toArray, List.getElem_cons_zero, List.getElem_cons_succ, List.setIfInBounds_toArray, List.set_cons_zero, List.set_cons_succ])
              refine wpAnyH_take (i := 8) (v := ?_) rfl (by decide +kernel) (by decide +kernel) (by decide +kernel) (fun _ _ _ h => h) (Or.inl ⟨by rfl, ?hy⟩) hcur ?_
              case hy =>
                intro w1 hSw
                (try dsimp only at hSw)
                obtain ⟨x0, x1, x2, x3, x4, x5, x6, x7, -, -, -, -, -, -, -, -⟩ := nd_facts (hSw.has 0 _ _ rfl).1
                obtain ⟨y0, y1, y2, y3, y4, y5, y6, y7, -, -, -, -, -, -, -, -⟩ := nd_facts (hSw.has 1 _ _ rfl).1
                go_simp
                (try with_reducible rfl)
              (try simp only [Act.put, List.getElem_toArray, List.getElem_cons_zero, List.getElem_cons_succ, List.setIfInBounds_toArray, List.set_cons_zero, List.set_cons_succ])
              refine wpAnyH_ready (rs := [10]) (by decide +kernel) (by simp) ?_
              refine AllReadyH.cons rfl (fun K hK => ?_) AllReadyH.nil
              go_simp
              replace hS := Lib.hid (hS.out.alloc (.cells #[.int .i64 0, .string ⟨#[]⟩, .string ⟨#[]⟩, .bool false, .int .i64 0, .slice none 0 0, .slice none 0 0, .slice none 0 0] 26))
              replace HR1 := HR1.up (below_alloc X (.cells #[.int .i64 0, .string ⟨#[]⟩, .string ⟨#[]⟩, .bool false, .int .i64 0, .slice none 0 0, .slice none 0 0, .slice none 0 0] 26))
              replace HR2 := HR2.up (below_alloc X (.cells #[.int .i64 0, .string ⟨#[]⟩, .string ⟨#[]⟩, .bool false, .int .i64 0, .slice none 0 0, .slice none 0 0, .slice none 0 0] 26))
              have H8 := Lib.hid (show X.heap.size < lo ∨ hi ≤ X.heap.size from Or.inr HHI.out)
              replace HHI := Lib.hid (Nat.le_trans HHI.out (below_alloc X (.cells #[.int .i64 0, .string ⟨#[]⟩, .string ⟨#[]⟩, .bool false, .int .i64 0, .slice none 0 0, .slice none 0 0, .slice none 0 0] 26)).size)
              simp only [List.cons_append, List.nil_append, List.set_cons_zero, List.set_cons_succ] at hS
              refine hK.out _ _ (hS.out.top 2) (fun hcur2 => ?_)
              clear hK K
              replace hcur := hcur2
              (try dsimp only at hcur)
              clear hcur2
              (try simp only [Act.put, List.getElem_toArray, List.getElem_cons_zero, List.getElem_cons_succ, List.setIfInBounds_toArray, List.set_cons_zero, List.set_cons_succ])
              generalize X.heap.size = g8 at hS H8 ⊢
              generalize X.alloc _ = X at hS hcur HR1 HR2 HHI ⊢
              refine wpAnyH_ready (rs := [11]) (by decide +kernel) (by simp) ?_
              refine AllReadyH.cons rfl (fun K hK => ?_) AllReadyH.nil
              obtain ⟨y0, y1, y2, y3, y4, y5, y6, y7, q0, q1, q2, q3, q4, q5, q6, q7⟩ := nd_facts (hS.out.has 4 _ _ rfl).1
              go_simp
              have hZ := hS.out.store 4 rfl (.int .i64 level1) (.string nlow1) (.string high1) (.bool last1) (.int .i64 next1) (.slice P1 keys1.length da1) (.slice P2 vals1.length db1) (.slice P3 kids1.length dc1)
              have hZ1 := HR1.off (set8_off _ (g7) (.int .i64 level1) (.string nlow1) (.string high1) (.bool last1) (.int .i64 next1) (.slice P1 keys1.length da1) (.slice P2 vals1.length db1) (.slice P3 kids1.length dc1)) (fun k q => by subst q; exact H7.out)
              have hZ2 := HR2.off (set8_off _ (g7) (.int .i64 level1) (.string nlow1) (.string high1) (.bool last1) (.int .i64 next1) (.slice P1 keys1.length da1) (.slice P2 vals1.length db1) (.slice P3 kids1.length dc1)) (fun k q => by subst q; exact H7.out)
              simp only [set8, List.set_cons_zero, List.set_cons_succ] at hZ hZ1 hZ2
              clear y0 y1 y2 y3 y4 y5 y6 y7 q0 q1 q2 q3 q4 q5 q6 q7
              replace hS := Lib.hid hZ
              replace HR1 := hZ1
              replace HR2 := hZ2
              clear hZ hZ1 hZ2
              refine hK.out _ _ (hS.out.top 2) (fun hcur2 => ?_)
              clear hK K
              replace hcur := hcur2
              (try dsimp only at hcur)
              clear hcur2
              (try simp only [Act.put, List.getElem_toArray, List.getElem_cons_zero, List.getElem_cons_succ, List.setIfInBounds_toArray, List.set_cons_zero, List.set_cons_succ])
              clear HHI
              have HHI := Lib.hid True.intro
              generalize World.setCell _ _ _ = X at hS HR1 HR2 hcur ⊢
              refine wpAnyH_ready (rs := [12]) (by decide +kernel) (by simp) ?_
              refine AllReadyH.cons rfl (fun K hK => ?_) AllReadyH.nil
              obtain ⟨y0, y1, y2, y3, y4, y5, y6, y7, q0, q1, q2, q3, q4, q5, q6, q7⟩ := nd_facts (hS.out.has 5 _ _ rfl).1
              go_simp
              have hZ := hS.out.store 5 rfl (.int .i64 level2) (.string nlow2) (.string high2) (.bool last2) (.int .i64 next2) (.slice Q1 keys2.length da2) (.slice Q2 vals2.length db2) (.slice Q3 kids2.length dc2)
              have hZ1 := HR1.off (set8_off _ (g8) (.int .i64 level2) (.string nlow2) (.string high2) (.bool last2) (.int .i64 next2) (.slice Q1 keys2.length da2) (.slice Q2 vals2.length db2) (.slice Q3 kids2.length dc2)) (fun k q => by subst q; exact H8.out)
              have hZ2 := HR2.off (set8_off _ (g8) (.int .i64 level2) (.string nlow2) (.string high2) (.bool last2) (.int .i64 next2) (.slice Q1 keys2.length da2) (.slice Q2 vals2.length db2) (.slice Q3 kids2.length dc2)) (fun k q => by subst q; exact H8.out)
              simp only [set8, List.set_cons_zero, List.set_cons_succ] at hZ hZ1 hZ2
              clear y0 y1 y2 y3 y4 y5 y6 y7 q0 q1 q2 q3 q4 q5 q6 q7
              replace hS := Lib.hid hZ
              replace HR1 := hZ1
              replace HR2 := hZ2
              clear hZ hZ1 hZ2
              refine hK.out _ _ (hS.out.top 2) (fun hcur2 => ?_)
              clear hK K
              replace hcur := hcur2
              (try dsimp only at hcur)
              clear hcur2
              (try simp only [Act.put, List.getElem_toArray, List.getElem_cons_zero, List.getElem_cons_succ, List.setIfInBounds_toArray, List.set_cons_zero, List.set_cons_succ])
              clear HHI
              have HHI := Lib.hid True.intro
              generalize World.setCell _ _ _ = X at hS HR1 HR2 hcur ⊢
              refine wpAnyH_done (by decide +kernel) ?_ _
              clear hcur HHI H7 H8
              have HF := Lib.hid (And.intro (hS.out.sub6 4 5 rfl rfl rfl rfl rfl rfl (by omega) (by omega) (by omega)) (And.intro (HR1.toF (B := w.heap.size + 4) (by omega)) (HR2.toF (B := w.heap.size + 4) (by omega))))
              clear hS HR1 HR2 HLO
              go_wp2_with fail
              go_meet
              exact ⟨g7, g8, P1, P2, P3, Q1, Q2, Q3, da1, db1, dc1, da2, db2, dc2, rfl, rfl, HF⟩
            · go_simp
              replace hS := Lib.hid (hS.out.alloc (.cells #[.int .i64 0, .string ⟨#[]⟩, .string ⟨#[]⟩, .bool false, .int .i64 0, .slice none 0 0, .slice none 0 0, .slice none 0 0] 26))
              replace HL := Lib.hid (HL.out.up (below_alloc X (.cells #[.int .i64 0, .string ⟨#[]⟩, .string ⟨#[]⟩, .bool false, .int .i64 0, .slice none 0 0, .slice none 0 0, .slice none 0 0] 26)))
              simp only [List.cons_append, List.nil_append, List.set_cons_zero, List.set_cons_succ] at hS
              refine hK.out _ _ (hS.out.top 2) (fun hcur2 => ?_)
              clear hK K
              replace hcur := hcur2
              (try dsimp only at hcur)
              clear hcur2
              (try simp only [Act.put, List.getElem_toArray, List.getElem_cons_zero, List.getElem_cons_succ, List.setIfInBounds_toArray, List.set_cons_zero, List.set_cons_succ])
              generalize X.heap.size = g8 at hS ⊢
              generalize X.alloc _ = X at hS hcur HL ⊢
              refine wpAnyH_ready (rs := [5]) (by decide +kernel) (by simp) ?_
              refine AllReadyH.cons rfl (fun K hK => ?_) AllReadyH.nil
              have l7 := hS.out.lt (i := 4) rfl
              have l8 := hS.out.lt (i := 5) rfl
              go_simp
              have HLO := hS.out.lt (i := 3) rfl
              refine (HPa.out A1 B1 C1 ca1 cb1 cc1 _ HL.out (by trivial) H3.out).mono ?_
              rintro e Y ⟨P1, P2, P3, Q1, Q2, Q3, da1, db1, dc1, da2, db2, dc2, rfl, hl1, hl2, hb⟩
              replace hS := Lib.hid (hS.out.call hb)
              clear hb HL
              have HR1 := LiesR.of hl1 (Nat.le_refl _)
              have HR2 := LiesR.of hl2 (Nat.le_refl _)
              clear hl1 hl2
              generalize X.heap.size = lo at HR1 HR2 l7 l8 HLO
              obtain ⟨hi, ehi⟩ : ∃ hi, hi = Y.heap.size := ⟨_, rfl⟩
              rw [← ehi] at HR1 HR2
              have HHI := Lib.hid (Nat.le_of_eq ehi)
              clear ehi
              simp only [ndCells] at HR1 HR2 ⊢
              go_wp2_with fail
              refine hK.out _ _ (hS.out.top 2) (fun hcur2 => ?_)
              clear hK K
              replace hcur := hcur2
              (try dsimp only at hcur)
              clear hcur2
              (try simp only [Act.put, List.getElem_toArray, List.getElem_cons_zero, List.getElem_cons_succ, List.setIfInBounds_toArray, List.set_cons_zero, List.set_cons_succ])
              clear X
              generalize Y = X at hS HR1 HR2 HHI hcur ⊢
              have H7 := Lib.hid (show g7 < lo ∨ hi ≤ g7 from Or.inl l7)
              have H8 := Lib.hid (show g8 < lo ∨ hi ≤ g8 from Or.inl l8)
              clear l7
              clear l8
              refine wpAnyH_take (i := 6) (v := ?_) rfl (by decide +kernel) (by decide +kernel) (by decide +kernel) (fun _ _ _ h => h) (Or.inl ⟨by rfl, ?hy⟩) hcur ?_
              case hy =>
                intro w1 hSw
                (try dsimp only at hSw)
                obtain ⟨x0, x1, x2, x3, x4, x5, x6, x7, -, -, -, -, -, -, -, -⟩ := nd_facts (hSw.has 0 _ _ rfl).1
                obtain ⟨y0, y1, y2, y3, y4, y5, y6, y7, -, -, -, -, -, -, -, -⟩ := nd_facts (hSw.has 1 _ _ rfl).1
                go_simp
                (try with_reducible rfl)
              (try simp only [Act.put, List.getElem_toArray, List.getElem_cons_zero, List.getElem_cons_succ, List.setIfInBounds_toArray, List.set_cons_zero, List.set_cons_succ])
              refine wpAnyH_take (i := 7) (v := ?_) rfl (by decide +kernel) (by decide +kernel) (by decide +kernel) (fun _ _ _ h => h) (Or.inl ⟨by rfl, ?hy⟩) hcur ?_
              case hy =>
                intro w1 hSw
                (try dsimp only at hSw)
                obtain ⟨x0, x1, x2, x3, x4, x5, x6, x7, -, -, -, -, -, -, -, -⟩ := nd_facts (hSw.has 0 _ _ rfl).1
                obtain ⟨y0, y1, y2, y3, y4, y5, y6, y7, -, -, -, -, -, -, -, -⟩ := nd_facts (hSw.has 1 _ _ rfl).1
                go_simp
                (try with_reducible rfl)
              (try simp only [Act.put, List.getElem_toArray, List.getElem_cons_zero, List.getElem_cons_succ, List.setIfInBounds_toArray, List.set_cons_zero, List.set_cons_succ])
              refine wpAnyH_take (i := 8) (v := ?_) rfl (by decide +kernel) (by decide +kernel) (by decide +kernel) (fun _ _ _ h => h) (Or.inl ⟨by rfl, ?hy⟩) hcur ?_
              case hy =>
                intro w1 hSw
                (try dsimp only at hSw)
                obtain ⟨x0, x1, x2, x3, x4, x5, x6, x7, -, -, -, -, -, -, -, -⟩ := nd_facts (hSw.has 0 _ _ rfl).1
                obtain ⟨y0, y1, y2, y3, y4, y5, y6, y7, -, -, -, -, -, -, -, -⟩ := nd_facts (hSw.has 1 _ _ rfl).1
                go_simp
                (try with_reducible rfl)
              (try simp only [Act.put, List.getElem_toArray, List.getElem_cons_zero, List.getElem_cons_succ, List.setIfInBounds_toArray, List.set_cons_zero, List.set_cons_succ])
              refine wpAnyH_ready (rs := [11]) (by decide +kernel) (by simp) ?_
              refine AllReadyH.cons rfl (fun K hK => ?_) AllReadyH.nil
              obtain ⟨y0, y1, y2, y3, y4, y5, y6, y7, q0, q1, q2, q3, q4, q5, q6, q7⟩ := nd_facts (hS.out.has 4 _ _ rfl).1
              go_simp
              have hZ := hS.out.store 4 rfl (.int .i64 level1) (.string nlow1) (.string high1) (.bool last1) (.int .i64 next1) (.slice P1 keys1.length da1) (.slice P2 vals1.length db1) (.slice P3 kids1.length dc1)
              have hZ1 := HR1.off (set8_off _ (g7) (.int .i64 level1) (.string nlow1) (.string high1) (.bool last1) (.int .i64 next1) (.slice P1 keys1.length da1) (.slice P2 vals1.length db1) (.slice P3 kids1.length dc1)) (fun k q => by subst q; exact H7.out)
              have hZ2 := HR2.off (set8_off _ (g7) (.int .i64 level1) (.string nlow1) (.string high1) (.bool last1) (.int .i64 next1) (.slice P1 keys1.length da1) (.slice P2 vals1.length db1) (.slice P3 kids1.length dc1)) (fun k q => by subst q; exact H7.out)
              simp only [set8, List.set_cons_zero, List.set_cons_succ] at hZ hZ1 hZ2
              clear y0 y1 y2 y3 y4 y5 y6 y7 q0 q1 q2 q3 q4 q5 q6 q7
              replace hS := Lib.hid hZ
              replace HR1 := hZ1
              replace HR2 := hZ2
              clear hZ hZ1 hZ2
              refine hK.out _ _ (hS.out.top 2) (fun hcur2 => ?_)
              clear hK K
              replace hcur := hcur2
              (try dsimp only at hcur)
              clear hcur2
              (try simp only [Act.put, List.getElem_toArray, List.getElem_cons_zero, List.getElem_cons_succ, List.setIfInBounds_toArray, List.set_cons_zero, List.set_cons_succ])
              clear HHI
              have HHI := Lib.hid True.intro
              generalize World.setCell _ _ _ = X at hS HR1 HR2 hcur ⊢
              refine wpAnyH_ready (rs := [12]) (by decide +kernel) (by simp) ?_
              refine AllReadyH.cons rfl (fun K hK => ?_) AllReadyH.nil
              obtain ⟨y0, y1, y2, y3, y4, y5, y6, y7, q0, q1, q2, q3, q4, q5, q6, q7⟩ := nd_facts (hS.out.has 5 _ _ rfl).1
              go_simp
              have hZ := hS.out.store 5 rfl (.int .i64 level2) (.string nlow2) (.string high2) (.bool last2) (.int .i64 next2) (.slice Q1 keys2.length da2) (.slice Q2 vals2.length db2) (.slice Q3 kids2.length dc2)
              have hZ1 := HR1.off (set8_off _ (g8) (.int .i64 level2) (.string nlow2) (.string high2) (.bool last2) (.int .i64 next2) (.slice Q1 keys2.length da2) (.slice Q2 vals2.length db2) (.slice Q3 kids2.length dc2)) (fun k q => by subst q; exact H8.out)
              have hZ2 := HR2.off (set8_off _ (g8) (.int .i64 level2) (.string nlow2) (.string high2) (.bool last2) (.int .i64 next2) (.slice Q1 keys2.length da2) (.slice Q2 vals2.length db2) (.slice Q3 kids2.length dc2)) (fun k q => by subst q; exact H8.out)
              simp only [set8, List.set_cons_zero, List.set_cons_succ] at hZ hZ1 hZ2
              clear y0 y1 y2 y3 y4 y5 y6 y7 q0 q1 q2 q3 q4 q5 q6 q7
              replace hS := Lib.hid hZ
              replace HR1 := hZ1
              replace HR2 := hZ2
              clear hZ hZ1 hZ2
              refine hK.out _ _ (hS.out.top 2) (fun hcur2 => ?_)
              clear hK K
              replace hcur := hcur2
              (try dsimp only at hcur)
              clear hcur2
              (try simp only [Act.put, List.getElem_toArray, List.getElem_cons_zero, List.getElem_cons_succ, List.setIfInBounds_toArray, List.set_cons_zero, List.set_cons_succ])
              clear HHI
              have HHI := Lib.hid True.intro
              generalize World.setCell _ _ _ = X at hS HR1 HR2 hcur ⊢
              refine wpAnyH_done (by decide +kernel) ?_ _
              clear hcur HHI H7 H8
              have HF := Lib.hid (And.intro (hS.out.sub6 4 5 rfl rfl rfl rfl rfl rfl (by omega) (by omega) (by omega)) (And.intro (HR1.toF (B := w.heap.size + 4) (by omega)) (HR2.toF (B := w.heap.size + 4) (by omega))))
              clear hS HR1 HR2 HLO
              go_wp2_with fail
              go_meet
              exact ⟨g7, g8, P1, P2, P3, Q1, Q2, Q3, da1, db1, dc1, da2, db2, dc2, rfl, rfl, HF⟩
          · go_simp
            replace hS := Lib.hid (hS.out.alloc (.cells #[.int .i64 0, .string ⟨#[]⟩, .string ⟨#[]⟩, .bool false, .int .i64 0, .slice none 0 0, .slice none 0 0, .slice none 0 0] 26))
            simp only [List.cons_append, List.nil_append, List.set_cons_zero, List.set_cons_succ] at hS
            refine hK.out _ _ (hS.out.top 2) (fun hcur2 => ?_)
            clear hK K
            replace hcur := hcur2
            (try dsimp only at hcur)
            clear hcur2
            (try simp only [Act.put, List.getElem_toArray, List.getElem_cons_zero, List.getElem_cons_succ, List.setIfInBounds_toArray, List.set_cons_zero, List.set_cons_succ])
            generalize X.heap.size = g8 at hS ⊢
            generalize X.alloc _ = X at hS hcur ⊢
            refine wpAnyH_ready (rs := [2]) (by decide +kernel) (by simp) ?_
            refine AllReadyH.cons rfl (fun K hK => ?_) AllReadyH.nil
            go_simp
            refine (HBo.out _ (HA.out.up hS.out.below) (HB.out.up hS.out.below) (by trivial)).mono ?_
            rintro e X ⟨A1, B1, C1, ca1, cb1, cc1, rfl, hl, hb⟩
            replace hS := Lib.hid (hS.out.call hb)
            have HL := Lib.hid hl.lies
            clear hl hb
            go_wp2_with fail
            refine hK.out _ _ (hS.out.top 2) (fun hcur2 => ?_)
            clear hK K
            replace hcur := hcur2
            (try dsimp only at hcur)
            clear hcur2
            (try simp only [Act.put, List.getElem_toArray, List.getElem_cons_zero, List.getElem_cons_succ, List.setIfInBounds_toArray, List.set_cons_zero, List.set_cons_succ])
            refine wpAnyH_ready (rs := [5]) (by decide +kernel) (by simp) ?_
            refine AllReadyH.cons rfl (fun K hK => ?_) AllReadyH.nil
            have l7 := hS.out.lt (i := 4) rfl
            have l8 := hS.out.lt (i := 5) rfl
            go_simp
            have HLO := hS.out.lt (i := 3) rfl
            refine (HPa.out A1 B1 C1 ca1 cb1 cc1 _ HL.out (by trivial) H3.out).mono ?_
            rintro e Y ⟨P1, P2, P3, Q1, Q2, Q3, da1, db1, dc1, da2, db2, dc2, rfl, hl1, hl2, hb⟩
            replace hS := Lib.hid (hS.out.call hb)
            clear hb HL
            have HR1 := LiesR.of hl1 (Nat.le_refl _)
            have HR2 := LiesR.of hl2 (Nat.le_refl _)
            clear hl1 hl2
            generalize X.heap.size = lo at HR1 HR2 l7 l8 HLO
            obtain ⟨hi, ehi⟩ : ∃ hi, hi = Y.heap.size := ⟨_, rfl⟩
            rw [← ehi] at HR1 HR2
            have HHI := Lib.hid (Nat.le_of_eq ehi)
            clear ehi
            simp only [ndCells] at HR1 HR2 ⊢
            go_wp2_with fail
            refine hK.out _ _ (hS.out.top 2) (fun hcur2 => ?_)
            clear hK K
            replace hcur := hcur2
            (try dsimp only at hcur)
            clear hcur2
            (try simp only [Act.put, List.getElem_toArray, List.getElem_cons_zero, List.getElem_cons_succ, List.setIfInBounds_toArray, List.set_cons_zero, List.set_cons_succ])
            clear X
            generalize Y = X at hS HR1 HR2 HHI hcur ⊢
            have H7 := Lib.hid (show g7 < lo ∨ hi ≤ g7 from Or.inl l7)
            have H8 := Lib.hid (show g8 < lo ∨ hi ≤ g8 from Or.inl l8)
            clear l7
            clear l8
            refine wpAnyH_take (i := 6) (v := ?_) rfl (by decide +kernel) (by decide +kernel) (by decide +kernel) (fun _ _ _ h => h) (Or.inl ⟨by rfl, ?hy⟩) hcur ?_
            case hy =>
              intro w1 hSw
              (try dsimp only at hSw)
              obtain ⟨x0, x1, x2, x3, x4, x5, x6, x7, -, -, -, -, -, -, -, -⟩ := nd_facts (hSw.has 0 _ _ rfl).1
              obtain ⟨y0, y1, y2, y3, y4, y5, y6, y7, -, -, -, -, -, -, -, -⟩ := nd_facts (hSw.has 1 _ _ rfl).1
              go_simp
              (try with_reducible rfl)
            (try simp only [Act.put, List.getElem_toArray, List.getElem_cons_zero, List.getElem_cons_succ, List.setIfInBounds_toArray, List.set_cons_zero, List.set_cons_succ])
            refine wpAnyH_take (i := 7) (v := ?_) rfl (by decide +kernel) (by decide +kernel) (by decide +kernel) (fun _ _ _ h => h) (Or.inl ⟨by rfl, ?hy⟩) hcur ?_
            case hy =>
              intro w1 hSw
              (try dsimp only at hSw)
              obtain ⟨x0, x1, x2, x3, x4, x5, x6, x7, -, -, -, -, -, -, -, -⟩ := nd_facts (hSw.has 0 _ _ rfl).1
              obtain ⟨y0, y1, y2, y3, y4, y5, y6, y7, -, -, -, -, -, -, -, -⟩ := nd_facts (hSw.has 1 _ _ rfl).1
              go_simp
              (try with_reducible rfl)
            (try simp only [Act.put, List.getElem_toArray, List.getElem_cons_zero, List.getElem_cons_succ, List.setIfInBounds_toArray, List.set_cons_zero, List.set_cons_succ])
            refine wpAnyH_take (i := 8) (v := ?_) rfl (by decide +kernel) (by decide +kernel) (by decide +kernel) (fun _ _ _ h => h) (Or.inl ⟨by rfl, ?hy⟩) hcur ?_
            case hy =>
              intro w1 hSw
              (try dsimp only at hSw)
              obtain ⟨x0, x1, x2, x3, x4, x5, x6, x7, -, -, -, -, -, -, -, -⟩ := nd_facts (hSw.has 0 _ _ rfl).1
              obtain ⟨y0, y1, y2, y3, y4, y5, y6, y7, -, -, -, -, -, -, -, -⟩ := nd_facts (hSw.has 1 _ _ rfl).1
              go_simp
              (try with_reducible rfl)
            (try simp only [Act.put, List.getElem_toArray, List.getElem_cons_zero, List.getElem_cons_succ, List.setIfInBounds_toArray, List.set_cons_zero, List.set_cons_succ])
            refine wpAnyH_ready (rs := [11]) (by decide +kernel) (by simp) ?_
            refine AllReadyH.cons rfl (fun K hK => ?_) AllReadyH.nil
            obtain ⟨y0, y1, y2, y3, y4, y5, y6, y7, q0, q1, q2, q3, q4, q5, q6, q7⟩ := nd_facts (hS.out.has 4 _ _ rfl).1
            go_simp
            have hZ := hS.out.store 4 rfl (.int .i64 level1) (.string nlow1) (.string high1) (.bool last1) (.int .i64 next1) (.slice P1 keys1.length da1) (.slice P2 vals1.length db1) (.slice P3 kids1.length dc1)
            have hZ1 := HR1.off (set8_off _ (g7) (.int .i64 level1) (.string nlow1) (.string high1) (.bool last1) (.int .i64 next1) (.slice P1 keys1.length da1) (.slice P2 vals1.length db1) (.slice P3 kids1.length dc1)) (fun k q => by subst q; exact H7.out)
            have hZ2 := HR2.off (set8_off _ (g7) (.int .i64 level1) (.string nlow1) (.string high1) (.bool last1) (.int .i64 next1) (.slice P1 keys1.length da1) (.slice P2 vals1.length db1) (.slice P3 kids1.length dc1)) (fun k q => by subst q; exact H7.out)
            simp only [set8, List.set_cons_zero, List.set_cons_succ] at hZ hZ1 hZ2
            clear y0 y1 y2 y3 y4 y5 y6 y7 q0 q1 q2 q3 q4 q5 q6 q7
            replace hS := Lib.hid hZ
            replace HR1 := hZ1
            replace HR2 := hZ2
            clear hZ hZ1 hZ2
            refine hK.out _ _ (hS.out.top 2) (fun hcur2 => ?_)
            clear hK K
            replace hcur := hcur2
            (try dsimp only at hcur)
            clear hcur2
            (try simp only [Act.put, List.getElem_toArray, List.getElem_cons_zero, List.getElem_cons_succ, List.setIfInBounds_toArray, List.set_cons_zero, List.set_cons_succ])
            clear HHI
            have HHI := Lib.hid True.intro
            generalize World.setCell _ _ _ = X at hS HR1 HR2 hcur ⊢
            refine wpAnyH_ready (rs := [12]) (by decide +kernel) (by simp) ?_
            refine AllReadyH.cons rfl (fun K hK => ?_) AllReadyH.nil
            obtain ⟨y0, y1, y2, y3, y4, y5, y6, y7, q0, q1, q2, q3, q4, q5, q6, q7⟩ := nd_facts (hS.out.has 5 _ _ rfl).1
            go_simp
            have hZ := hS.out.store 5 rfl (.int .i64 level2) (.string nlow2) (.string high2) (.bool last2) (.int .i64 next2) (.slice Q1 keys2.length da2) (.slice Q2 vals2.length db2) (.slice Q3 kids2.length dc2)
            have hZ1 := HR1.off (set8_off _ (g8) (.int .i64 level2) (.string nlow2) (.string high2) (.bool last2) (.int .i64 next2) (.slice Q1 keys2.length da2) (.slice Q2 vals2.length db2) (.slice Q3 kids2.length dc2)) (fun k q => by subst q; exact H8.out)
            have hZ2 := HR2.off (set8_off _ (g8) (.int .i64 level2) (.string nlow2) (.string high2) (.bool last2) (.int .i64 next2) (.slice Q1 keys2.length da2) (.slice Q2 vals2.length db2) (.slice Q3 kids2.length dc2)) (fun k q => by subst q; exact H8.out)
            simp only [set8, List.set_cons_zero, List.set_cons_succ] at hZ hZ1 hZ2
            clear y0 y1 y2 y3 y4 y5 y6 y7 q0 q1 q2 q3 q4 q5 q6 q7
            replace hS := Lib.hid hZ
            replace HR1 := hZ1
            replace HR2 := hZ2
            clear hZ hZ1 hZ2
            refine hK.out _ _ (hS.out.top 2) (fun hcur2 => ?_)
            clear hK K
            replace hcur := hcur2
            (try dsimp only at hcur)
            clear hcur2
            (try simp only [Act.put, List.getElem_toArray, List.getElem_cons_zero, List.getElem_cons_succ, List.setIfInBounds_toArray, List.set_cons_zero, List.set_cons_succ])
            clear HHI
            have HHI := Lib.hid True.intro
            generalize World.setCell _ _ _ = X at hS HR1 HR2 hcur ⊢
            refine wpAnyH_done (by decide +kernel) ?_ _
            clear hcur HHI H7 H8
            have HF := Lib.hid (And.intro (hS.out.sub6 4 5 rfl rfl rfl rfl rfl rfl (by omega) (by omega) (by omega)) (And.intro (HR1.toF (B := w.heap.size + 4) (by omega)) (HR2.toF (B := w.heap.size + 4) (by omega))))
            clear hS HR1 HR2 HLO
            go_wp2_with fail
            go_meet
            exact ⟨g7, g8, P1, P2, P3, Q1, Q2, Q3, da1, db1, dc1, da2, db2, dc2, rfl, rfl, HF⟩
        · go_simp
          replace hS := Lib.hid (hS.out.alloc (.cells #[.int .i64 0, .string ⟨#[]⟩, .string ⟨#[]⟩, .bool false, .int .i64 0, .slice none 0 0, .slice none 0 0, .slice none 0 0] 26))
          simp only [List.cons_append, List.nil_append, List.set_cons_zero, List.set_cons_succ] at hS
          refine hK.out _ _ (hS.out.top 2) (fun hcur2 => ?_)
          clear hK K
          replace hcur := hcur2
          (try dsimp only at hcur)
          clear hcur2
          (try simp only [Act.put, List.getElem_toArray, List.getElem_cons_zero, List.getElem_cons_succ, List.setIfInBounds_toArray, List.set_cons_zero, List.set_cons_succ])
          generalize X.heap.size = g8 at hS ⊢
          generalize X.alloc _ = X at hS hcur ⊢
          refine wpAnyH_ready (rs := [2, 9]) (by decide +kernel) (by simp) ?_
          refine AllReadyH.cons rfl (fun K hK => ?_) (AllReadyH.cons rfl (fun K hK => ?_) AllReadyH.nil)
          · go_simp
            refine (HBo.out _ (HA.out.up hS.out.below) (HB.out.up hS.out.below) (by trivial)).mono ?_
            rintro e X ⟨A1, B1, C1, ca1, cb1, cc1, rfl, hl, hb⟩
            replace hS := Lib.hid (hS.out.call hb)
            have HL := Lib.hid hl.lies
            clear hl hb
            go_wp2_with fail
            refine hK.out _ _ (hS.out.top 2) (fun hcur2 => ?_)
            clear hK K
            replace hcur := hcur2
            (try dsimp only at hcur)
            clear hcur2
            (try simp only [Act.put, List.getElem_toArray, List.getElem_cons_zero, List.getElem_cons_succ, List.setIfInBounds_toArray, List.set_cons_zero, List.set_cons_succ])
            refine wpAnyH_ready (rs := [5, 9]) (by decide +kernel) (by simp) ?_
            refine AllReadyH.cons rfl (fun K hK => ?_) (AllReadyH.cons rfl (fun K hK => ?_) AllReadyH.nil)
            · have l8 := hS.out.lt (i := 4) rfl
              go_simp
              have HLO := hS.out.lt (i := 3) rfl
              refine (HPa.out A1 B1 C1 ca1 cb1 cc1 _ HL.out (by trivial) H3.out).mono ?_
              rintro e Y ⟨P1, P2, P3, Q1, Q2, Q3, da1, db1, dc1, da2, db2, dc2, rfl, hl1, hl2, hb⟩
              replace hS := Lib.hid (hS.out.call hb)
              clear hb HL
              have HR1 := LiesR.of hl1 (Nat.le_refl _)
              have HR2 := LiesR.of hl2 (Nat.le_refl _)
              clear hl1 hl2
              generalize X.heap.size = lo at HR1 HR2 l8 HLO
              obtain ⟨hi, ehi⟩ : ∃ hi, hi = Y.heap.size := ⟨_, rfl⟩
              rw [← ehi] at HR1 HR2
              have HHI := Lib.hid (Nat.le_of_eq ehi)
              clear ehi
              simp only [ndCells] at HR1 HR2 ⊢
              go_wp2_with fail
              refine hK.out _ _ (hS.out.top 2) (fun hcur2 => ?_)
              clear hK K
              replace hcur := hcur2
              (try dsimp only at hcur)
              clear hcur2
              (try simp only [Act.put, List.getElem_toArray, List.getElem_cons_zero, List.getElem_cons_succ, List.setIfInBounds_toArray, List.set_cons_zero, List.set_cons_succ])
              clear X
              generalize Y = X at hS HR1 HR2 HHI hcur ⊢
              have H8 := Lib.hid (show g8 < lo ∨ hi ≤ g8 from Or.inl l8)
              clear l8
              refine wpAnyH_take (i := 6) (v := ?_) rfl (by decide +kernel) (by decide +kernel) (by decide +kernel) (fun _ _ _ h => h) (Or.inl ⟨by rfl, ?hy⟩) hcur ?_
              case hy =>
                intro w1 hSw
                (try dsimp only at hSw)
                obtain ⟨x0, x1, x2, x3, x4, x5, x6, x7, -, -, -, -, -, -, -, -⟩ := nd_facts (hSw.has 0 _ _ rfl).1
                obtain ⟨y0, y1, y2, y3, y4, y5, y6, y7, -, -, -, -, -, -, -, -⟩ := nd_facts (hSw.has 1 _ _ rfl).1
                go_simp
                (try with_reducible rfl)
              (try simp only [Act.put, List.getElem_toArray, List.getElem_cons_zero, List.getElem_cons_succ, List.setIfInBounds_toArray, List.set_cons_zero, List.set_cons_succ])
              refine wpAnyH_take (i := 7) (v := ?_) rfl (by decide +kernel) (by decide +kernel) (by decide +kernel) (fun _ _ _ h => h) (Or.inl ⟨by rfl, ?hy⟩) hcur ?_
              case hy =>
                intro w1 hSw
                (try dsimp only at hSw)
                obtain ⟨x0, x1, x2, x3, x4, x5, x6, x7, -, -, -, -, -, -, -, -⟩ := nd_facts (hSw.has 0 _ _ rfl).1
                obtain ⟨y0, y1, y2, y3, y4, y5, y6, y7, -, -, -, -, -, -, -, -⟩ := nd_facts (hSw.has 1 _ _ rfl).1
                go_simp
                (try with_reducible rfl)
              (try simp only [Act.put, List.getElem_toArray, List.getElem_cons_zero, List.getElem_cons_succ, List.setIfInBounds_toArray, List.set_cons_zero, List.set_cons_succ])
              refine wpAnyH_take (i := 8) (v := ?_) rfl (by decide +kernel) (by decide +kernel) (by decide +kernel) (fun _ _ _ h => h) (Or.inl ⟨by rfl, ?hy⟩) hcur ?_
              case hy =>
                intro w1 hSw
                (try dsimp only at hSw)
                obtain ⟨x0, x1, x2, x3, x4, x5, x6, x7, -, -, -, -, -, -, -, -⟩ := nd_facts (hSw.has 0 _ _ rfl).1
                obtain ⟨y0, y1, y2, y3, y4, y5, y6, y7, -, -, -, -, -, -, -, -⟩ := nd_facts (hSw.has 1 _ _ rfl).1
                go_simp
                (try with_reducible rfl)
              (try simp only [Act.put, List.getElem_toArray, List.getElem_cons_zero, List.getElem_cons_succ, List.setIfInBounds_toArray, List.set_cons_zero, List.set_cons_succ])
              refine wpAnyH_ready (rs := [9]) (by decide +kernel) (by simp) ?_
              refine AllReadyH.cons rfl (fun K hK => ?_) AllReadyH.nil
              go_simp
              replace hS := Lib.hid (hS.out.alloc (.cells #[.int .i64 0, .string ⟨#[]⟩, .string ⟨#[]⟩, .bool false, .int .i64 0, .slice none 0 0, .slice none 0 0, .slice none 0 0] 26))
              replace HR1 := HR1.up (below_alloc X (.cells #[.int .i64 0, .string ⟨#[]⟩, .string ⟨#[]⟩, .bool false, .int .i64 0, .slice none 0 0, .slice none 0 0, .slice none 0 0] 26))
              replace HR2 := HR2.up (below_alloc X (.cells #[.int .i64 0, .string ⟨#[]⟩, .string ⟨#[]⟩, .bool false, .int .i64 0, .slice none 0 0, .slice none 0 0, .slice none 0 0] 26))
              have H7 := Lib.hid (show X.heap.size < lo ∨ hi ≤ X.heap.size from Or.inr HHI.out)
              replace HHI := Lib.hid (Nat.le_trans HHI.out (below_alloc X (.cells #[.int .i64 0, .string ⟨#[]⟩, .string ⟨#[]⟩, .bool false, .int .i64 0, .slice none 0 0, .slice none 0 0, .slice none 0 0] 26)).size)
              simp only [List.cons_append, List.nil_append, List.set_cons_zero, List.set_cons_succ] at hS
              refine hK.out _ _ (hS.out.top 2) (fun hcur2 => ?_)
              clear hK K
              replace hcur := hcur2
              (try dsimp only at hcur)
              clear hcur2
              (try simp only [Act.put, List.getElem_toArray, List.getElem_cons_zero, List.getElem_cons_succ, List.setIfInBounds_toArray, List.set_cons_zero, List.set_cons_succ])
              generalize X.heap.size = g7 at hS H7 ⊢
              generalize X.alloc _ = X at hS hcur HR1 HR2 HHI ⊢
              refine wpAnyH_ready (rs := [11]) (by decide +kernel) (by simp) ?_
              refine AllReadyH.cons rfl (fun K hK => ?_) AllReadyH.nil
              obtain ⟨y0, y1, y2, y3, y4, y5, y6, y7, q0, q1, q2, q3, q4, q5, q6, q7⟩ := nd_facts (hS.out.has 5 _ _ rfl).1
              go_simp
              have hZ := hS.out.store 5 rfl (.int .i64 level1) (.string nlow1) (.string high1) (.bool last1) (.int .i64 next1) (.slice P1 keys1.length da1) (.slice P2 vals1.length db1) (.slice P3 kids1.length dc1)
              have hZ1 := HR1.off (set8_off _ (g7) (.int .i64 level1) (.string nlow1) (.string high1) (.bool last1) (.int .i64 next1) (.slice P1 keys1.length da1) (.slice P2 vals1.length db1) (.slice P3 kids1.length dc1)) (fun k q => by subst q; exact H7.out)
              have hZ2 := HR2.off (set8_off _ (g7) (.int .i64 level1) (.string nlow1) (.string high1) (.bool last1) (.int .i64 next1) (.slice P1 keys1.length da1) (.slice P2 vals1.length db1) (.slice P3 kids1.length dc1)) (fun k q => by subst q; exact H7.out)
              simp only [set8, List.set_cons_zero, List.set_cons_succ] at hZ hZ1 hZ2
              clear y0 y1 y2 y3 y4 y5 y6 y7 q0 q1 q2 q3 q4 q5 q6 q7
              replace hS := Lib.hid hZ
              replace HR1 := hZ1
              replace HR2 := hZ2
              clear hZ hZ1 hZ2
              refine hK.out _ _ (hS.out.top 2) (fun hcur2 => ?_)
              clear hK K
              replace hcur := hcur2
              (try dsimp only at hcur)
              clear hcur2
              (try simp only [Act.put, List.getElem_toArray, List.getElem_cons_zero, List.getElem_cons_succ, List.setIfInBounds_toArray, List.set_cons_zero, List.set_cons_succ])
              clear HHI
              have HHI := Lib.hid True.intro
              generalize World.setCell _ _ _ = X at hS HR1 HR2 hcur ⊢
              refine wpAnyH_ready (rs := [12]) (by decide +kernel) (by simp) ?_
              refine AllReadyH.cons rfl (fun K hK => ?_) AllReadyH.nil
              obtain ⟨y0, y1, y2, y3, y4, y5, y6, y7, q0, q1, q2, q3, q4, q5, q6, q7⟩ := nd_facts (hS.out.has 4 _ _ rfl).1
              go_simp
              have hZ := hS.out.store 4 rfl (.int .i64 level2) (.string nlow2) (.string high2) (.bool last2) (.int .i64 next2) (.slice Q1 keys2.length da2) (.slice Q2 vals2.length db2) (.slice Q3 kids2.length dc2)
              have hZ1 := HR1.off (set8_off _ (g8) (.int .i64 level2) (.string nlow2) (.string high2) (.bool last2) (.int .i64 next2) (.slice Q1 keys2.length da2) (.slice Q2 vals2.length db2) (.slice Q3 kids2.length dc2)) (fun k q => by subst q; exact H8.out)
              have hZ2 := HR2.off (set8_off _ (g8) (.int .i64 level2) (.string nlow2) (.string high2) (.bool last2) (.int .i64 next2) (.slice Q1 keys2.length da2) (.slice Q2 vals2.length db2) (.slice Q3 kids2.length dc2)) (fun k q => by subst q; exact H8.out)
              simp only [set8, List.set_cons_zero, List.set_cons_succ] at hZ hZ1 hZ2
              clear y0 y1 y2 y3 y4 y5 y6 y7 q0 q1 q2 q3 q4 q5 q6 q7
              replace hS := Lib.hid hZ
              replace HR1 := hZ1
              replace HR2 := hZ2
              clear hZ hZ1 hZ2
              refine hK.out _ _ (hS.out.top 2) (fun hcur2 => ?_)
              clear hK K
              replace hcur := hcur2
              (try dsimp only at hcur)
              clear hcur2
              (try simp only [Act.put, List.getElem_toArray, List.getElem_cons_zero, List.getElem_cons_succ, List.setIfInBounds_toArray, List.set_cons_zero, List.set_cons_succ])
              clear HHI
              have HHI := Lib.hid True.intro
              generalize World.setCell _ _ _ = X at hS HR1 HR2 hcur ⊢
              refine wpAnyH_done (by decide +kernel) ?_ _
              clear hcur HHI H7 H8
              have HF := Lib.hid (And.intro (hS.out.sub6 5 4 rfl rfl rfl rfl rfl rfl (by omega) (by omega) (by omega)) (And.intro (HR1.toF (B := w.heap.size + 4) (by omega)) (HR2.toF (B := w.heap.size + 4) (by omega))))
              clear hS HR1 HR2 HLO
              go_wp2_with fail
              go_meet
              exact ⟨g7, g8, P1, P2, P3, Q1, Q2, Q3, da1, db1, dc1, da2, db2, dc2, rfl, rfl, HF⟩
            · go_simp
              replace hS := Lib.hid (hS.out.alloc (.cells #[.int .i64 0, .string ⟨#[]⟩, .string ⟨#[]⟩, .bool false, .int .i64 0, .slice none 0 0, .slice none 0 0, .slice none 0 0] 26))
              replace HL := Lib.hid (HL.out.up (below_alloc X (.cells #[.int .i64 0, .string ⟨#[]⟩, .string ⟨#[]⟩, .bool false, .int .i64 0, .slice none 0 0, .slice none 0 0, .slice none 0 0] 26)))
              simp only [List.cons_append, List.nil_append, List.set_cons_zero, List.set_cons_succ] at hS
              refine hK.out _ _ (hS.out.top 2) (fun hcur2 => ?_)
              clear hK K
              replace hcur := hcur2
              (try dsimp only at hcur)
              clear hcur2
              (try simp only [Act.put, List.getElem_toArray, List.getElem_cons_zero, List.getElem_cons_succ, List.setIfInBounds_toArray, List.set_cons_zero, List.set_cons_succ])
              generalize X.heap.size = g7 at hS ⊢
              generalize X.alloc _ = X at hS hcur HL ⊢
              refine wpAnyH_ready (rs := [5]) (by decide +kernel) (by simp) ?_
              refine AllReadyH.cons rfl (fun K hK => ?_) AllReadyH.nil
              have l7 := hS.out.lt (i := 5) rfl
              have l8 := hS.out.lt (i := 4) rfl
              go_simp
              have HLO := hS.out.lt (i := 3) rfl
              refine (HPa.out A1 B1 C1 ca1 cb1 cc1 _ HL.out (by trivial) H3.out).mono ?_
              rintro e Y ⟨P1, P2, P3, Q1, Q2, Q3, da1, db1, dc1, da2, db2, dc2, rfl, hl1, hl2, hb⟩
              replace hS := Lib.hid (hS.out.call hb)
              clear hb HL
              have HR1 := LiesR.of hl1 (Nat.le_refl _)
              have HR2 := LiesR.of hl2 (Nat.le_refl _)
              clear hl1 hl2
              generalize X.heap.size = lo at HR1 HR2 l7 l8 HLO
              obtain ⟨hi, ehi⟩ : ∃ hi, hi = Y.heap.size := ⟨_, rfl⟩
              rw [← ehi] at HR1 HR2
              have HHI := Lib.hid (Nat.le_of_eq ehi)
              clear ehi
              simp only [ndCells] at HR1 HR2 ⊢
              go_wp2_with fail
              refine hK.out _ _ (hS.out.top 2) (fun hcur2 => ?_)
              clear hK K
              replace hcur := hcur2
              (try dsimp only at hcur)
              clear hcur2
              (try simp only [Act.put, List.getElem_toArray, List.getElem_cons_zero, List.getElem_cons_succ, List.setIfInBounds_toArray, List.set_cons_zero, List.set_cons_succ])
              clear X
              generalize Y = X at hS HR1 HR2 HHI hcur ⊢
              have H7 := Lib.hid (show g7 < lo ∨ hi ≤ g7 from Or.inl l7)
              have H8 := Lib.hid (show g8 < lo ∨ hi ≤ g8 from Or.inl l8)
              clear l7
              clear l8
              refine wpAnyH_take (i := 6) (v := ?_) rfl (by decide +kernel) (by decide +kernel) (by decide +kernel) (fun _ _ _ h => h) (Or.inl ⟨by rfl, ?hy⟩) hcur ?_
              case hy =>
                intro w1 hSw
                (try dsimp only at hSw)
                obtain ⟨x0, x1, x2, x3, x4, x5, x6, x7, -, -, -, -, -, -, -, -⟩ := nd_facts (hSw.has 0 _ _ rfl).1
                obtain ⟨y0, y1, y2, y3, y4, y5, y6, y7, -, -, -, -, -, -, -, -⟩ := nd_facts (hSw.has 1 _ _ rfl).1
                go_simp
                (try with_reducible rfl)
              (try simp only [Act.put, List.getElem_toArray, List.getElem_cons_zero, List.getElem_cons_succ, List.setIfInBounds_toArray, List.set_cons_zero, List.set_cons_succ])
              refine wpAnyH_take (i := 7) (v := ?_) rfl (by decide +kernel) (by decide +kernel) (by decide +kernel) (fun _ _ _ h => h) (Or.inl ⟨by rfl, ?hy⟩) hcur ?_
              case hy =>
                intro w1 hSw
                (try dsimp only at hSw)
                obtain ⟨x0, x1, x2, x3, x4, x5, x6, x7, -, -, -, -, -, -, -, -⟩ := nd_facts (hSw.has 0 _ _ rfl).1
                obtain ⟨y0, y1, y2, y3, y4, y5, y6, y7, -, -, -, -, -, -, -, -⟩ := nd_facts (hSw.has 1 _ _ rfl).1
                go_simp
                (try with_reducible rfl)
              (try simp only [Act.put, List.getElem_toArray, List.getElem_cons_zero, List.getElem_cons_succ, List.setIfInBounds_toArray, List.set_cons_zero, List.set_cons_succ])
              refine wpAnyH_take (i := 8) (v := ?_) rfl (by decide +kernel) (by decide +kernel) (by decide +kernel) (fun _ _ _ h => h) (Or.inl ⟨by rfl, ?hy⟩) hcur ?_
              case hy =>
                intro w1 hSw
                (try dsimp only at hSw)
                obtain ⟨x0, x1, x2, x3, x4, x5, x6, x7, -, -, -, -, -, -, -, -⟩ := nd_facts (hSw.has 0 _ _ rfl).1
                obtain ⟨y0, y1, y2, y3, y4, y5, y6, y7, -, -, -, -, -, -, -, -⟩ := nd_facts (hSw.has 1 _ _ rfl).1
                go_simp
                (try with_reducible rfl)
              (try simp only [Act.put, List.getElem_toArray, List.getElem_cons_zero, List.getElem_cons_succ, List.setIfInBounds_toArray, List.set_cons_zero, List.set_cons_succ])
              refine wpAnyH_ready (rs := [11]) (by decide +kernel) (by simp) ?_
              refine AllReadyH.cons rfl (fun K hK => ?_) AllReadyH.nil
              obtain ⟨y0, y1, y2, y3, y4, y5, y6, y7, q0, q1, q2, q3, q4, q5, q6, q7⟩ := nd_facts (hS.out.has 5 _ _ rfl).1
              go_simp
              have hZ := hS.out.store 5 rfl (.int .i64 level1) (.string nlow1) (.string high1) (.bool last1) (.int .i64 next1) (.slice P1 keys1.length da1) (.slice P2 vals1.length db1) (.slice P3 kids1.length dc1)
              have hZ1 := HR1.off (set8_off _ (g7) (.int .i64 level1) (.string nlow1) (.string high1) (.bool last1) (.int .i64 next1) (.slice P1 keys1.length da1) (.slice P2 vals1.length db1) (.slice P3 kids1.length dc1)) (fun k q => by subst q; exact H7.out)
              have hZ2 := HR2.off (set8_off _ (g7) (.int .i64 level1) (.string nlow1) (.string high1) (.bool last1) (.int .i64 next1) (.slice P1 keys1.length da1) (.slice P2 vals1.length db1) (.slice P3 kids1.length dc1)) (fun k q => by subst q; exact H7.out)
              simp only [set8, List.set_cons_zero, List.set_cons_succ] at hZ hZ1 hZ2
              clear y0 y1 y2 y3 y4 y5 y6 y7 q0 q1 q2 q3 q4 q5 q6 q7
              replace hS := Lib.hid hZ
              replace HR1 := hZ1
              replace HR2 := hZ2
              clear hZ hZ1 hZ2
              refine hK.out _ _ (hS.out.top 2) (fun hcur2 => ?_)
              clear hK K
              replace hcur := hcur2
              (try dsimp only at hcur)
              clear hcur2
              (try simp only [Act.put, List.getElem_toArray, List.getElem_cons_zero, List.getElem_cons_succ, List.setIfInBounds_toArray, List.set_cons_zero, List.set_cons_succ])
              clear HHI
              have HHI := Lib.hid True.intro
              generalize World.setCell _ _ _ = X at hS HR1 HR2 hcur ⊢
              refine wpAnyH_ready (rs := [12]) (by decide +kernel) (by simp) ?_
              refine AllReadyH.cons rfl (fun K hK => ?_) AllReadyH.nil
              obtain ⟨y0, y1, y2, y3, y4, y5, y6, y7, q0, q1, q2, q3, q4, q5, q6, q7⟩ := nd_facts (hS.out.has 4 _ _ rfl).1
              go_simp
              have hZ := hS.out.store 4 rfl (.int .i64 level2) (.string nlow2) (.string high2) (.bool last2) (.int .i64 next2) (.slice Q1 keys2.length da2) (.slice Q2 vals2.length db2) (.slice Q3 kids2.length dc2)
              have hZ1 := HR1.off (set8_off _ (g8) (.int .i64 level2) (.string nlow2) (.string high2) (.bool last2) (.int .i64 next2) (.slice Q1 keys2.length da2) (.slice Q2 vals2.length db2) (.slice Q3 kids2.length dc2)) (fun k q => by subst q; exact H8.out)
              have hZ2 := HR2.off (set8_off _ (g8) (.int .i64 level2) (.string nlow2) (.string high2) (.bool last2) (.int .i64 next2) (.slice Q1 keys2.length da2) (.slice Q2 vals2.length db2) (.slice Q3 kids2.length dc2)) (fun k q => by subst q; exact H8.out)
              simp only [set8, List.set_cons_zero, List.set_cons_succ] at hZ hZ1 hZ2
              clear y0 y1 y2 y3 y4 y5 y6 y7 q0 q1 q2 q3 q4 q5 q6 q7
              replace hS := Lib.hid hZ
              replace HR1 := hZ1
              replace HR2 := hZ2
              clear hZ hZ1 hZ2
              refine hK.out _ _ (hS.out.top 2) (fun hcur2 => ?_)
              clear hK K
              replace hcur := hcur2
              (try dsimp only at hcur)
              clear hcur2
              (try simp only [Act.put, List.getElem_toArray, List.getElem_cons_zero, List.getElem_cons_succ, List.setIfInBounds_toArray, List.set_cons_zero, List.set_cons_succ])
              clear HHI
              have HHI := Lib.hid True.intro
              generalize World.setCell _ _ _ = X at hS HR1 HR2 hcur ⊢
              refine wpAnyH_done (by decide +kernel) ?_ _
              clear hcur HHI H7 H8
              have HF := Lib.hid (And.intro (hS.out.sub6 5 4 rfl rfl rfl rfl rfl rfl (by omega) (by omega) (by omega)) (And.intro (HR1.toF (B := w.heap.size + 4) (by omega)) (HR2.toF (B := w.heap.size + 4) (by omega))))
              clear hS HR1 HR2 HLO
              go_wp2_with fail
              go_meet
              exact ⟨g7, g8, P1, P2, P3, Q1, Q2, Q3, da1, db1, dc1, da2, db2, dc2, rfl, rfl, HF⟩
          · go_simp
            replace hS := Lib.hid (hS.out.alloc (.cells #[.int .i64 0, .string ⟨#[]⟩, .string ⟨#[]⟩, .bool false, .int .i64 0, .slice none 0 0, .slice none 0 0, .slice none 0 0] 26))
            simp only [List.cons_append, List.nil_append, List.set_cons_zero, List.set_cons_succ] at hS
            refine hK.out _ _ (hS.out.top 2) (fun hcur2 => ?_)
            clear hK K
            replace hcur := hcur2
            (try dsimp only at hcur)
            clear hcur2
            (try simp only [Act.put, List.getElem_toArray, List.getElem_cons_zero, List.getElem_cons_succ, List.setIfInBounds_toArray, List.set_cons_zero, List.set_cons_succ])
            generalize X.heap.size = g7 at hS ⊢
            generalize X.alloc _ = X at hS hcur ⊢
            refine wpAnyH_ready (rs := [2]) (by decide +kernel) (by simp) ?_
            refine AllReadyH.cons rfl (fun K hK => ?_) AllReadyH.nil
            go_simp
            refine (HBo.out _ (HA.out.up hS.out.below) (HB.out.up hS.out.below) (by trivial)).mono ?_
            rintro e X ⟨A1, B1, C1, ca1, cb1, cc1, rfl, hl, hb⟩
            replace hS := Lib.hid (hS.out.call hb)
            have HL := Lib.hid hl.lies
            clear hl hb
            go_wp2_with fail
            refine hK.out _ _ (hS.out.top 2) (fun hcur2 => ?_)
            clear hK K
            replace hcur := hcur2
            (try dsimp only at hcur)
            clear hcur2
            (try simp only [Act.put, List.getElem_toArray, List.getElem_cons_zero, List.getElem_cons_succ, List.setIfInBounds_toArray, List.set_cons_zero, List.set_cons_succ])
            refine wpAnyH_ready (rs := [5]) (by decide +kernel) (by simp) ?_
            refine AllReadyH.cons rfl (fun K hK => ?_) AllReadyH.nil
            have l7 := hS.out.lt (i := 5) rfl
            have l8 := hS.out.lt (i := 4) rfl
            go_simp
            have HLO := hS.out.lt (i := 3) rfl
            refine (HPa.out A1 B1 C1 ca1 cb1 cc1 _ HL.out (by trivial) H3.out).mono ?_
            rintro e Y ⟨P1, P2, P3, Q1, Q2, Q3, da1, db1, dc1, da2, db2, dc2, rfl, hl1, hl2, hb⟩
            replace hS := Lib.hid (hS.out.call hb)
            clear hb HL
            have HR1 := LiesR.of hl1 (Nat.le_refl _)
            have HR2 := LiesR.of hl2 (Nat.le_refl _)
            clear hl1 hl2
            generalize X.heap.size = lo at HR1 HR2 l7 l8 HLO
            obtain ⟨hi, ehi⟩ : ∃ hi, hi = Y.heap.size := ⟨_, rfl⟩
            rw [← ehi] at HR1 HR2
            have HHI := Lib.hid (Nat.le_of_eq ehi)
            clear ehi
            simp only [ndCells] at HR1 HR2 ⊢
            go_wp2_with fail
            refine hK.out _ _ (hS.out.top 2) (fun hcur2 => ?_)
            clear hK K
            replace hcur := hcur2
            (try dsimp only at hcur)
            clear hcur2
            (try simp only [Act.put, List.getElem_toArray, List.getElem_cons_zero, List.getElem_cons_succ, List.setIfInBounds_toArray, List.set_cons_zero, List.set_cons_succ])
            clear X
            generalize Y = X at hS HR1 HR2 HHI hcur ⊢
            have H7 := Lib.hid (show g7 < lo ∨ hi ≤ g7 from Or.inl l7)
            have H8 := Lib.hid (show g8 < lo ∨ hi ≤ g8 from Or.inl l8)
            clear l7
            clear l8
            refine wpAnyH_take (i := 6) (v := ?_) rfl (by decide +kernel) (by decide +kernel) (by decide +kernel) (fun _ _ _ h => h) (Or.inl ⟨by rfl, ?hy⟩) hcur ?_
            case hy =>
              intro w1 hSw
              (try dsimp only at hSw)
              obtain ⟨x0, x1, x2, x3, x4, x5, x6, x7, -, -, -, -, -, -, -, -⟩ := nd_facts (hSw.has 0 _ _ rfl).1
              obtain ⟨y0, y1, y2, y3, y4, y5, y6, y7, -, -, -, -, -, -, -, -⟩ := nd_facts (hSw.has 1 _ _ rfl).1
              go_simp
              (try with_reducible rfl)
            (try simp only [Act.put, List.getElem_toArray, List.getElem_cons_zero, List.getElem_cons_succ, List.setIfInBounds_toArray, List.set_cons_zero, List.set_cons_succ])
            refine wpAnyH_take (i := 7) (v := ?_) rfl (by decide +kernel) (by decide +kernel) (by decide +kernel) (fun _ _ _ h => h) (Or.inl ⟨by rfl, ?hy⟩) hcur ?_
            case hy =>
              intro w1 hSw
              (try dsimp only at hSw)
              obtain ⟨x0, x1, x2, x3, x4, x5, x6, x7, -, -, -, -, -, -, -, -⟩ := nd_facts (hSw.has 0 _ _ rfl).1
              obtain ⟨y0, y1, y2, y3, y4, y5, y6, y7, -, -, -, -, -, -, -, -⟩ := nd_facts (hSw.has 1 _ _ rfl).1
              go_simp
              (try with_reducible rfl)
            (try simp only [Act.put, List.getElem_toArray, List.getElem_cons_zero, List.getElem_cons_succ, List.setIfInBounds_toArray, List.set_cons_zero, List.set_cons_succ])
            refine wpAnyH_take (i := 8) (v := ?_) rfl (by decide +kernel) (by decide +kernel) (by decide +kernel) (fun _ _ _ h => h) (Or.inl ⟨by rfl, ?hy⟩) hcur ?_
            case hy =>
              intro w1 hSw
              (try dsimp only at hSw)
              obtain ⟨x0, x1, x2, x3, x4, x5, x6, x7, -, -, -, -, -, -, -, -⟩ := nd_facts (hSw.has 0 _ _ rfl).1
              obtain ⟨y0, y1, y2, y3, y4, y5, y6, y7, -, -, -, -, -, -, -, -⟩ := nd_facts (hSw.has 1 _ _ rfl).1
              go_simp
              (try with_reducible rfl)
            (try simp only [Act.put, List.getElem_toArray, List.getElem_cons_zero, List.getElem_cons_succ, List.setIfInBounds_toArray, List.set_cons_zero, List.set_cons_succ])
            refine wpAnyH_ready (rs := [11]) (by decide +kernel) (by simp) ?_
            refine AllReadyH.cons rfl (fun K hK => ?_) AllReadyH.nil
            obtain ⟨y0, y1, y2, y3, y4, y5, y6, y7, q0, q1, q2, q3, q4, q5, q6, q7⟩ := nd_facts (hS.out.has 5 _ _ rfl).1
            go_simp
            have hZ := hS.out.store 5 rfl (.int .i64 level1) (.string nlow1) (.string high1) (.bool last1) (.int .i64 next1) (.slice P1 keys1.length da1) (.slice P2 vals1.length db1) (.slice P3 kids1.length dc1)
            have hZ1 := HR1.off (set8_off _ (g7) (.int .i64 level1) (.string nlow1) (.string high1) (.bool last1) (.int .i64 next1) (.slice P1 keys1.length da1) (.slice P2 vals1.length db1) (.slice P3 kids1.length dc1)) (fun k q => by subst q; exact H7.out)
            have hZ2 := HR2.off (set8_off _ (g7) (.int .i64 level1) (.string nlow1) (.string high1) (.bool last1) (.int .i64 next1) (.slice P1 keys1.length da1) (.slice P2 vals1.length db1) (.slice P3 kids1.length dc1)) (fun k q => by subst q; exact H7.out)
            simp only [set8, List.set_cons_zero, List.set_cons_succ] at hZ hZ1 hZ2
            clear y0 y1 y2 y3 y4 y5 y6 y7 q0 q1 q2 q3 q4 q5 q6 q7
            replace hS := Lib.hid hZ
            replace HR1 := hZ1
            replace HR2 := hZ2
            clear hZ hZ1 hZ2
            refine hK.out _ _ (hS.out.top 2) (fun hcur2 => ?_)
            clear hK K
            replace hcur := hcur2
            (try dsimp only at hcur)
            clear hcur2
            (try simp only [Act.put, List.getElem_toArray, List.getElem_cons_zero, List.getElem_cons_succ, List.setIfInBounds_toArray, List.set_cons_zero, List.set_cons_succ])
            clear HHI
            have HHI := Lib.hid True.intro
            generalize World.setCell _ _ _ = X at hS HR1 HR2 hcur ⊢
            refine wpAnyH_ready (rs := [12]) (by decide +kernel) (by simp) ?_
            refine AllReadyH.cons rfl (fun K hK => ?_) AllReadyH.nil
            obtain ⟨y0, y1, y2, y3, y4, y5, y6, y7, q0, q1, q2, q3, q4, q5, q6, q7⟩ := nd_facts (hS.out.has 4 _ _ rfl).1
            go_simp
            have hZ := hS.out.store 4 rfl (.int .i64 level2) (.string nlow2) (.string high2) (.bool last2) (.int .i64 next2) (.slice Q1 keys2.length da2) (.slice Q2 vals2.length db2) (.slice Q3 kids2.length dc2)
            have hZ1 := HR1.off (set8_off _ (g8) (.int .i64 level2) (.string nlow2) (.string high2) (.bool last2) (.int .i64 next2) (.slice Q1 keys2.length da2) (.slice Q2 vals2.length db2) (.slice Q3 kids2.length dc2)) (fun k q => by subst q; exact H8.out)
            have hZ2 := HR2.off (set8_off _ (g8) (.int .i64 level2) (.string nlow2) (.string high2) (.bool last2) (.int .i64 next2) (.slice Q1 keys2.length da2) (.slice Q2 vals2.length db2) (.slice Q3 kids2.length dc2)) (fun k q => by subst q; exact H8.out)
            simp only [set8, List.set_cons_zero, List.set_cons_succ] at hZ hZ1 hZ2
            clear y0 y1 y2 y3 y4 y5 y6 y7 q0 q1 q2 q3 q4 q5 q6 q7
            replace hS := Lib.hid hZ
            replace HR1 := hZ1
            replace HR2 := hZ2
            clear hZ hZ1 hZ2
            refine hK.out _ _ (hS.out.top 2) (fun hcur2 => ?_)
            clear hK K
            replace hcur := hcur2
            (try dsimp only at hcur)
            clear hcur2
            (try simp only [Act.put, List.getElem_toArray, List.getElem_cons_zero, List.getElem_cons_succ, List.setIfInBounds_toArray, List.set_cons_zero, List.set_cons_succ])
            clear HHI
            have HHI := Lib.hid True.intro
            generalize World.setCell _ _ _ = X at hS HR1 HR2 hcur ⊢
            refine wpAnyH_done (by decide +kernel) ?_ _
            clear hcur HHI H7 H8
            have HF := Lib.hid (And.intro (hS.out.sub6 5 4 rfl rfl rfl rfl rfl rfl (by omega) (by omega) (by omega)) (And.intro (HR1.toF (B := w.heap.size + 4) (by omega)) (HR2.toF (B := w.heap.size + 4) (by omega))))
            clear hS HR1 HR2 HLO
            go_wp2_with fail
            go_meet
            exact ⟨g7, g8, P1, P2, P3, Q1, Q2, Q3, da1, db1, dc1, da2, db2, dc2, rfl, rfl, HF⟩
      case rest =>
        obtain ⟨g7, g8, P1, P2, P3, Q1, Q2, Q3, da1, db1, dc1, da2, db2, dc2, rfl, rfl, HF⟩ := hcut
        clear hS
        have hS := Lib.hid HF.out.1
        have H1 := Lib.hid HF.out.2.1
        have H2 := Lib.hid HF.out.2.2
        clear HF HNb HBo HPa hno hyes HPB
        go_upto_region 4 with fail
        have hd := Below.drew (Below.refl wc.heap.size wc)
        replace hS := Lib.hid (hS.out.call hd)
        replace H1 := Lib.hid (H1.out.up hd)
        replace H2 := Lib.hid (H2.out.up hd)
        clear hd
        refine wp_region_held_drew (S := fun w' => Sx w.heap.size w w' [(g7, .cells #[.int .i64 level1, .string nlow1, .string high1, .bool last1, .int .i64 next1, .slice P1 keys1.length da1, .slice P2 vals1.length db1, .slice P3 kids1.length dc1] 26), (g8, .cells #[.int .i64 level2, .string nlow2, .string high2, .bool last2, .int .i64 next2, .slice Q1 keys2.length da2, .slice Q2 vals2.length db2, .slice Q3 kids2.length dc2] 26)]) (by kernel_rfl) (hS.out.bot 4) (fun hcur => ?_)
        (try dsimp only at hcur)
        generalize World.drew _ = X at hS H1 H2 hcur ⊢
        refine wpAnyH_take (i := 0) (v := ?_) rfl (by decide +kernel) (by decide +kernel) (by decide +kernel) (fun _ _ _ h => h) (Or.inl ⟨by rfl, ?hy⟩) hcur ?_
        case hy =>
          intro w1 hSw
          (try dsimp only at hSw)
          obtain ⟨x0, x1, x2, x3, x4, x5, x6, x7, -, -, -, -, -, -, -, -⟩ := nd_facts (hSw.has 0 _ _ rfl).1
          obtain ⟨y0, y1, y2, y3, y4, y5, y6, y7, -, -, -, -, -, -, -, -⟩ := nd_facts (hSw.has 1 _ _ rfl).1
          go_simp
          (try with_reducible rfl)
        (try simp only [Act.put, List.getElem_toArray, List.getElem_cons_zero, List.getElem_cons_succ, List.setIfInBounds_toArray, List.set_cons_zero, List.set_cons_succ])
        refine wpAnyH_take (i := 1) (v := ?_) rfl (by decide +kernel) (by decide +kernel) (by decide +kernel) (fun _ _ _ h => h) (Or.inl ⟨by rfl, ?hy⟩) hcur ?_
        case hy =>
          intro w1 hSw
          (try dsimp only at hSw)
          obtain ⟨x0, x1, x2, x3, x4, x5, x6, x7, -, -, -, -, -, -, -, -⟩ := nd_facts (hSw.has 0 _ _ rfl).1
          obtain ⟨y0, y1, y2, y3, y4, y5, y6, y7, -, -, -, -, -, -, -, -⟩ := nd_facts (hSw.has 1 _ _ rfl).1
          go_simp
          (try with_reducible rfl)
        (try simp only [Act.put, List.getElem_toArray, List.getElem_cons_zero, List.getElem_cons_succ, List.setIfInBounds_toArray, List.set_cons_zero, List.set_cons_succ])
        refine wpAnyH_ready (rs := [2]) (by decide +kernel) (by simp) ?_
        refine AllReadyH.cons rfl (fun K hK => ?_) AllReadyH.nil
        obtain ⟨y0, y1, y2, y3, y4, y5, y6, y7, q0, q1, q2, q3, q4, q5, q6, q7⟩ := nd_facts (hS.out.has 2 _ _ rfl).1
        go_simp
        have hZ := hS.out.store 2 rfl (.int .i64 level1) (.string nlow1) (.string high1) (.bool last1) (.int .i64 next1) (.slice P1 keys1.length da1) (.slice P2 vals1.length db1) (.slice P3 kids1.length dc1)
        have hZ1 := H1.out.off (set8_off _ (w.heap.size + 1 + 1) (.int .i64 level1) (.string nlow1) (.string high1) (.bool last1) (.int .i64 next1) (.slice P1 keys1.length da1) (.slice P2 vals1.length db1) (.slice P3 kids1.length dc1)) (fun k q => by omega)
        have hZ2 := H2.out.off (set8_off _ (w.heap.size + 1 + 1) (.int .i64 level1) (.string nlow1) (.string high1) (.bool last1) (.int .i64 next1) (.slice P1 keys1.length da1) (.slice P2 vals1.length db1) (.slice P3 kids1.length dc1)) (fun k q => by omega)
        simp only [set8] at hZ hZ1 hZ2
        replace hS := Lib.hid hZ
        replace H1 := Lib.hid hZ1
        replace H2 := Lib.hid hZ2
        clear hZ hZ1 hZ2
        simp only [List.cons_append, List.nil_append, List.set_cons_zero, List.set_cons_succ] at hS
        clear y0 y1 y2 y3 y4 y5 y6 y7 q0 q1 q2 q3 q4 q5 q6 q7
        refine hK.out _ _ (hS.out.bot 4) (fun hcur2 => ?_)
        clear hK K
        replace hcur := hcur2
        (try dsimp only at hcur)
        clear hcur2
        (try simp only [Act.put, List.getElem_toArray, List.getElem_cons_zero, List.getElem_cons_succ, List.setIfInBounds_toArray, List.set_cons_zero, List.set_cons_succ])
        generalize World.setCell _ _ _ = X1 at hS H1 H2 hcur ⊢
        refine wpAnyH_ready (rs := [3]) (by decide +kernel) (by simp) ?_
        refine AllReadyH.cons rfl (fun K hK => ?_) AllReadyH.nil
        obtain ⟨y0, y1, y2, y3, y4, y5, y6, y7, q0, q1, q2, q3, q4, q5, q6, q7⟩ := nd_facts (hS.out.has 3 _ _ rfl).1
        go_simp
        have hZ := hS.out.store 3 rfl (.int .i64 level2) (.string nlow2) (.string high2) (.bool last2) (.int .i64 next2) (.slice Q1 keys2.length da2) (.slice Q2 vals2.length db2) (.slice Q3 kids2.length dc2)
        have hZ1 := H1.out.off (set8_off _ (w.heap.size + 1 + 1 + 1) (.int .i64 level2) (.string nlow2) (.string high2) (.bool last2) (.int .i64 next2) (.slice Q1 keys2.length da2) (.slice Q2 vals2.length db2) (.slice Q3 kids2.length dc2)) (fun k q => by omega)
        have hZ2 := H2.out.off (set8_off _ (w.heap.size + 1 + 1 + 1) (.int .i64 level2) (.string nlow2) (.string high2) (.bool last2) (.int .i64 next2) (.slice Q1 keys2.length da2) (.slice Q2 vals2.length db2) (.slice Q3 kids2.length dc2)) (fun k q => by omega)
        simp only [set8] at hZ hZ1 hZ2
        replace hS := Lib.hid hZ
        replace H1 := Lib.hid hZ1
        replace H2 := Lib.hid hZ2
        clear hZ hZ1 hZ2
        simp only [List.cons_append, List.nil_append, List.set_cons_zero, List.set_cons_succ] at hS
        clear y0 y1 y2 y3 y4 y5 y6 y7 q0 q1 q2 q3 q4 q5 q6 q7
        refine hK.out _ _ (hS.out.bot 4) (fun hcur2 => ?_)
        clear hK K
        replace hcur := hcur2
        (try dsimp only at hcur)
        clear hcur2
        (try simp only [Act.put, List.getElem_toArray, List.getElem_cons_zero, List.getElem_cons_succ, List.setIfInBounds_toArray, List.set_cons_zero, List.set_cons_succ])
        generalize World.setCell _ _ _ = X2 at hS H1 H2 hcur ⊢
        refine wpAnyH_take (i := 4) (v := ?_) rfl (by decide +kernel) (by decide +kernel) (by decide +kernel) (fun _ _ _ h => h) (Or.inl ⟨by rfl, ?hy⟩) hcur ?_
        case hy =>
          intro w1 hSw
          (try dsimp only at hSw)
          obtain ⟨x0, x1, x2, x3, x4, x5, x6, x7, -, -, -, -, -, -, -, -⟩ := nd_facts (hSw.has 0 _ _ rfl).1
          obtain ⟨y0, y1, y2, y3, y4, y5, y6, y7, -, -, -, -, -, -, -, -⟩ := nd_facts (hSw.has 1 _ _ rfl).1
          go_simp
          (try with_reducible rfl)
        (try simp only [Act.put, List.getElem_toArray, List.getElem_cons_zero, List.getElem_cons_succ, List.setIfInBounds_toArray, List.set_cons_zero, List.set_cons_succ])
        refine wpAnyH_done (by decide +kernel) ?_ _
        clear hcur
        have HFI := Lib.hid (And.intro H1.out.lies (And.intro H2.out.lies hS.out.below))
        obtain ⟨x0, x1, x2, x3, x4, x5, x6, x7, f0, f1, f2, f3, f4, f5, f6, f7⟩ := nd_facts (hS.out.has 2 _ _ rfl).1
        obtain ⟨y0, y1, y2, y3, y4, y5, y6, y7, q0, q1, q2, q3, q4, q5, q6, q7⟩ := nd_facts (hS.out.has 3 _ _ rfl).1
        go_wp2_with fail
        exact bodyPost_ret (v := .tuple #[.agg #[.int .i64 level1, .string nlow1, .string high1, .bool last1, .int .i64 next1, .slice P1 keys1.length da1, .slice P2 vals1.length db1, .slice P3 kids1.length dc1], .agg #[.int .i64 level2, .string nlow2, .string high2, .bool last2, .int .i64 next2, .slice Q1 keys2.length da2, .slice Q2 vals2.length db2, .slice Q3 kids2.length dc2], .bool true]) (by simp [results, Try.results52, go_sem, *]) rfl ⟨_, _, _, _, _, _, _, _, _, _, _, _, by simp only [ndCells], HFI.out⟩

end Go.Proofs.Ytcoiadncennhpaa
