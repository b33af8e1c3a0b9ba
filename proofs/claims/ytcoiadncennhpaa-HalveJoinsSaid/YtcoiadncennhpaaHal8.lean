/- Chapter 13's words: whole (where it holds). -/
import Derived.Test.YtcoiadncennhpaaHal7
namespace Go.Proofs.Ytcoiadncennhpaa
open Go.RowKit

theorem Sx.head {B : Nat} {W0 W : World} {p : Nat × Obj} {L : List (Nat × Obj)} (h : Sx B W0 W (p :: L)) : Sx B W0 W [p] := by
  refine ⟨h.below, h.le, fun i g o hi => ?_, fun i j p q hij hi hj => ?_⟩
  · rcases i with _ | i
    · exact h.has 0 g o hi
    · simp at hi
  · rcases i with _ | i
    · rcases j with _ | j
      · exact absurd rfl hij
      · simp at hj
    · simp at hi
theorem NRet.to {P : Program} {f : FuncId} {args : Array Value} {w : World} {o o' : Bool × Nd} (h : Calls P f args w (NRet o w)) (e : o = o') : Calls P f args w (NRet o' w) := e ▸ h

theorem ndChk_ok {d : Nd} {fan : Int} (h : soundB d fan = true) (h2 : 4 ≤ fan ∧ fan ≤ 64) : ndChk d fan = 0 := (if_neg (by omega)).trans (if_pos h)

/-- Two sound neighbours, that have as many entries, or the left one one more. -/
structure WholeP (a b : Nd) (m : Nat) : Prop where
  sa : soundB a 64 = true
  sb : soundB b 64 = true
  lv : b.level = a.level
  la : a.last = false
  hl : a.high = b.low
  sum : a.keys.length + b.keys.length = m
  dif : a.keys.length = b.keys.length ∨ a.keys.length = b.keys.length + 1
theorem whole_part {p : Nd} {cell : Int} (h1 : soundB (partL p cell) 64 = true) (h2 : soundB (partR p) 64 = true) : WholeP (partL p cell) (partR p) p.keys.length := by
  obtain ⟨l1, l2⟩ := part_lens p cell
  have : cutN p.keys.length = p.keys.length - p.keys.length / 2 := rfl
  exact ⟨h1, h2, rfl, rfl, rfl, by omega, by omega⟩

set_option maxRecDepth 100000 in
set_option maxHeartbeats 4000000 in
theorem whole_any (a b : Nd) (m : Nat) (A B C A' B' C' : Option Addr) (ca cb cc ca' cb' cc' : Nat) (w : World) (h : Lies w a A B C ca cb cc) (k : Lies w b A' B' C' ca' cb' cc') (q : WholeP a b m) :
    Calls Try.prog 65 #[.agg (ndCells a A B C ca cb cc), .agg (ndCells b A' B' C' ca' cb' cc'), .int .i64 (m : Int)] w (Ret (.bool true) w) := by
  have hS := Lib.hid (Sx.start2 w (.cells (ndCells a A B C ca cb cc) 26) (.cells (ndCells b A' B' C' ca' cb' cc') 26))
  have HA := Lib.hid h
  have HB := Lib.hid k
  have HCa := Lib.hid (fun W hW => Ret.to (ndcheck_any a 64 A B C ca cb cc W hW) (by rw [ndChk_ok q.sa (by omega)]))
  have HCb := Lib.hid (fun W hW => Ret.to (ndcheck_any b 64 A' B' C' ca' cb' cc' W hW) (by rw [ndChk_ok q.sb (by omega)]))
  have HL := Lib.hid (And.intro (snd_lens q.sa (by omega)) (snd_lens q.sb (by omega)))
  obtain ⟨_, _, e1, e2, e3, e4, e5⟩ := q
  clear h k
  obtain ⟨level, nlow, high, last, next, keys, vals, kids⟩ := a
  obtain ⟨level', nlow', high', last', next', keys', vals', kids'⟩ := b
  simp only [] at HL e1 e2 e3 e4 e5
  subst e1 e2 e3
  have hl1 : keys.length ≤ 65 := HL.out.1.1
  have hl2 : keys'.length ≤ 65 := HL.out.2.1
  have hms : wrap64 ((keys.length : Int) + (keys'.length : Int)) = (m : Int) := by unfold wrap64; omega
  have hmd : (wrap64 ((keys.length : Int) - (keys'.length : Int)) = 0) ∨ (wrap64 ((keys.length : Int) - (keys'.length : Int)) = 1) := by
    unfold wrap64
    rcases e5 with e5 | e5
    · left; omega
    · right; omega
  clear e4 e5 hl1 hl2 HL
  simp only [ndCells] at hS HCa HCb ⊢
  go_enter Try.func65, Try.ntmps65
  go_upto_region 1 with fail
  generalize (w.alloc _).alloc _ = W at hS ⊢
  obtain ⟨x0, x1, x2, x3, x4, x5, x6, x7, f0, f1, f2, f3, f4, f5, f6, f7⟩ := nd_facts (hS.out.has 0 _ _ rfl).1
  obtain ⟨y0, y1, y2, y3, y4, y5, y6, y7, q0, q1, q2, q3, q4, q5, q6, q7⟩ := nd_facts (hS.out.has 1 _ _ rfl).1
  go_wp2_with fail
  refine (HCa.out _ (HA.out.up hS.out.below)).mono ?_
  rintro e wn ⟨rfl, hbn⟩
  clear x0 x1 x2 x3 x4 x5 x6 x7 f0 f1 f2 f3 f4 f5 f6 f7
  clear y0 y1 y2 y3 y4 y5 y6 y7 q0 q1 q2 q3 q4 q5 q6 q7
  replace hS := Lib.hid (hS.out.call hbn)
  clear hbn
  obtain ⟨x0, x1, x2, x3, x4, x5, x6, x7, f0, f1, f2, f3, f4, f5, f6, f7⟩ := nd_facts (hS.out.has 0 _ _ rfl).1
  obtain ⟨y0, y1, y2, y3, y4, y5, y6, y7, q0, q1, q2, q3, q4, q5, q6, q7⟩ := nd_facts (hS.out.has 1 _ _ rfl).1
  go_wp2_with fail
  refine (HCb.out _ (HB.out.up hS.out.below)).mono ?_
  rintro e wn ⟨rfl, hbn⟩
  clear x0 x1 x2 x3 x4 x5 x6 x7 f0 f1 f2 f3 f4 f5 f6 f7
  clear y0 y1 y2 y3 y4 y5 y6 y7 q0 q1 q2 q3 q4 q5 q6 q7
  replace hS := Lib.hid (hS.out.call hbn)
  clear hbn
  obtain ⟨x0, x1, x2, x3, x4, x5, x6, x7, f0, f1, f2, f3, f4, f5, f6, f7⟩ := nd_facts (hS.out.has 0 _ _ rfl).1
  obtain ⟨y0, y1, y2, y3, y4, y5, y6, y7, q0, q1, q2, q3, q4, q5, q6, q7⟩ := nd_facts (hS.out.has 1 _ _ rfl).1
  clear HCa HCb
  rcases hmd with e | e
  · go_wp2_with fail
    go_ret
    exact ⟨rfl, hS.out.below⟩
  · go_wp2_with fail
    go_ret
    exact ⟨rfl, hS.out.below⟩

def x13 : Nd := ⟨0, ByteArray.empty, ByteArray.empty, true, -1, [⟨#[97]⟩, ⟨#[98]⟩, ⟨#[99]⟩, ⟨#[100]⟩], [1, 2, 3, 4], []⟩
def l13 : Nd := ⟨0, ByteArray.empty, ⟨#[99]⟩, false, 7, [⟨#[97]⟩, ⟨#[98]⟩], [1, 2], []⟩
def r13 : Nd := ⟨0, ⟨#[99]⟩, ByteArray.empty, true, -1, [⟨#[99]⟩, ⟨#[100]⟩], [3, 4], []⟩
theorem x13_fit : Fits x13.keys := by
  have h : ∀ s ∈ x13.keys, s.size ≤ maxLen := by decide
  exact fun j hj => h _ (List.getElem_mem hj)
theorem x13_split : splitD x13 7 = (true, l13, r13) := by kernel_rfl
theorem x13_merge : mergeD l13 r13 4 = (true, x13) := by kernel_rfl

set_option maxRecDepth 100000 in
set_option maxHeartbeats 8000000 in
theorem lives13_any (w : World) : Calls Try.prog 48 #[] w (Ret (.bool true) w) := by
  go_enter Try.func48, Try.ntmps48
  go_wp2_with fail
  refine (empty_any _).mono ?_
  rintro e W1 ⟨rfl, hb⟩
  have hS := Lib.hid (((Sx.start0 w).call hb).alloc (.cells #[.int .i64 0, .string ⟨#[]⟩, .string ⟨#[]⟩, .bool true, .int .i64 (-1), .slice none 0 0, .slice none 0 0, .slice none 0 0] 26))
  clear hb
  simp only [List.nil_append] at hS
  go_upto_region 2 with fail
  generalize W1.heap.size = g1 at hS ⊢
  generalize W1.alloc _ = Y at hS ⊢
  replace hS := Lib.hid (hS.out.alloc (.cells (strs x13.keys).toArray 9))
  simp only [List.cons_append, List.nil_append] at hS
  obtain ⟨x0, x1, x2, x3, x4, x5, x6, x7, f0, f1, f2, f3, f4, f5, f6, f7⟩ := nd_facts (hS.out.has 0 _ _ rfl).1
  simp only [strs, x13, List.map_cons, List.map_nil] at x0 x1 x2 x3 x4 x5 x6 x7 f0 f1 f2 f3 f4 f5 f6 f7
  go_upto_region 3 with fail
  clear x0 x1 x2 x3 x4 x5 x6 x7 f0 f1 f2 f3 f4 f5 f6 f7
  replace hS := Lib.hid (hS.out.setc 0 rfl 5 (.slice (some ⟨Y.heap.size, 0, none⟩) 4 4))
  simp only [List.set_cons_zero, List.set_cons_succ, strs, x13, List.map_cons, List.map_nil] at hS
  generalize World.setCell _ _ _ = Y2 at hS ⊢
  generalize Y.heap.size = g2 at hS ⊢
  replace hS := Lib.hid (hS.out.alloc (.cells (u64s x13.vals).toArray 35))
  simp only [List.cons_append, List.nil_append] at hS
  obtain ⟨x0, x1, x2, x3, x4, x5, x6, x7, f0, f1, f2, f3, f4, f5, f6, f7⟩ := nd_facts (hS.out.has 0 _ _ rfl).1
  simp only [u64s, x13, List.map_cons, List.map_nil] at x0 x1 x2 x3 x4 x5 x6 x7 f0 f1 f2 f3 f4 f5 f6 f7
  go_upto_region 4 with fail
  clear x0 x1 x2 x3 x4 x5 x6 x7 f0 f1 f2 f3 f4 f5 f6 f7
  replace hS := Lib.hid (hS.out.setc 0 rfl 6 (.slice (some ⟨Y2.heap.size, 0, none⟩) 4 4))
  simp only [List.set_cons_zero, List.set_cons_succ, u64s, x13, List.map_cons, List.map_nil] at hS
  generalize World.setCell _ _ _ = Y3 at hS ⊢
  generalize Y2.heap.size = g3 at hS ⊢
  have hk : Y3.heap[g2]? = some (.cells (strs x13.keys).toArray 9 (0, 0)) := (hS.out.has 1 _ _ rfl).1
  have hv : Y3.heap[g3]? = some (.cells (u64s x13.vals).toArray 35 (0, 0)) := (hS.out.has 2 _ _ rfl).1
  have hl : Lies Y3 x13 (some ⟨g2, 0, none⟩) (some ⟨g3, 0, none⟩) none 4 4 0 :=
    { low := by decide, high := by decide, fit := x13_fit
      la := by decide, lb := by decide, lc := by decide, keys := Rd.new hk, vals := Rd.new hv, kids := (zero_lies _).kids, ka := by decide, kb := by decide, kc := by decide }
  have HL := Lib.hid hl
  clear hk hv hl
  obtain ⟨x0, x1, x2, x3, x4, x5, x6, x7, f0, f1, f2, f3, f4, f5, f6, f7⟩ := nd_facts (hS.out.has 0 _ _ rfl).1
  go_wp2_with fail
  refine (x13_split ▸ split_any x13 7 _ _ _ 4 4 0 _ HL.out).mono ?_
  rintro e W2 ⟨A1, A2, A3, B1, B2, B3, ca, cb, cc, da, db, dc, rfl, hl1, hl2, hb⟩
  clear x0 x1 x2 x3 x4 x5 x6 x7 f0 f1 f2 f3 f4 f5 f6 f7
  have hba := (below_alloc W2 (.cells (ndCells l13 A1 A2 A3 ca cb cc) 26))
  have hbb := (below_alloc (W2.alloc (.cells (ndCells l13 A1 A2 A3 ca cb cc) 26)) (.cells (ndCells r13 B1 B2 B3 da db dc) 26))
  have H1 := Lib.hid ((hl1.up hba).up hbb)
  have H2 := Lib.hid ((hl2.up hba).up hbb)
  replace HL := Lib.hid (((HL.out.up hb).up hba).up hbb)
  replace hS := Lib.hid (((hS.out.call hb).alloc (.cells (ndCells l13 A1 A2 A3 ca cb cc) 26)).alloc (.cells (ndCells r13 B1 B2 B3 da db dc) 26))
  clear hl1 hl2 hb hba hbb
  simp only [List.cons_append, List.nil_append, ndCells, l13, r13, List.length_cons, List.length_nil, Nat.zero_add, Nat.reduceAdd, alloc_size] at hS H1 H2 HL ⊢
  go_upto_region 5 with fail
  generalize (W2.alloc _).alloc _ = Y4 at hS H1 H2 HL ⊢
  generalize W2.heap.size = g4 at hS ⊢
  obtain ⟨x0, x1, x2, x3, x4, x5, x6, x7, f0, f1, f2, f3, f4, f5, f6, f7⟩ := nd_facts (hS.out.has 3 _ _ rfl).1
  obtain ⟨y0, y1, y2, y3, y4, y5, y6, y7, q0, q1, q2, q3, q4, q5, q6, q7⟩ := nd_facts (hS.out.has 4 _ _ rfl).1
  go_wp2_with fail
  refine (NRet.to (merge_any l13 r13 4 A1 A2 A3 B1 B2 B3 ca cb cc da db dc _ H1.out H2.out) x13_merge).mono ?_
  rintro e W3 ⟨A7, B7, C7, ca7, cb7, cc7, rfl, hl, hb⟩
  clear x0 x1 x2 x3 x4 x5 x6 x7 f0 f1 f2 f3 f4 f5 f6 f7
  clear y0 y1 y2 y3 y4 y5 y6 y7 q0 q1 q2 q3 q4 q5 q6 q7
  have hba := (below_alloc W3 (.cells (ndCells x13 A7 B7 C7 ca7 cb7 cc7) 26))
  have H7 := Lib.hid (hl.up hba)
  replace HL := Lib.hid ((HL.out.up hb).up hba)
  replace hS := Lib.hid ((hS.out.call hb).alloc (.cells (ndCells x13 A7 B7 C7 ca7 cb7 cc7) 26))
  clear hl hb hba H1 H2
  simp only [List.cons_append, List.nil_append, ndCells, x13, List.length_cons, List.length_nil, Nat.zero_add, Nat.reduceAdd] at hS H7 HL ⊢
  go_upto_region 6 with fail
  generalize W3.alloc _ = Y5 at hS H7 HL ⊢
  generalize W3.heap.size = g7 at hS ⊢
  obtain ⟨x0, x1, x2, x3, x4, x5, x6, x7, f0, f1, f2, f3, f4, f5, f6, f7⟩ := nd_facts (hS.out.has 3 _ _ rfl).1
  obtain ⟨y0, y1, y2, y3, y4, y5, y6, y7, q0, q1, q2, q3, q4, q5, q6, q7⟩ := nd_facts (hS.out.has 4 _ _ rfl).1
  obtain ⟨z0, z1, z2, z3, z4, z5, z6, z7, -, -, -, -, -, -, -, -⟩ := nd_facts (hS.out.has 5 _ _ rfl).1
  obtain ⟨s0, s1, s2, s3, s4, s5, s6, s7, -, -, -, -, -, -, -, -⟩ := nd_facts (hS.out.has 0 _ _ rfl).1
  go_wp2_with fail
  refine (Ret.to (sameN_any x13 x13 A7 B7 C7 _ _ _ ca7 cb7 cc7 _ _ _ _ H7.out HL.out) (congrArg Value.bool (sameB_self x13))).mono ?_
  rintro e wn ⟨rfl, hbn⟩
  go_wp2_with fail
  go_ret
  exact ⟨rfl, (hS.out.call hbn).below⟩

end Go.Proofs.Ytcoiadncennhpaa
