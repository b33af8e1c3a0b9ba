/- Contracts of package history: rows of calls; Of. -/
import Derived.Test.YthbafbgnclpbpaaHistA
import Derived.Test.YthbafbgnclpbpaaOwC
import Derived.Laws.StructEq
import Derived.Test.YthbafbgnclpbpaaZAns5
namespace Go.Proofs.Ythbafbgnclpbpaa
open Go.RowKit

def clRow (xs : List CallD) : List Value := xs.flatMap fun x => (callCells x).toList
theorem clRow_append (xs ys : List CallD) : clRow (xs ++ ys) = clRow xs ++ clRow ys := by simp [clRow]
theorem clRow_one (xs : List CallD) : ∀ u ∈ clRow xs, u.oneCell' = true := by
  intro u hu
  unfold clRow at hu
  rw [List.mem_flatMap] at hu
  obtain ⟨x, _, hx⟩ := hu
  simp only [callCells, List.mem_cons, List.not_mem_nil, or_false] at hx
  rcases hx with rfl | rfl | rfl | rfl | rfl | rfl | rfl | rfl | rfl | rfl | rfl | rfl | rfl | rfl | rfl <;> rfl
theorem clRow_at (xs : List CallD) : ∀ (j : Nat) (hj : j < xs.length) (k : Nat) (v : Value), (callCells xs[j])[k]? = some v → (clRow xs)[j * 15 + k]? = some v := by
  induction xs with
  | nil => intro j hj; simp at hj
  | cons x t ih =>
    intro j hj k v hv
    have hs : (callCells x).toList.length = 15 := rfl
    have e : clRow (x :: t) = (callCells x).toList ++ clRow t := rfl
    rw [e]
    rcases j with _ | j
    · have hk : k < 15 := by
        have := (Array.getElem?_eq_some_iff.1 hv).1
        exact this
      rw [Nat.zero_mul, Nat.zero_add, List.getElem?_append_left (by omega)]
      simpa using hv
    · rw [List.getElem?_append_right (by omega), hs, show (j + 1) * 15 + k - 15 = j * 15 + k by omega]
      exact ih j (by simpa using hj) k v hv
theorem cls_of_own {w : World} {B n : Nat} {A : Option Addr} {c : Nat} {xs : List CallD} (h : w.ownsRow B 71 15 (.slice A n c) n (clRow xs)) (hp : ∀ x ∈ xs, Prs w x.pa x.ans.pairs.length x.ans.pairs) (hn : xs.length = n) : Cls w A n xs := by
  subst hn
  refine ⟨rfl, hp, fun h0 => ?_⟩
  rcases h.2 with ⟨_, h1⟩ | ⟨g, cap, cur, e, _, hg, hnc, _, hcs, htk⟩
  · omega
  · injection e with e1 e2 e3
    subst e1
    refine ⟨g, 0, rfl, (Array.getElem?_eq_some_iff.1 hg).1, fun j hj k v hk => ?_⟩
    have h2 := clRow_at xs j hj k v hk
    rw [← htk, List.getElem?_take] at h2
    split at h2
    · rw [Nat.zero_add, cell_of_row w g (j * 15 + k) cur _ _ hg]
      simpa using h2
    · cases h2
theorem call_info : (Try.prog.info? 71).map (fun i => (i.zero, i.size, i.bytes)) = some (some (.agg (callCells callZ)), 15, 160) := by kernel_rfl

/-- Those of a thread. -/
def ofC (xs : List CallD) (t : Int) : List CallD := xs.filter fun x => x.thread == t
theorem ofC_take {xs : List CallD} {t : Int} {j : Nat} (hj : j < xs.length) : ofC (xs.take (j + 1)) t = ofC (xs.take j) t ++ (if (xs[j].thread == t) = true then [xs[j]] else []) := by
  unfold ofC
  rw [List.take_add_one, List.getElem?_eq_getElem hj, Option.toList, List.filter_append]
  congr 1
  by_cases h : (xs[j].thread == t) = true
  · rw [if_pos h]; simp only [List.filter_cons, List.filter_nil, h, if_true]
  · rw [if_neg h]; simp only [List.filter_cons, List.filter_nil, h, if_false, Bool.false_eq_true]
theorem Ow.pushC {B : Nat} {W0 W : World} {L : List (Nat × Obj)} {R : List RowT} (h : Ow B W0 W L R) (i : Nat) {n : Nat} {v : Value} {xs : List CallD} (hi : R[i]? = some ⟨71, 15, v, n, clRow xs⟩) (x : CallD) (hl : n ≤ 10000) :
    ∃ A' c' W1, (Builtin.append_ #[67, 67] 67 #[v, .slice (some ⟨W.heap.size, 0, none⟩) 1 1]).run Try.prog (W.alloc (.cells (callCells x) 71)) = .ok (.slice A' (n + 1) c') W1 ∧ n + 1 ≤ c' ∧
      Ow B W0 W1 L (R.set i ⟨71, 15, .slice A' (n + 1) c', n + 1, clRow (xs ++ [x])⟩) := by
  have := h.push (P := Try.prog) i hi 67 67 (.agg (callCells callZ)) 160 (by kernel_rfl) call_info rfl (by omega) (callCells x).toList rfl (fun u hu => clRow_one [x] u (by simpa [clRow] using hu)) hl (by omega)
  rw [clRow_append, show clRow [x] = (callCells x).toList by simp [clRow]]
  exact this

set_option maxRecDepth 100000 in
set_option maxHeartbeats 16000000 in
theorem cof_any (A : Option Addr) (c : Nat) (xs : List CallD) (t : Int) (w : World) (h : Cls w A xs.length xs) (hl : xs.length ≤ 1000) :
    Calls Try.prog 59 #[.slice A xs.length c, .int .i64 t] w (fun e w' => ∃ A' c', e = .returned (.slice A' (ofC xs t).length c') ∧ w'.ownsRow w.heap.size 71 15 (.slice A' (ofC xs t).length c') (ofC xs t).length (clRow (ofC xs t)) ∧ Below w.heap.size w w') := by
  have HH := Lib.hid h
  have hO := (Ow.start (Sx.start0 w)).nil 71 15
  simp only [List.nil_append] at hO
  have HO := Lib.hid hO
  clear h hO
  go_enter Try.func59, Try.ntmps59
  go_wp2_with fail
  go_loopw [4, 6, 9] (fun v _ i wr => ∃ (j m : Nat) (A1 : Option Addr) (c1 : Nat), i = .int .i64 j ∧ v = .slice A1 m c1 ∧ Hid (j ≤ xs.length ∧ m = (ofC (xs.take j) t).length ∧ m ≤ j ∧
    Ow w.heap.size w wr [] [⟨71, 15, .slice A1 m c1, m, clRow (ofC (xs.take j) t)⟩])) (fun _ _ i _ => xs.length - (intOf i).toNat)
  case atStart => exact ⟨0, 0, none, 0, rfl, rfl, Nat.zero_le _, rfl, Nat.le_refl _, HO.out⟩
  case round =>
    obtain ⟨j, m, A1, c1, rfl, rfl, H⟩ := hrel
    clear HO
    by_cases hlt : j < xs.length
    · obtain ⟨b, off, _, hA, hbw, _, _⟩ := HH.out.at_ hlt
      subst hA
      have HBL := Lib.hid hbw
      have HCJ := Lib.hid (HH.out.get hlt).2.2
      have HT := Lib.hid (ofC_take (t := t) hlt)
      have HO := Lib.hid H.out.2.2.2
      have HM := Lib.hid (And.intro H.out.2.1 H.out.2.2.1)
      clear H hbw
      generalize xs[j] = x at HCJ HT
      obtain ⟨x0, x1, x2, x3, x4, x5, x6, x7, x8, x9, x10, x11, x12, x13, x14⟩ := CallAt.moved HCJ.out HO.out.below HBL.out
      have hm : m ≤ 1000 := by have := HM.out; omega
      have hn := CallAt.new wr x 71
      have hOw := HO.out.call (below_alloc wr (.cells (callCells x) 71))
      simp only [callCells] at hn hOw
      go_upto_region 4 with fail
      clear x0 x1 x2 x3 x4 x5 x6 x7 x8 x9 x10 x11 x12 x13 x14
      generalize wr.alloc _ = W2 at hn hOw ⊢
      generalize wr.heap.size = g at hn ⊢
      clear HO
      obtain ⟨x0, x1, x2, x3, x4, x5, x6, x7, x8, x9, x10, x11, x12, x13, x14⟩ := hn
      simp only [Nat.zero_add] at x0 x1 x2 x3 x4 x5 x6 x7 x8 x9 x10 x11 x12 x13 x14
      obtain ⟨A2, c2, W3, hrun, hc2, hO2⟩ := hOw.pushC 0 rfl x (by omega)
      simp only [List.set_cons_zero] at hO2
      by_cases ht : (x.thread == t) = true
      · have HN := Lib.hid (And.intro (HT.out.trans (by rw [if_pos ht])) hO2)
        have Hrun := Lib.hid hrun
        simp only [callCells] at Hrun
        clear hOw hO2 hrun HT
        go_wp2_with (at_builtin; refine wpList_append_run rfl (.tmp 17) (.tmp 19) 67 rfl rfl rfl Hrun.out ?_)
        go_roundw
        case rel => exact ⟨j + 1, m + 1, A2, c2, by go_num, rfl, by omega, by rw [HN.out.1, List.length_append, ← HM.out.1]; rfl, by have := HM.out; omega, by rw [HN.out.1]; exact HN.out.2⟩
        case measure => simp [intOf]; omega
      · have ht2 : (x.thread == t) = false := by simpa using ht
        have HN := Lib.hid (And.intro (HT.out.trans (by rw [if_neg ht, List.append_nil])) hOw)
        clear hOw hO2 hrun HT ht
        go_wp2_with fail
        go_roundw
        case rel => exact ⟨j + 1, m, A1, c1, by go_num, rfl, by omega, by rw [HN.out.1]; exact HM.out.1, by have := HM.out; omega, by rw [HN.out.1]; exact HN.out.2⟩
        case measure => simp [intOf]; omega
    · obtain rfl : j = xs.length := by have := H.out.1; omega
      have HF := Lib.hid H.out
      rw [List.take_length] at HF
      clear H
      go_wp2_with fail
      go_ret
      refine ⟨A1, c1, by rw [← HF.out.2.1]; rfl, ?_, HF.out.2.2.2.below⟩
      have := HF.out.2.2.2.own 0 _ rfl
      rw [← HF.out.2.1]
      exact this

end Go.Proofs.Ythbafbgnclpbpaa

namespace Go.Proofs.Ythbafbgnclpbpaa
open Go.RowKit

theorem alloc_size (w : World) (o : Obj) : (w.alloc o).heap.size = w.heap.size + 1 := by simp
theorem Sx.start2 (w : World) (a b : Obj) : Sx w.heap.size w ((w.alloc a).alloc b) [(w.heap.size, a), (w.heap.size + 1, b)] := by
  have := ((Sx.start0 w).alloc a).alloc b
  rw [alloc_size] at this
  exact this

theorem Ret.to {P : Program} {f : FuncId} {args : Array Value} {w : World} {v v' : Value} (h : Calls P f args w (Ret v w)) (e : v = v') : Calls P f args w (Ret v' w) := e ▸ h

/-- Calls that are the same, wherever their pairs lie. -/
structure SameC (x y : CallD) : Prop where
  thread : y.thread = x.thread
  op : y.op = x.op
  since : y.since = x.since
  done : y.done = x.done
  upto : y.upto = x.upto
  steps : y.steps = x.steps
  short : y.short = x.short
  ans : y.ans = x.ans
theorem SameC.refl (x : CallD) : SameC x x := ⟨rfl, rfl, rfl, rfl, rfl, rfl, rfl, rfl⟩
theorem SameC.eq {x y : CallD} (h : SameC x y) : y = ⟨x.thread, x.op, x.since, x.done, x.upto, x.steps, x.short, x.ans, y.pa, y.pc⟩ := by
  obtain ⟨a, b, c, d, e, f, g, i, j, k⟩ := y
  obtain ⟨h1, h2, h3, h4, h5, h6, h7, h8⟩ := h
  simp only [] at h1 h2 h3 h4 h5 h6 h7 h8
  subst h1 h2 h3 h4 h5 h6 h7 h8
  rfl
theorem ansB_self (a : AnsD) : ansB a a = true := by unfold ansB; simp

def faceCells (x : CallD) : Array Value := #[.int .i64 x.thread, .int .i64 x.since, .int .i64 x.done, .int .i64 x.upto, .int .i64 x.steps, .bool x.short, .int .i64 x.op.kind, .string x.op.key, .string x.op.upto, .int .u64 (x.op.val : Int), .int .i64 x.op.limit]
set_option maxRecDepth 100000 in
set_option maxHeartbeats 4000000 in
theorem faced_any (x : CallD) (w : World) : Calls Try.prog 94 #[.agg (callCells x)] w (Ret (.agg (faceCells x)) w) := by
  have hS := Lib.hid (Sx.start2 w (.cells (callCells x) 71) (.cells (faceCells callZ) 121))
  obtain ⟨thread, ⟨kind, key, oupto, val, limit⟩, since, done, upto, steps, short, ⟨code, akey, aval, pairs⟩, pa, pc⟩ := x
  have hn := call_facts (x := ⟨thread, ⟨kind, key, oupto, val, limit⟩, since, done, upto, steps, short, ⟨code, akey, aval, pairs⟩, pa, pc⟩) (hS.out.has 0 _ _ rfl).1
  simp only [callCells, faceCells, callZ] at hS hn ⊢
  go_enter Try.func94, Try.ntmps94
  go_upto_region 1 with fail
  generalize (w.alloc _).alloc _ = W at hS hn ⊢
  obtain ⟨x0, x1, x2, x3, x4, x5, x6, x7, x8, x9, x10, x11, x12, x13, x14⟩ := hn
  simp only [Nat.zero_add] at x0 x1 x2 x3 x4 x5 x6 x7 x8 x9 x10 x11 x12 x13 x14
  have hh := (hS.out.has 1 _ _ rfl).1
  have fz : ∀ i, W.frozen? ⟨w.heap.size + 1, i, none⟩ = false := fun i => heap_frozen hh i
  have cz : ∀ i v, (#[.int .i64 0, .int .i64 0, .int .i64 0, .int .i64 0, .int .i64 0, .bool false, .int .i64 0, .string ⟨#[]⟩, .string ⟨#[]⟩, .int .u64 0, .int .i64 0] : Array Value)[i]? = some v → W.cell? ⟨w.heap.size + 1, i, none⟩ = some v := fun i v hv => by simp only [World.cell?, hh]; exact hv
  have y0 := cz 0 _ rfl
  have y1 := cz 1 _ rfl
  have y2 := cz 2 _ rfl
  have y3 := cz 3 _ rfl
  have y4 := cz 4 _ rfl
  have y5 := cz 5 _ rfl
  have y6 := cz 6 _ rfl
  have y7 := cz 7 _ rfl
  have y8 := cz 8 _ rfl
  have y9 := cz 9 _ rfl
  have y10 := cz 10 _ rfl
  have f0 := fz 0
  have f1 := fz 1
  have f2 := fz 2
  have f3 := fz 3
  have f4 := fz 4
  have f5 := fz 5
  have f6 := fz 6
  have f7 := fz 7
  have f8 := fz 8
  have f9 := fz 9
  have f10 := fz 10
  clear hh fz cz
  have HZ := Lib.hid (((((((((((hS.out.setc 1 rfl 0 (.int .i64 thread)).setc 1 rfl 1 (.int .i64 since)).setc 1 rfl 2 (.int .i64 done)).setc 1 rfl 3 (.int .i64 upto)).setc 1 rfl 4 (.int .i64 steps)).setc 1 rfl 5 (.bool short)).setc 1 rfl 6 (.int .i64 kind)).setc 1 rfl 7 (.string key)).setc 1 rfl 8 (.string oupto)).setc 1 rfl 9 (.int .u64 (val : Int))).setc 1 rfl 10 (.int .i64 limit)).below
  go_wp2_with fail
  exact bodyPost_ret (v := .agg #[.int .i64 thread, .int .i64 since, .int .i64 done, .int .i64 upto, .int .i64 steps, .bool short, .int .i64 kind, .string key, .string oupto, .int .u64 (val : Int), .int .i64 limit]) (by simp [results, Try.results94, go_sem, *]) rfl ⟨rfl, HZ.out⟩

set_option maxRecDepth 100000 in
set_option maxHeartbeats 4000000 in
theorem csame1_any (x y : CallD) (w : World) (h : SameC x y) (hx : Prs w x.pa x.ans.pairs.length x.ans.pairs) (hy : Prs w y.pa y.ans.pairs.length y.ans.pairs) (hl : x.ans.pairs.length ≤ 9223372036854775807) :
    Calls Try.prog 93 #[.agg (callCells x), .agg (callCells y)] w (Ret (.bool true) w) := by
  have he := h.eq
  have hp2 : y.ans = x.ans := h.ans
  rw [hp2] at hy
  generalize y.pa = pb at he hy
  generalize y.pc = pd at he
  subst he
  have hS := Lib.hid (Sx.start2 w (.cells (callCells x) 71) (.cells (callCells ⟨x.thread, x.op, x.since, x.done, x.upto, x.steps, x.short, x.ans, pb, pd⟩) 71))
  have HF1 := Lib.hid (fun W => faced_any x W)
  have HF2 := Lib.hid (fun W => faced_any ⟨x.thread, x.op, x.since, x.done, x.upto, x.steps, x.short, x.ans, pb, pd⟩ W)
  have HAn := Lib.hid (fun W (hb : Below w.heap.size w W) => Ret.to (anssame_any x.ans x.ans x.pa pb x.pc pd W (hx.up hb) (hy.up hb) hl) (congrArg Value.bool (ansB_self x.ans)))
  clear h hp2 hx hy hl
  obtain ⟨thread, ⟨kind, key, oupto, val, limit⟩, since, done, upto, steps, short, ⟨code, akey, aval, pairs⟩, pa, pc⟩ := x
  simp only [callCells, faceCells, ansCells] at hS HF1 HF2 HAn ⊢
  go_enter Try.func93, Try.ntmps93
  go_upto_region 1 with fail
  generalize (w.alloc _).alloc _ = W at hS ⊢
  refine wp_region_held_drew (S := fun w' => Below W.heap.size W w') (by kernel_rfl) (Below.drew (Below.refl _ _)) (fun hcur => ?_)
  replace hcur : Below W.heap.size W W.drew := hcur
  refine wpAnyH_take (i := 0) (v := ?_) rfl (by decide +kernel) (by decide +kernel) (by decide +kernel) (fun _ _ _ h => h) (Or.inl ⟨by rfl, ?hy⟩) hcur ?_
  case hy =>
    intro w1 hSw
    replace hSw : Below W.heap.size W w1 := hSw
    obtain ⟨x0, x1, x2, x3, x4, x5, x6, x7, x8, x9, x10, x11, x12, x13, x14⟩ := call_facts (x := ⟨thread, ⟨kind, key, oupto, val, limit⟩, since, done, upto, steps, short, ⟨code, akey, aval, pairs⟩, pa, pc⟩) ((hS.out.call hSw).has 0 _ _ rfl).1
    obtain ⟨y0, y1, y2, y3, y4, y5, y6, y7, y8, y9, y10, y11, y12, y13, y14⟩ := call_facts (x := ⟨thread, ⟨kind, key, oupto, val, limit⟩, since, done, upto, steps, short, ⟨code, akey, aval, pairs⟩, pb, pd⟩) ((hS.out.call hSw).has 1 _ _ rfl).1
    simp only [Nat.zero_add] at x0 x1 x2 x3 x4 x5 x6 x7 x8 x9 x10 x11 x12 x13 x14 y0 y1 y2 y3 y4 y5 y6 y7 y8 y9 y10 y11 y12 y13 y14
    go_simp
    (try with_reducible rfl)
  (try simp only [Act.put, List.getElem_toArray, List.getElem_cons_zero, List.getElem_cons_succ, List.setIfInBounds_toArray, List.set_cons_zero, List.set_cons_succ])
  refine wpAnyH_take (i := 2) (v := ?_) rfl (by decide +kernel) (by decide +kernel) (by decide +kernel) (fun _ _ _ h => h) (Or.inl ⟨by rfl, ?hy⟩) hcur ?_
  case hy =>
    intro w1 hSw
    replace hSw : Below W.heap.size W w1 := hSw
    obtain ⟨x0, x1, x2, x3, x4, x5, x6, x7, x8, x9, x10, x11, x12, x13, x14⟩ := call_facts (x := ⟨thread, ⟨kind, key, oupto, val, limit⟩, since, done, upto, steps, short, ⟨code, akey, aval, pairs⟩, pa, pc⟩) ((hS.out.call hSw).has 0 _ _ rfl).1
    obtain ⟨y0, y1, y2, y3, y4, y5, y6, y7, y8, y9, y10, y11, y12, y13, y14⟩ := call_facts (x := ⟨thread, ⟨kind, key, oupto, val, limit⟩, since, done, upto, steps, short, ⟨code, akey, aval, pairs⟩, pb, pd⟩) ((hS.out.call hSw).has 1 _ _ rfl).1
    simp only [Nat.zero_add] at x0 x1 x2 x3 x4 x5 x6 x7 x8 x9 x10 x11 x12 x13 x14 y0 y1 y2 y3 y4 y5 y6 y7 y8 y9 y10 y11 y12 y13 y14
    go_simp
    (try with_reducible rfl)
  (try simp only [Act.put, List.getElem_toArray, List.getElem_cons_zero, List.getElem_cons_succ, List.setIfInBounds_toArray, List.set_cons_zero, List.set_cons_succ])
  refine wpAnyH_ready (rs := [1]) (by decide +kernel) (by simp) ?_
  refine AllReadyH.cons rfl (fun K hK => ?_) AllReadyH.nil
  go_simp
  refine (HF1.out _).mono ?_
  rintro e wn ⟨rfl, hbn⟩
  go_wp2_with fail
  refine hK.out _ _ (below_of hcur hbn) (fun _ => ?_)
  clear hK K
  replace hcur := below_of hcur hbn
  clear hbn
  (try simp only [Act.put, List.getElem_toArray, List.getElem_cons_zero, List.getElem_cons_succ, List.setIfInBounds_toArray, List.set_cons_zero, List.set_cons_succ])
  refine wpAnyH_ready (rs := [3]) (by decide +kernel) (by simp) ?_
  refine AllReadyH.cons rfl (fun K hK => ?_) AllReadyH.nil
  go_simp
  refine (HF2.out _).mono ?_
  rintro e wn ⟨rfl, hbn⟩
  go_wp2_with fail
  refine hK.out _ _ (below_of hcur hbn) (fun _ => ?_)
  clear hK K
  replace hcur := below_of hcur hbn
  clear hbn
  (try simp only [Act.put, List.getElem_toArray, List.getElem_cons_zero, List.getElem_cons_succ, List.setIfInBounds_toArray, List.set_cons_zero, List.set_cons_succ])
  refine wpAnyH_take (i := 4) (v := .bool true) rfl (by decide +kernel) (by decide +kernel) (by decide +kernel) (fun _ _ _ h => h) (Or.inl ⟨by rfl, ?hy⟩) hcur ?_
  case hy =>
    intro w1 hSw
    replace hSw : Below W.heap.size W w1 := hSw
    obtain ⟨x0, x1, x2, x3, x4, x5, x6, x7, x8, x9, x10, x11, x12, x13, x14⟩ := call_facts (x := ⟨thread, ⟨kind, key, oupto, val, limit⟩, since, done, upto, steps, short, ⟨code, akey, aval, pairs⟩, pa, pc⟩) ((hS.out.call hSw).has 0 _ _ rfl).1
    obtain ⟨y0, y1, y2, y3, y4, y5, y6, y7, y8, y9, y10, y11, y12, y13, y14⟩ := call_facts (x := ⟨thread, ⟨kind, key, oupto, val, limit⟩, since, done, upto, steps, short, ⟨code, akey, aval, pairs⟩, pb, pd⟩) ((hS.out.call hSw).has 1 _ _ rfl).1
    simp only [Nat.zero_add] at x0 x1 x2 x3 x4 x5 x6 x7 x8 x9 x10 x11 x12 x13 x14 y0 y1 y2 y3 y4 y5 y6 y7 y8 y9 y10 y11 y12 y13 y14
    go_simp
    skip
  (try simp only [Act.put, List.getElem_toArray, List.getElem_cons_zero, List.getElem_cons_succ, List.setIfInBounds_toArray, List.set_cons_zero, List.set_cons_succ])
  refine wpAnyH_take (i := 5) (v := ?_) rfl (by decide +kernel) (by decide +kernel) (by decide +kernel) (fun _ _ _ h => h) (Or.inl ⟨by rfl, ?hy⟩) hcur ?_
  case hy =>
    intro w1 hSw
    replace hSw : Below W.heap.size W w1 := hSw
    obtain ⟨x0, x1, x2, x3, x4, x5, x6, x7, x8, x9, x10, x11, x12, x13, x14⟩ := call_facts (x := ⟨thread, ⟨kind, key, oupto, val, limit⟩, since, done, upto, steps, short, ⟨code, akey, aval, pairs⟩, pa, pc⟩) ((hS.out.call hSw).has 0 _ _ rfl).1
    obtain ⟨y0, y1, y2, y3, y4, y5, y6, y7, y8, y9, y10, y11, y12, y13, y14⟩ := call_facts (x := ⟨thread, ⟨kind, key, oupto, val, limit⟩, since, done, upto, steps, short, ⟨code, akey, aval, pairs⟩, pb, pd⟩) ((hS.out.call hSw).has 1 _ _ rfl).1
    simp only [Nat.zero_add] at x0 x1 x2 x3 x4 x5 x6 x7 x8 x9 x10 x11 x12 x13 x14 y0 y1 y2 y3 y4 y5 y6 y7 y8 y9 y10 y11 y12 y13 y14
    go_simp
    (try with_reducible rfl)
  (try simp only [Act.put, List.getElem_toArray, List.getElem_cons_zero, List.getElem_cons_succ, List.setIfInBounds_toArray, List.set_cons_zero, List.set_cons_succ])
  refine wpAnyH_take (i := 6) (v := ?_) rfl (by decide +kernel) (by decide +kernel) (by decide +kernel) (fun _ _ _ h => h) (Or.inl ⟨by rfl, ?hy⟩) hcur ?_
  case hy =>
    intro w1 hSw
    replace hSw : Below W.heap.size W w1 := hSw
    obtain ⟨x0, x1, x2, x3, x4, x5, x6, x7, x8, x9, x10, x11, x12, x13, x14⟩ := call_facts (x := ⟨thread, ⟨kind, key, oupto, val, limit⟩, since, done, upto, steps, short, ⟨code, akey, aval, pairs⟩, pa, pc⟩) ((hS.out.call hSw).has 0 _ _ rfl).1
    obtain ⟨y0, y1, y2, y3, y4, y5, y6, y7, y8, y9, y10, y11, y12, y13, y14⟩ := call_facts (x := ⟨thread, ⟨kind, key, oupto, val, limit⟩, since, done, upto, steps, short, ⟨code, akey, aval, pairs⟩, pb, pd⟩) ((hS.out.call hSw).has 1 _ _ rfl).1
    simp only [Nat.zero_add] at x0 x1 x2 x3 x4 x5 x6 x7 x8 x9 x10 x11 x12 x13 x14 y0 y1 y2 y3 y4 y5 y6 y7 y8 y9 y10 y11 y12 y13 y14
    go_simp
    (try with_reducible rfl)
  (try simp only [Act.put, List.getElem_toArray, List.getElem_cons_zero, List.getElem_cons_succ, List.setIfInBounds_toArray, List.set_cons_zero, List.set_cons_succ])
  refine wpAnyH_take (i := 7) (v := ?_) rfl (by decide +kernel) (by decide +kernel) (by decide +kernel) (fun _ _ _ h => h) (Or.inl ⟨by rfl, ?hy⟩) hcur ?_
  case hy =>
    intro w1 hSw
    replace hSw : Below W.heap.size W w1 := hSw
    obtain ⟨x0, x1, x2, x3, x4, x5, x6, x7, x8, x9, x10, x11, x12, x13, x14⟩ := call_facts (x := ⟨thread, ⟨kind, key, oupto, val, limit⟩, since, done, upto, steps, short, ⟨code, akey, aval, pairs⟩, pa, pc⟩) ((hS.out.call hSw).has 0 _ _ rfl).1
    obtain ⟨y0, y1, y2, y3, y4, y5, y6, y7, y8, y9, y10, y11, y12, y13, y14⟩ := call_facts (x := ⟨thread, ⟨kind, key, oupto, val, limit⟩, since, done, upto, steps, short, ⟨code, akey, aval, pairs⟩, pb, pd⟩) ((hS.out.call hSw).has 1 _ _ rfl).1
    simp only [Nat.zero_add] at x0 x1 x2 x3 x4 x5 x6 x7 x8 x9 x10 x11 x12 x13 x14 y0 y1 y2 y3 y4 y5 y6 y7 y8 y9 y10 y11 y12 y13 y14
    go_simp
    (try with_reducible rfl)
  (try simp only [Act.put, List.getElem_toArray, List.getElem_cons_zero, List.getElem_cons_succ, List.setIfInBounds_toArray, List.set_cons_zero, List.set_cons_succ])
  refine wpAnyH_take (i := 8) (v := ?_) rfl (by decide +kernel) (by decide +kernel) (by decide +kernel) (fun _ _ _ h => h) (Or.inl ⟨by rfl, ?hy⟩) hcur ?_
  case hy =>
    intro w1 hSw
    replace hSw : Below W.heap.size W w1 := hSw
    obtain ⟨x0, x1, x2, x3, x4, x5, x6, x7, x8, x9, x10, x11, x12, x13, x14⟩ := call_facts (x := ⟨thread, ⟨kind, key, oupto, val, limit⟩, since, done, upto, steps, short, ⟨code, akey, aval, pairs⟩, pa, pc⟩) ((hS.out.call hSw).has 0 _ _ rfl).1
    obtain ⟨y0, y1, y2, y3, y4, y5, y6, y7, y8, y9, y10, y11, y12, y13, y14⟩ := call_facts (x := ⟨thread, ⟨kind, key, oupto, val, limit⟩, since, done, upto, steps, short, ⟨code, akey, aval, pairs⟩, pb, pd⟩) ((hS.out.call hSw).has 1 _ _ rfl).1
    simp only [Nat.zero_add] at x0 x1 x2 x3 x4 x5 x6 x7 x8 x9 x10 x11 x12 x13 x14 y0 y1 y2 y3 y4 y5 y6 y7 y8 y9 y10 y11 y12 y13 y14
    go_simp
    (try with_reducible rfl)
  (try simp only [Act.put, List.getElem_toArray, List.getElem_cons_zero, List.getElem_cons_succ, List.setIfInBounds_toArray, List.set_cons_zero, List.set_cons_succ])
  refine wpAnyH_take (i := 9) (v := ?_) rfl (by decide +kernel) (by decide +kernel) (by decide +kernel) (fun _ _ _ h => h) (Or.inl ⟨by rfl, ?hy⟩) hcur ?_
  case hy =>
    intro w1 hSw
    replace hSw : Below W.heap.size W w1 := hSw
    obtain ⟨x0, x1, x2, x3, x4, x5, x6, x7, x8, x9, x10, x11, x12, x13, x14⟩ := call_facts (x := ⟨thread, ⟨kind, key, oupto, val, limit⟩, since, done, upto, steps, short, ⟨code, akey, aval, pairs⟩, pa, pc⟩) ((hS.out.call hSw).has 0 _ _ rfl).1
    obtain ⟨y0, y1, y2, y3, y4, y5, y6, y7, y8, y9, y10, y11, y12, y13, y14⟩ := call_facts (x := ⟨thread, ⟨kind, key, oupto, val, limit⟩, since, done, upto, steps, short, ⟨code, akey, aval, pairs⟩, pb, pd⟩) ((hS.out.call hSw).has 1 _ _ rfl).1
    simp only [Nat.zero_add] at x0 x1 x2 x3 x4 x5 x6 x7 x8 x9 x10 x11 x12 x13 x14 y0 y1 y2 y3 y4 y5 y6 y7 y8 y9 y10 y11 y12 y13 y14
    go_simp
    (try with_reducible rfl)
  (try simp only [Act.put, List.getElem_toArray, List.getElem_cons_zero, List.getElem_cons_succ, List.setIfInBounds_toArray, List.set_cons_zero, List.set_cons_succ])
  refine wpAnyH_ready (rs := [10]) (by decide +kernel) (by simp) ?_
  refine AllReadyH.cons rfl (fun K hK => ?_) AllReadyH.nil
  go_simp
  refine (HAn.out _ (hS.out.call hcur).below).mono ?_
  rintro e wn ⟨rfl, hbn⟩
  go_wp2_with fail
  refine hK.out _ _ (below_of hcur hbn) (fun _ => ?_)
  clear hK K
  replace hcur := below_of hcur hbn
  clear hbn
  (try simp only [Act.put, List.getElem_toArray, List.getElem_cons_zero, List.getElem_cons_succ, List.setIfInBounds_toArray, List.set_cons_zero, List.set_cons_succ])
  refine wpAnyH_take (i := 11) (v := ?_) rfl (by decide +kernel) (by decide +kernel) (by decide +kernel) (fun _ _ _ h => h) (Or.inl ⟨by rfl, ?hy⟩) hcur ?_
  case hy =>
    intro w1 hSw
    replace hSw : Below W.heap.size W w1 := hSw
    obtain ⟨x0, x1, x2, x3, x4, x5, x6, x7, x8, x9, x10, x11, x12, x13, x14⟩ := call_facts (x := ⟨thread, ⟨kind, key, oupto, val, limit⟩, since, done, upto, steps, short, ⟨code, akey, aval, pairs⟩, pa, pc⟩) ((hS.out.call hSw).has 0 _ _ rfl).1
    obtain ⟨y0, y1, y2, y3, y4, y5, y6, y7, y8, y9, y10, y11, y12, y13, y14⟩ := call_facts (x := ⟨thread, ⟨kind, key, oupto, val, limit⟩, since, done, upto, steps, short, ⟨code, akey, aval, pairs⟩, pb, pd⟩) ((hS.out.call hSw).has 1 _ _ rfl).1
    simp only [Nat.zero_add] at x0 x1 x2 x3 x4 x5 x6 x7 x8 x9 x10 x11 x12 x13 x14 y0 y1 y2 y3 y4 y5 y6 y7 y8 y9 y10 y11 y12 y13 y14
    go_simp
    (try with_reducible rfl)
  (try simp only [Act.put, List.getElem_toArray, List.getElem_cons_zero, List.getElem_cons_succ, List.setIfInBounds_toArray, List.set_cons_zero, List.set_cons_succ])
  refine wpAnyH_take (i := 12) (v := ?_) rfl (by decide +kernel) (by decide +kernel) (by decide +kernel) (fun _ _ _ h => h) (Or.inl ⟨by rfl, ?hy⟩) hcur ?_
  case hy =>
    intro w1 hSw
    replace hSw : Below W.heap.size W w1 := hSw
    obtain ⟨x0, x1, x2, x3, x4, x5, x6, x7, x8, x9, x10, x11, x12, x13, x14⟩ := call_facts (x := ⟨thread, ⟨kind, key, oupto, val, limit⟩, since, done, upto, steps, short, ⟨code, akey, aval, pairs⟩, pa, pc⟩) ((hS.out.call hSw).has 0 _ _ rfl).1
    obtain ⟨y0, y1, y2, y3, y4, y5, y6, y7, y8, y9, y10, y11, y12, y13, y14⟩ := call_facts (x := ⟨thread, ⟨kind, key, oupto, val, limit⟩, since, done, upto, steps, short, ⟨code, akey, aval, pairs⟩, pb, pd⟩) ((hS.out.call hSw).has 1 _ _ rfl).1
    simp only [Nat.zero_add] at x0 x1 x2 x3 x4 x5 x6 x7 x8 x9 x10 x11 x12 x13 x14 y0 y1 y2 y3 y4 y5 y6 y7 y8 y9 y10 y11 y12 y13 y14
    go_simp
    (try with_reducible rfl)
  (try simp only [Act.put, List.getElem_toArray, List.getElem_cons_zero, List.getElem_cons_succ, List.setIfInBounds_toArray, List.set_cons_zero, List.set_cons_succ])
  refine wpAnyH_done (by decide +kernel) ?_ _
  go_wp2_with fail
  go_ret
  exact ⟨rfl, (hS.out.call hcur).below⟩

end Go.Proofs.Ythbafbgnclpbpaa

namespace Go.Proofs.Ythbafbgnclpbpaa
open Go.RowKit

set_option maxRecDepth 100000 in
set_option maxHeartbeats 4000000 in
theorem ceqfunc_any (A A' : Option Addr) (c c' n : Nat) (xs ys : List CallD) (w : World) (h : Cls w A n xs) (k : Cls w A' n ys) (hs : ∀ j (hj : j < xs.length) (hj' : j < ys.length), SameC xs[j] ys[j]) (hx : ∀ x ∈ xs, x.ans.pairs.length ≤ 9223372036854775807) (hl : n ≤ 1000) :
    Calls Try.prog 92 #[.slice A n c, .slice A' n c', .func (Fn.func 93) #[] #[]] w (Ret (.bool true) w) := by
  have HH := Lib.hid h
  have HK := Lib.hid k
  have HSm := Lib.hid hs
  have HX := Lib.hid hx
  have HLN := Lib.hid (And.intro h.1 k.1)
  clear h k hs hx
  go_enter Try.func92, Try.ntmps92
  go_wp2_with fail
  go_loopw [7, 8, 9, 17] (fun _ _ _ i wr => ∃ (j : Nat), i = .int .i64 j ∧ Hid (j ≤ n ∧ Below w.heap.size w wr)) (fun _ _ _ i _ => n - (intOf i).toNat)
  case atStart => exact ⟨0, rfl, Nat.zero_le _, Below.refl _ _⟩
  case round =>
    obtain ⟨j, rfl, H⟩ := hrel
    by_cases hlt : j < n
    · obtain ⟨b, off, hjx, hA, hbw, _, hpx⟩ := HH.out.at_ hlt
      obtain ⟨b', off', hjy, hA', hbw', _, hpy⟩ := HK.out.at_ hlt
      subst hA hA'
      have HBL := Lib.hid (And.intro hbw hbw')
      have HCX := Lib.hid (HH.out.get hlt).2.2
      have HCY := Lib.hid (HK.out.get hlt).2.2
      have HP := Lib.hid (fun W => csame1_any xs[j] ys[j] W (HSm.out j hjx hjy))
      have HPP := Lib.hid (And.intro hpx (And.intro hpy (HX.out _ (List.getElem_mem hjx))))
      have HO := Lib.hid H.out.2
      clear H hbw hbw' hpx hpy
      generalize xs[j] = x at HCX HP HPP
      generalize ys[j] = y at HCY HP HPP
      have hB := below_of HO.out (below_alloc wr (.cells (callCells x) 71))
      have hn := CallAt.new wr x 71
      obtain ⟨x0, x1, x2, x3, x4, x5, x6, x7, x8, x9, x10, x11, x12, x13, x14⟩ := CallAt.moved HCX.out HO.out HBL.out.1
      simp only [callCells] at hn hB HP
      go_upto_region 6 with fail
      clear x0 x1 x2 x3 x4 x5 x6 x7 x8 x9 x10 x11 x12 x13 x14
      have hg : wr.heap.size < (wr.alloc (.cells (callCells x) 71)).heap.size := by simp
      simp only [callCells] at hg
      generalize wr.alloc _ = W2 at hn hB hg ⊢
      generalize wr.heap.size = g at hn hg ⊢
      clear HO
      obtain ⟨y0, y1, y2, y3, y4, y5, y6, y7, y8, y9, y10, y11, y12, y13, y14⟩ := CallAt.moved HCY.out hB HBL.out.2
      have hB2 := below_of hB (below_alloc W2 (.cells (callCells y) 71))
      have hn2 := CallAt.new W2 y 71
      have hn1 := hn.up (below_alloc W2 (.cells (callCells y) 71)) hg
      simp only [callCells] at hn1 hn2 hB2
      go_upto_region 7 with fail
      clear y0 y1 y2 y3 y4 y5 y6 y7 y8 y9 y10 y11 y12 y13 y14 hn hg hB
      generalize W2.alloc _ = W3 at hn1 hn2 hB2 ⊢
      generalize W2.heap.size = g2 at hn2 ⊢
      obtain ⟨x0, x1, x2, x3, x4, x5, x6, x7, x8, x9, x10, x11, x12, x13, x14⟩ := hn1
      obtain ⟨y0, y1, y2, y3, y4, y5, y6, y7, y8, y9, y10, y11, y12, y13, y14⟩ := hn2
      simp only [Nat.zero_add] at x0 x1 x2 x3 x4 x5 x6 x7 x8 x9 x10 x11 x12 x13 x14 y0 y1 y2 y3 y4 y5 y6 y7 y8 y9 y10 y11 y12 y13 y14
      have HB3 := Lib.hid hB2
      clear hB2
      go_wp2_with fail
      refine (HP.out _ (HPP.out.1.up HB3.out) (HPP.out.2.1.up HB3.out) HPP.out.2.2).mono ?_
      rintro e wn ⟨rfl, hbn⟩
      clear x0 x1 x2 x3 x4 x5 x6 x7 x8 x9 x10 x11 x12 x13 x14 y0 y1 y2 y3 y4 y5 y6 y7 y8 y9 y10 y11 y12 y13 y14
      replace HB3 := Lib.hid (below_of HB3.out hbn)
      clear hbn
      go_wp2_with fail
      go_roundw
      case rel => exact ⟨j + 1, by go_num, by omega, HB3.out⟩
      case measure => simp [intOf]; omega
    · have HF := Lib.hid H.out
      clear H
      go_wp2_with fail
      go_ret
      exact ⟨rfl, HF.out.2⟩

set_option maxRecDepth 100000 in
set_option maxHeartbeats 4000000 in
theorem csame_any (A A' : Option Addr) (c c' n : Nat) (xs ys : List CallD) (w : World) (h : Cls w A n xs) (k : Cls w A' n ys) (hs : ∀ j (hj : j < xs.length) (hj' : j < ys.length), SameC xs[j] ys[j]) (hx : ∀ x ∈ xs, x.ans.pairs.length ≤ 9223372036854775807) (hl : n ≤ 1000) :
    Calls Try.prog 60 #[.slice A n c, .slice A' n c'] w (Ret (.bool true) w) := by
  have HE := Lib.hid (fun W (hb : Below w.heap.size w W) => ceqfunc_any A A' c c' n xs ys W (h.up hb) (k.up hb) hs hx hl)
  clear h k hs hx
  go_enter Try.func60, Try.ntmps60
  go_wp2_with fail
  refine (HE.out _ (Below.refl _ _)).mono ?_
  rintro e wn ⟨rfl, hbn⟩
  go_wp2_with fail
  go_ret
  exact ⟨rfl, hbn⟩

theorem Sx.pick2 {B : Nat} {W0 W : World} {L : List (Nat × Obj)} (h : Sx B W0 W L) {p q : Nat × Obj} (x y : Nat) (h0 : L[x]? = some p) (h1 : L[y]? = some q) (hxy : x ≠ y) : Sx B W0 W [p, q] := by
  have key : ∀ (i : Nat) (z : Nat × Obj), [p, q][i]? = some z → ∃ j, L[j]? = some z ∧ ((i = 0 ∧ j = x) ∨ (i = 1 ∧ j = y)) := by
    intro i z hz
    rcases i with _ | _ | i
    · exact ⟨x, by simp at hz; subst hz; exact h0, .inl ⟨rfl, rfl⟩⟩
    · exact ⟨y, by simp at hz; subst hz; exact h1, .inr ⟨rfl, rfl⟩⟩
    · simp at hz
  refine ⟨h.below, h.le, fun i g o hi => ?_, fun i j z z' hij hi hj => ?_⟩
  · obtain ⟨j, hj, _⟩ := key i _ hi
    exact h.has j g o hj
  · obtain ⟨a, ha, hia⟩ := key i z hi
    obtain ⟨b, hb, hib⟩ := key j z' hj
    exact h.ne a b z z' (by omega) ha hb
theorem call15 {W : World} {g : Nat} {v0 v1 v2 v3 v4 v5 v6 v7 v8 v9 v10 v11 v12 v13 v14 : Value} {T : TypeId} (h : W.heap[g]? = some (.cells #[v0, v1, v2, v3, v4, v5, v6, v7, v8, v9, v10, v11, v12, v13, v14] T (0, 0))) :
    W.cell? ⟨g, 0, none⟩ = some v0 ∧ W.cell? ⟨g, 1, none⟩ = some v1 ∧ W.cell? ⟨g, 2, none⟩ = some v2 ∧ W.cell? ⟨g, 3, none⟩ = some v3 ∧ W.cell? ⟨g, 4, none⟩ = some v4 ∧ W.cell? ⟨g, 5, none⟩ = some v5 ∧ W.cell? ⟨g, 6, none⟩ = some v6 ∧ W.cell? ⟨g, 7, none⟩ = some v7 ∧
    W.cell? ⟨g, 8, none⟩ = some v8 ∧ W.cell? ⟨g, 9, none⟩ = some v9 ∧ W.cell? ⟨g, 10, none⟩ = some v10 ∧ W.cell? ⟨g, 11, none⟩ = some v11 ∧ W.cell? ⟨g, 12, none⟩ = some v12 ∧ W.cell? ⟨g, 13, none⟩ = some v13 ∧ W.cell? ⟨g, 14, none⟩ = some v14 := by
  simp [World.cell?, h]

set_option maxRecDepth 100000 in
set_option maxHeartbeats 4000000 in
theorem refcsame_any (A A' : Option Addr) (c c' n : Nat) (xs ys : List CallD) (w : World) (h : Cls w A n xs) (k : Cls w A' n ys) (hs : ∀ j (hj : j < xs.length) (hj' : j < ys.length), SameC xs[j] ys[j]) (hx : ∀ x ∈ xs, x.ans.pairs.length ≤ 9223372036854775807) (hl : n ≤ 1000) :
    Calls Try.prog 58 #[.slice A n c, .slice A' n c'] w (Ret (.bool true) w) := by
  have HH := Lib.hid h
  have HK := Lib.hid k
  have HSm := Lib.hid hs
  have HX := Lib.hid hx
  clear h k hs hx
  go_enter Try.func58, Try.ntmps58
  go_wp2_with fail
  go_loopw [5, 6, 7] (fun i _ _ wr => ∃ (j : Nat), i = .int .i64 j ∧ Hid (j ≤ n ∧ Below w.heap.size w wr)) (fun i _ _ _ => n - (intOf i).toNat)
  case atStart => exact ⟨0, rfl, Nat.zero_le _, Below.refl _ _⟩
  case round =>
    obtain ⟨j, rfl, H⟩ := hrel
    by_cases hlt : j < n
    · obtain ⟨b, off, hjx, hA, hbw, _, hpx⟩ := HH.out.at_ hlt
      obtain ⟨b', off', hjy, hA', hbw', _, hpy⟩ := HK.out.at_ hlt
      subst hA hA'
      have he := (HSm.out j hjx hjy).eq
      have hpa : ys[j].ans = xs[j].ans := (HSm.out j hjx hjy).ans
      rw [hpa] at hpy
      have HCX := Lib.hid ((HH.out.get hlt).2.2.moved H.out.2 hbw)
      have HCY := Lib.hid ((HK.out.get hlt).2.2.moved H.out.2 hbw')
      have HBL := Lib.hid (And.intro (Nat.lt_of_lt_of_le hbw H.out.2.size) (Nat.lt_of_lt_of_le hbw' H.out.2.size))
      have HX9 := HX.out _ (List.getElem_mem hjx)
      have HO := Lib.hid H.out.2
      clear H hbw hbw' hpa
      generalize xs[j] = x at HCX hpx hpy he HX9
      generalize ys[j] = y at HCY hpy he
      generalize y.pa = pb at he hpy
      generalize y.pc = pd at he
      subst he
      have HP := Lib.hid (fun W (hb : Below w.heap.size w W) => Ret.to (refsame17_any x.ans x.ans x.pa pb x.pc pd W (hpx.up hb) (hpy.up hb) HX9) (congrArg Value.bool (ansB_self x.ans)))
      clear hpx hpy HX9
      obtain ⟨thread, ⟨kind, key, oupto, val, limit⟩, since, done, upto, steps, short, ⟨code, akey, aval, pairs⟩, pa, pc⟩ := x
      simp only [ansCells] at HP
      have hjn : (j : Int) < (n : Int) := by omega
      go_upto_region 6 with fail
      generalize wr = W at HCX HCY HBL HO ⊢
      go_cut [6, 7] (fun s6 s7 wx => ∃ g6 g7, s6 = .pointer (some ⟨g6, 0, none⟩) ∧ s7 = .pointer (some ⟨g7, 0, none⟩) ∧ Hid (Sx W.heap.size W wx [(g6, .cells #[.int .i64 thread, .int .i64 kind, .string key, .string oupto, .int .u64 (val : Int), .int .i64 limit, .int .i64 since, .int .i64 done, .int .i64 upto, .int .i64 steps, .bool short, .int .i64 code, .string akey, .int .u64 (aval : Int), .slice pa pairs.length pc] 71), (g7, .cells #[.int .i64 thread, .int .i64 kind, .string key, .string oupto, .int .u64 (val : Int), .int .i64 limit, .int .i64 since, .int .i64 done, .int .i64 upto, .int .i64 steps, .bool short, .int .i64 code, .string akey, .int .u64 (aval : Int), .slice pb pairs.length pd] 71)]))
      case first =>
        have hS := Lib.hid (Sx.start W)
        refine wp_region_held_drew (S := fun w' => Below W.heap.size W w') (by kernel_rfl) (Below.drew (Below.refl _ _)) (fun hcur => ?_)
        replace hcur : Below W.heap.size W W.drew := hcur
        generalize W.drew = X at hS hcur ⊢
        refine wpAnyH_take (i := 0) (v := ?_) rfl (by decide +kernel) (by decide +kernel) (by decide +kernel) (fun _ _ _ h => h) (Or.inl ⟨by rfl, ?hy⟩) hcur ?_
        case hy =>
          intro w1 hSw
          replace hSw : Below W.heap.size W w1 := hSw
          obtain ⟨x0, x1, x2, x3, x4, x5, x6, x7, x8, x9, x10, x11, x12, x13, x14⟩ := CallAt.moved HCX.out hSw HBL.out.1
          obtain ⟨y0, y1, y2, y3, y4, y5, y6, y7, y8, y9, y10, y11, y12, y13, y14⟩ := CallAt.moved HCY.out hSw HBL.out.2
          go_simp
          (try with_reducible rfl)
        (try simp only [Act.put, List.getElem_toArray, List.getElem_cons_zero, List.getElem_cons_succ, List.setIfInBounds_toArray, List.set_cons_zero, List.set_cons_succ])
        refine wpAnyH_take (i := 1) (v := ?_) rfl (by decide +kernel) (by decide +kernel) (by decide +kernel) (fun _ _ _ h => h) (Or.inl ⟨by rfl, ?hy⟩) hcur ?_
        case hy =>
          intro w1 hSw
          replace hSw : Below W.heap.size W w1 := hSw
          obtain ⟨x0, x1, x2, x3, x4, x5, x6, x7, x8, x9, x10, x11, x12, x13, x14⟩ := CallAt.moved HCX.out hSw HBL.out.1
          obtain ⟨y0, y1, y2, y3, y4, y5, y6, y7, y8, y9, y10, y11, y12, y13, y14⟩ := CallAt.moved HCY.out hSw HBL.out.2
          go_simp
          (try with_reducible rfl)
        (try simp only [Act.put, List.getElem_toArray, List.getElem_cons_zero, List.getElem_cons_succ, List.setIfInBounds_toArray, List.set_cons_zero, List.set_cons_succ])
        refine wpAnyH_take (i := 2) (v := ?_) rfl (by decide +kernel) (by decide +kernel) (by decide +kernel) (fun _ _ _ h => h) (Or.inl ⟨by rfl, ?hy⟩) hcur ?_
        case hy =>
          intro w1 hSw
          replace hSw : Below W.heap.size W w1 := hSw
          obtain ⟨x0, x1, x2, x3, x4, x5, x6, x7, x8, x9, x10, x11, x12, x13, x14⟩ := CallAt.moved HCX.out hSw HBL.out.1
          obtain ⟨y0, y1, y2, y3, y4, y5, y6, y7, y8, y9, y10, y11, y12, y13, y14⟩ := CallAt.moved HCY.out hSw HBL.out.2
          go_simp
          (try with_reducible rfl)
        (try simp only [Act.put, List.getElem_toArray, List.getElem_cons_zero, List.getElem_cons_succ, List.setIfInBounds_toArray, List.set_cons_zero, List.set_cons_succ])
        refine wpAnyH_take (i := 3) (v := ?_) rfl (by decide +kernel) (by decide +kernel) (by decide +kernel) (fun _ _ _ h => h) (Or.inl ⟨by rfl, ?hy⟩) hcur ?_
        case hy =>
          intro w1 hSw
          replace hSw : Below W.heap.size W w1 := hSw
          obtain ⟨x0, x1, x2, x3, x4, x5, x6, x7, x8, x9, x10, x11, x12, x13, x14⟩ := CallAt.moved HCX.out hSw HBL.out.1
          obtain ⟨y0, y1, y2, y3, y4, y5, y6, y7, y8, y9, y10, y11, y12, y13, y14⟩ := CallAt.moved HCY.out hSw HBL.out.2
          go_simp
          (try with_reducible rfl)
        (try simp only [Act.put, List.getElem_toArray, List.getElem_cons_zero, List.getElem_cons_succ, List.setIfInBounds_toArray, List.set_cons_zero, List.set_cons_succ])
        refine wpAnyH_take (i := 4) (v := ?_) rfl (by decide +kernel) (by decide +kernel) (by decide +kernel) (fun _ _ _ h => h) (Or.inl ⟨by rfl, ?hy⟩) hcur ?_
        case hy =>
          intro w1 hSw
          replace hSw : Below W.heap.size W w1 := hSw
          obtain ⟨x0, x1, x2, x3, x4, x5, x6, x7, x8, x9, x10, x11, x12, x13, x14⟩ := CallAt.moved HCX.out hSw HBL.out.1
          obtain ⟨y0, y1, y2, y3, y4, y5, y6, y7, y8, y9, y10, y11, y12, y13, y14⟩ := CallAt.moved HCY.out hSw HBL.out.2
          go_simp
          (try with_reducible rfl)
        (try simp only [Act.put, List.getElem_toArray, List.getElem_cons_zero, List.getElem_cons_succ, List.setIfInBounds_toArray, List.set_cons_zero, List.set_cons_succ])
        refine wpAnyH_take (i := 5) (v := ?_) rfl (by decide +kernel) (by decide +kernel) (by decide +kernel) (fun _ _ _ h => h) (Or.inl ⟨by rfl, ?hy⟩) hcur ?_
        case hy =>
          intro w1 hSw
          replace hSw : Below W.heap.size W w1 := hSw
          obtain ⟨x0, x1, x2, x3, x4, x5, x6, x7, x8, x9, x10, x11, x12, x13, x14⟩ := CallAt.moved HCX.out hSw HBL.out.1
          obtain ⟨y0, y1, y2, y3, y4, y5, y6, y7, y8, y9, y10, y11, y12, y13, y14⟩ := CallAt.moved HCY.out hSw HBL.out.2
          go_simp
          (try with_reducible rfl)
        (try simp only [Act.put, List.getElem_toArray, List.getElem_cons_zero, List.getElem_cons_succ, List.setIfInBounds_toArray, List.set_cons_zero, List.set_cons_succ])
        refine wpAnyH_take (i := 6) (v := ?_) rfl (by decide +kernel) (by decide +kernel) (by decide +kernel) (fun _ _ _ h => h) (Or.inl ⟨by rfl, ?hy⟩) hcur ?_
        case hy =>
          intro w1 hSw
          replace hSw : Below W.heap.size W w1 := hSw
          obtain ⟨x0, x1, x2, x3, x4, x5, x6, x7, x8, x9, x10, x11, x12, x13, x14⟩ := CallAt.moved HCX.out hSw HBL.out.1
          obtain ⟨y0, y1, y2, y3, y4, y5, y6, y7, y8, y9, y10, y11, y12, y13, y14⟩ := CallAt.moved HCY.out hSw HBL.out.2
          go_simp
          (try with_reducible rfl)
        (try simp only [Act.put, List.getElem_toArray, List.getElem_cons_zero, List.getElem_cons_succ, List.setIfInBounds_toArray, List.set_cons_zero, List.set_cons_succ])
        refine wpAnyH_take (i := 7) (v := ?_) rfl (by decide +kernel) (by decide +kernel) (by decide +kernel) (fun _ _ _ h => h) (Or.inl ⟨by rfl, ?hy⟩) hcur ?_
        case hy =>
          intro w1 hSw
          replace hSw : Below W.heap.size W w1 := hSw
          obtain ⟨x0, x1, x2, x3, x4, x5, x6, x7, x8, x9, x10, x11, x12, x13, x14⟩ := CallAt.moved HCX.out hSw HBL.out.1
          obtain ⟨y0, y1, y2, y3, y4, y5, y6, y7, y8, y9, y10, y11, y12, y13, y14⟩ := CallAt.moved HCY.out hSw HBL.out.2
          go_simp
          (try with_reducible rfl)
        (try simp only [Act.put, List.getElem_toArray, List.getElem_cons_zero, List.getElem_cons_succ, List.setIfInBounds_toArray, List.set_cons_zero, List.set_cons_succ])
        refine wpAnyH_ready (rs := [8, 9]) (by decide +kernel) (by simp) ?_
        refine AllReadyH.cons rfl (fun K hK => ?_) (AllReadyH.cons rfl (fun K hK => ?_) AllReadyH.nil)
        · go_simp
          refine hK.out _ _ (below_of hcur (below_alloc _ _)) (fun hcur2 => ?_)
          clear hK K
          replace hS := Lib.hid (hS.out.alloc (.cells #[.int .i64 0, .int .i64 0, .string ⟨#[]⟩, .string ⟨#[]⟩, .int .u64 0, .int .i64 0, .int .i64 0, .int .i64 0, .int .i64 0, .int .i64 0, .bool false, .int .i64 0, .string ⟨#[]⟩, .int .u64 0, .slice none 0 0] 71))
          replace hcur : Below W.heap.size W _ := hcur2
          clear hcur2
          (try simp only [Act.put, List.getElem_toArray, List.getElem_cons_zero, List.getElem_cons_succ, List.setIfInBounds_toArray, List.set_cons_zero, List.set_cons_succ])
          simp only [List.cons_append, List.nil_append] at hS
          generalize X.heap.size = g6 at hS ⊢
          generalize X.alloc _ = X at hS hcur ⊢
          refine wpAnyH_ready (rs := [9]) (by decide +kernel) (by simp) ?_
          refine AllReadyH.cons rfl (fun K hK => ?_) AllReadyH.nil
          go_simp
          refine hK.out _ _ (below_of hcur (below_alloc _ _)) (fun hcur2 => ?_)
          clear hK K
          replace hS := Lib.hid (hS.out.alloc (.cells #[.int .i64 0, .int .i64 0, .string ⟨#[]⟩, .string ⟨#[]⟩, .int .u64 0, .int .i64 0, .int .i64 0, .int .i64 0, .int .i64 0, .int .i64 0, .bool false, .int .i64 0, .string ⟨#[]⟩, .int .u64 0, .slice none 0 0] 71))
          replace hcur : Below W.heap.size W _ := hcur2
          clear hcur2
          (try simp only [Act.put, List.getElem_toArray, List.getElem_cons_zero, List.getElem_cons_succ, List.setIfInBounds_toArray, List.set_cons_zero, List.set_cons_succ])
          simp only [List.cons_append, List.nil_append] at hS
          generalize X.heap.size = g7 at hS ⊢
          generalize X.alloc _ = X at hS hcur ⊢
          refine wpAnyH_ready (rs := [10]) (by decide +kernel) (by simp) ?_
          refine AllReadyH.cons rfl (fun K hK => ?_) AllReadyH.nil
          have hh := (hS.out.has 0 _ _ rfl).1
          obtain ⟨y0, y1, y2, y3, y4, y5, y6, y7, y8, y9, y10, y11, y12, y13, y14⟩ := call15 hh
          have f0 := heap_frozen hh 0
          have f1 := heap_frozen hh 1
          have f2 := heap_frozen hh 2
          have f3 := heap_frozen hh 3
          have f4 := heap_frozen hh 4
          have f5 := heap_frozen hh 5
          have f6 := heap_frozen hh 6
          have f7 := heap_frozen hh 7
          have f8 := heap_frozen hh 8
          have f9 := heap_frozen hh 9
          have f10 := heap_frozen hh 10
          have f11 := heap_frozen hh 11
          have f12 := heap_frozen hh 12
          have f13 := heap_frozen hh 13
          have f14 := heap_frozen hh 14
          clear hh
          go_simp
          replace hS := Lib.hid (((((((((((((((hS.out.setc 0 rfl 0 (.int .i64 thread)).setc 0 rfl 1 (.int .i64 kind)).setc 0 rfl 2 (.string key)).setc 0 rfl 3 (.string oupto)).setc 0 rfl 4 (.int .u64 (val : Int))).setc 0 rfl 5 (.int .i64 limit)).setc 0 rfl 6 (.int .i64 since)).setc 0 rfl 7 (.int .i64 done)).setc 0 rfl 8 (.int .i64 upto)).setc 0 rfl 9 (.int .i64 steps)).setc 0 rfl 10 (.bool short)).setc 0 rfl 11 (.int .i64 code)).setc 0 rfl 12 (.string akey)).setc 0 rfl 13 (.int .u64 (aval : Int))).setc 0 rfl 14 (.slice pa pairs.length pc))
          clear y0 y1 y2 y3 y4 y5 y6 y7 y8 y9 y10 y11 y12 y13 y14 f0 f1 f2 f3 f4 f5 f6 f7 f8 f9 f10 f11 f12 f13 f14
          simp only [List.set_cons_zero, List.set_cons_succ] at hS
          refine hK.out _ _ hS.out.below (fun _ => ?_)
          clear hK K
          replace hcur := hS.out.below
          (try simp only [Act.put, List.getElem_toArray, List.getElem_cons_zero, List.getElem_cons_succ, List.setIfInBounds_toArray, List.set_cons_zero, List.set_cons_succ])
          generalize World.setCell _ _ _ = X at hS hcur ⊢
          refine wpAnyH_ready (rs := [11]) (by decide +kernel) (by simp) ?_
          refine AllReadyH.cons rfl (fun K hK => ?_) AllReadyH.nil
          have hh := (hS.out.has 1 _ _ rfl).1
          obtain ⟨y0, y1, y2, y3, y4, y5, y6, y7, y8, y9, y10, y11, y12, y13, y14⟩ := call15 hh
          have f0 := heap_frozen hh 0
          have f1 := heap_frozen hh 1
          have f2 := heap_frozen hh 2
          have f3 := heap_frozen hh 3
          have f4 := heap_frozen hh 4
          have f5 := heap_frozen hh 5
          have f6 := heap_frozen hh 6
          have f7 := heap_frozen hh 7
          have f8 := heap_frozen hh 8
          have f9 := heap_frozen hh 9
          have f10 := heap_frozen hh 10
          have f11 := heap_frozen hh 11
          have f12 := heap_frozen hh 12
          have f13 := heap_frozen hh 13
          have f14 := heap_frozen hh 14
          clear hh
          go_simp
          replace hS := Lib.hid (((((((((((((((hS.out.setc 1 rfl 0 (.int .i64 thread)).setc 1 rfl 1 (.int .i64 kind)).setc 1 rfl 2 (.string key)).setc 1 rfl 3 (.string oupto)).setc 1 rfl 4 (.int .u64 (val : Int))).setc 1 rfl 5 (.int .i64 limit)).setc 1 rfl 6 (.int .i64 since)).setc 1 rfl 7 (.int .i64 done)).setc 1 rfl 8 (.int .i64 upto)).setc 1 rfl 9 (.int .i64 steps)).setc 1 rfl 10 (.bool short)).setc 1 rfl 11 (.int .i64 code)).setc 1 rfl 12 (.string akey)).setc 1 rfl 13 (.int .u64 (aval : Int))).setc 1 rfl 14 (.slice pb pairs.length pd))
          clear y0 y1 y2 y3 y4 y5 y6 y7 y8 y9 y10 y11 y12 y13 y14 f0 f1 f2 f3 f4 f5 f6 f7 f8 f9 f10 f11 f12 f13 f14
          simp only [List.set_cons_zero, List.set_cons_succ] at hS
          refine hK.out _ _ hS.out.below (fun _ => ?_)
          clear hK K
          replace hcur := hS.out.below
          (try simp only [Act.put, List.getElem_toArray, List.getElem_cons_zero, List.getElem_cons_succ, List.setIfInBounds_toArray, List.set_cons_zero, List.set_cons_succ])
          generalize World.setCell _ _ _ = X at hS hcur ⊢
          refine wpAnyH_done (by decide +kernel) ?_ _
          clear hcur
          have HF := Lib.hid (hS.out.pick2 0 1 rfl rfl (by omega))
          clear hS
          go_wp2_with fail
          go_meet
          exact ⟨g6, g7, rfl, rfl, HF⟩
        · go_simp
          refine hK.out _ _ (below_of hcur (below_alloc _ _)) (fun hcur2 => ?_)
          clear hK K
          replace hS := Lib.hid (hS.out.alloc (.cells #[.int .i64 0, .int .i64 0, .string ⟨#[]⟩, .string ⟨#[]⟩, .int .u64 0, .int .i64 0, .int .i64 0, .int .i64 0, .int .i64 0, .int .i64 0, .bool false, .int .i64 0, .string ⟨#[]⟩, .int .u64 0, .slice none 0 0] 71))
          replace hcur : Below W.heap.size W _ := hcur2
          clear hcur2
          (try simp only [Act.put, List.getElem_toArray, List.getElem_cons_zero, List.getElem_cons_succ, List.setIfInBounds_toArray, List.set_cons_zero, List.set_cons_succ])
          simp only [List.cons_append, List.nil_append] at hS
          generalize X.heap.size = g7 at hS ⊢
          generalize X.alloc _ = X at hS hcur ⊢
          refine wpAnyH_ready (rs := [8]) (by decide +kernel) (by simp) ?_
          refine AllReadyH.cons rfl (fun K hK => ?_) AllReadyH.nil
          go_simp
          refine hK.out _ _ (below_of hcur (below_alloc _ _)) (fun hcur2 => ?_)
          clear hK K
          replace hS := Lib.hid (hS.out.alloc (.cells #[.int .i64 0, .int .i64 0, .string ⟨#[]⟩, .string ⟨#[]⟩, .int .u64 0, .int .i64 0, .int .i64 0, .int .i64 0, .int .i64 0, .int .i64 0, .bool false, .int .i64 0, .string ⟨#[]⟩, .int .u64 0, .slice none 0 0] 71))
          replace hcur : Below W.heap.size W _ := hcur2
          clear hcur2
          (try simp only [Act.put, List.getElem_toArray, List.getElem_cons_zero, List.getElem_cons_succ, List.setIfInBounds_toArray, List.set_cons_zero, List.set_cons_succ])
          simp only [List.cons_append, List.nil_append] at hS
          generalize X.heap.size = g6 at hS ⊢
          generalize X.alloc _ = X at hS hcur ⊢
          refine wpAnyH_ready (rs := [10]) (by decide +kernel) (by simp) ?_
          refine AllReadyH.cons rfl (fun K hK => ?_) AllReadyH.nil
          have hh := (hS.out.has 1 _ _ rfl).1
          obtain ⟨y0, y1, y2, y3, y4, y5, y6, y7, y8, y9, y10, y11, y12, y13, y14⟩ := call15 hh
          have f0 := heap_frozen hh 0
          have f1 := heap_frozen hh 1
          have f2 := heap_frozen hh 2
          have f3 := heap_frozen hh 3
          have f4 := heap_frozen hh 4
          have f5 := heap_frozen hh 5
          have f6 := heap_frozen hh 6
          have f7 := heap_frozen hh 7
          have f8 := heap_frozen hh 8
          have f9 := heap_frozen hh 9
          have f10 := heap_frozen hh 10
          have f11 := heap_frozen hh 11
          have f12 := heap_frozen hh 12
          have f13 := heap_frozen hh 13
          have f14 := heap_frozen hh 14
          clear hh
          go_simp
          replace hS := Lib.hid (((((((((((((((hS.out.setc 1 rfl 0 (.int .i64 thread)).setc 1 rfl 1 (.int .i64 kind)).setc 1 rfl 2 (.string key)).setc 1 rfl 3 (.string oupto)).setc 1 rfl 4 (.int .u64 (val : Int))).setc 1 rfl 5 (.int .i64 limit)).setc 1 rfl 6 (.int .i64 since)).setc 1 rfl 7 (.int .i64 done)).setc 1 rfl 8 (.int .i64 upto)).setc 1 rfl 9 (.int .i64 steps)).setc 1 rfl 10 (.bool short)).setc 1 rfl 11 (.int .i64 code)).setc 1 rfl 12 (.string akey)).setc 1 rfl 13 (.int .u64 (aval : Int))).setc 1 rfl 14 (.slice pa pairs.length pc))
          clear y0 y1 y2 y3 y4 y5 y6 y7 y8 y9 y10 y11 y12 y13 y14 f0 f1 f2 f3 f4 f5 f6 f7 f8 f9 f10 f11 f12 f13 f14
          simp only [List.set_cons_zero, List.set_cons_succ] at hS
          refine hK.out _ _ hS.out.below (fun _ => ?_)
          clear hK K
          replace hcur := hS.out.below
          (try simp only [Act.put, List.getElem_toArray, List.getElem_cons_zero, List.getElem_cons_succ, List.setIfInBounds_toArray, List.set_cons_zero, List.set_cons_succ])
          generalize World.setCell _ _ _ = X at hS hcur ⊢
          refine wpAnyH_ready (rs := [11]) (by decide +kernel) (by simp) ?_
          refine AllReadyH.cons rfl (fun K hK => ?_) AllReadyH.nil
          have hh := (hS.out.has 0 _ _ rfl).1
          obtain ⟨y0, y1, y2, y3, y4, y5, y6, y7, y8, y9, y10, y11, y12, y13, y14⟩ := call15 hh
          have f0 := heap_frozen hh 0
          have f1 := heap_frozen hh 1
          have f2 := heap_frozen hh 2
          have f3 := heap_frozen hh 3
          have f4 := heap_frozen hh 4
          have f5 := heap_frozen hh 5
          have f6 := heap_frozen hh 6
          have f7 := heap_frozen hh 7
          have f8 := heap_frozen hh 8
          have f9 := heap_frozen hh 9
          have f10 := heap_frozen hh 10
          have f11 := heap_frozen hh 11
          have f12 := heap_frozen hh 12
          have f13 := heap_frozen hh 13
          have f14 := heap_frozen hh 14
          clear hh
          go_simp
          replace hS := Lib.hid (((((((((((((((hS.out.setc 0 rfl 0 (.int .i64 thread)).setc 0 rfl 1 (.int .i64 kind)).setc 0 rfl 2 (.string key)).setc 0 rfl 3 (.string oupto)).setc 0 rfl 4 (.int .u64 (val : Int))).setc 0 rfl 5 (.int .i64 limit)).setc 0 rfl 6 (.int .i64 since)).setc 0 rfl 7 (.int .i64 done)).setc 0 rfl 8 (.int .i64 upto)).setc 0 rfl 9 (.int .i64 steps)).setc 0 rfl 10 (.bool short)).setc 0 rfl 11 (.int .i64 code)).setc 0 rfl 12 (.string akey)).setc 0 rfl 13 (.int .u64 (aval : Int))).setc 0 rfl 14 (.slice pb pairs.length pd))
          clear y0 y1 y2 y3 y4 y5 y6 y7 y8 y9 y10 y11 y12 y13 y14 f0 f1 f2 f3 f4 f5 f6 f7 f8 f9 f10 f11 f12 f13 f14
          simp only [List.set_cons_zero, List.set_cons_succ] at hS
          refine hK.out _ _ hS.out.below (fun _ => ?_)
          clear hK K
          replace hcur := hS.out.below
          (try simp only [Act.put, List.getElem_toArray, List.getElem_cons_zero, List.getElem_cons_succ, List.setIfInBounds_toArray, List.set_cons_zero, List.set_cons_succ])
          generalize World.setCell _ _ _ = X at hS hcur ⊢
          refine wpAnyH_done (by decide +kernel) ?_ _
          clear hcur
          have HF := Lib.hid (hS.out.pick2 1 0 rfl rfl (by omega))
          clear hS
          go_wp2_with fail
          go_meet
          exact ⟨g6, g7, rfl, rfl, HF⟩
      case rest =>
        obtain ⟨g6, g7, rfl, rfl, hS⟩ := hcut
        clear HCX HCY HBL
        obtain ⟨x0, x1, x2, x3, x4, x5, x6, x7, x8, x9, x10, x11, x12, x13, x14⟩ := call15 (hS.out.has 0 _ _ rfl).1
        obtain ⟨y0, y1, y2, y3, y4, y5, y6, y7, y8, y9, y10, y11, y12, y13, y14⟩ := call15 (hS.out.has 1 _ _ rfl).1
        go_wp2_with fail
        refine (HP.out _ (below_of HO.out hS.out.below)).mono ?_
        rintro e wn ⟨rfl, hbn⟩
        clear x0 x1 x2 x3 x4 x5 x6 x7 x8 x9 x10 x11 x12 x13 x14 y0 y1 y2 y3 y4 y5 y6 y7 y8 y9 y10 y11 y12 y13 y14
        have HB3 := Lib.hid (below_of (below_of HO.out hS.out.below) hbn)
        clear hbn hS
        go_wp2_with fail
        go_roundw
        case rel => exact ⟨j + 1, by go_num, by omega, HB3.out⟩
        case measure => simp [intOf]; omega
    · have HF := Lib.hid H.out
      clear H
      go_wp2_with fail
      go_ret
      exact ⟨rfl, HF.out.2⟩

end Go.Proofs.Ythbafbgnclpbpaa

namespace Go.Proofs.Ythbafbgnclpbpaa
open Go.RowKit

def spanC (a b : Int) : CallD := ⟨0, ⟨0, ⟨#[]⟩, ⟨#[]⟩, 0, 0⟩, a, a, b, 0, false, ⟨0, ⟨#[]⟩, 0, []⟩, none, 0⟩
set_option maxRecDepth 100000 in
set_option maxHeartbeats 4000000 in
theorem span_any (a b : Int) (w : World) : Calls Try.prog 89 #[.int .i64 a, .int .i64 b] w (Ret (.agg (callCells (spanC a b))) w) := by
  have hS := Lib.hid ((Sx.start0 w).alloc (.cells (callCells callZ) 71))
  simp only [List.nil_append, callCells, callZ, List.length_nil] at hS
  simp only [callCells, spanC, List.length_nil]
  go_enter Try.func89, Try.ntmps89
  go_upto_region 1 with fail
  generalize w.alloc _ = W at hS ⊢
  have hh := (hS.out.has 0 _ _ rfl).1
  obtain ⟨y0, y1, y2, y3, y4, y5, y6, y7, y8, y9, y10, y11, y12, y13, y14⟩ := call15 hh
  have f0 := heap_frozen hh 0
  have f1 := heap_frozen hh 1
  have f2 := heap_frozen hh 2
  have f3 := heap_frozen hh 3
  have f4 := heap_frozen hh 4
  have f5 := heap_frozen hh 5
  have f6 := heap_frozen hh 6
  have f7 := heap_frozen hh 7
  have f8 := heap_frozen hh 8
  have f9 := heap_frozen hh 9
  have f10 := heap_frozen hh 10
  have f11 := heap_frozen hh 11
  have f12 := heap_frozen hh 12
  have f13 := heap_frozen hh 13
  have f14 := heap_frozen hh 14
  clear hh
  have HZ := Lib.hid (((((((((((((((hS.out.setc 0 rfl 0 (.int .i64 0)).setc 0 rfl 1 (.int .i64 0)).setc 0 rfl 2 (.string ⟨#[]⟩)).setc 0 rfl 3 (.string ⟨#[]⟩)).setc 0 rfl 4 (.int .u64 0)).setc 0 rfl 5 (.int .i64 0)).setc 0 rfl 6 (.int .i64 a)).setc 0 rfl 7 (.int .i64 a)).setc 0 rfl 8 (.int .i64 b)).setc 0 rfl 9 (.int .i64 0)).setc 0 rfl 10 (.bool false)).setc 0 rfl 11 (.int .i64 0)).setc 0 rfl 12 (.string ⟨#[]⟩)).setc 0 rfl 13 (.int .u64 0)).setc 0 rfl 14 (.slice none 0 0)).below
  go_wp2_with fail
  exact bodyPost_ret (v := .agg #[.int .i64 0, .int .i64 0, .string ⟨#[]⟩, .string ⟨#[]⟩, .int .u64 0, .int .i64 0, .int .i64 a, .int .i64 a, .int .i64 b, .int .i64 0, .bool false, .int .i64 0, .string ⟨#[]⟩, .int .u64 0, .slice none 0 0]) (by simp [results, Try.results89, go_sem, *]) rfl ⟨rfl, HZ.out⟩

theorem cls_nil (w : World) (A : Option Addr) : Cls w A 0 [] := ⟨rfl, fun x hx => absurd hx (by simp), fun h => absurd h (Nat.lt_irrefl 0)⟩
theorem ccheck_nil (w : World) : Calls Try.prog 54 #[.slice none 0 0] w (Ret (.int .i64 0) w) := ccheck_any none 0 [] w (cls_nil w none) (fun x hx => absurd hx (by simp)) (by decide)
theorem flat_zero : [] ++ List.flatMap dig [0] = [0] := by decide +kernel
theorem text_zero : bstr [0] = ⟨#[0]⟩ := by decide +kernel

set_option maxRecDepth 100000 in
set_option maxHeartbeats 4000000 in
theorem cwrite_nil (w : World) : Calls Try.prog 65 #[.slice none 0 0] w (Made [0] w) := by
  go_enter Try.func65, Try.ntmps65
  go_wp2_with fail
  refine (ccheck_nil _).mono ?_
  rintro e w0 ⟨rfl, hb0⟩
  have hp0 := pen_new w0
  have hb1 := below_alloc w0 (.cells #[.slice none 0 0] 40)
  have H0 := Lib.hid (And.intro hp0 (And.intro (below_of hb0 hb1) (And.intro hb0.size hb1.size)))
  clear hp0 hb1 hb0
  go_upto_region 4 with fail
  generalize w0.alloc (.cells #[.slice none 0 0] 40) = w1 at H0 ⊢
  generalize w0.heap.size = g at H0 ⊢
  go_wp2_with fail
  refine (pennum_any g none [] [0] w1.heap.size 1 _ (H0.out.1.below (below_alloc _ _)) (by simp) (told_new H0.out.1 (u64n [0]) _) (by simp)).mono ?_
  rintro e w2 ⟨rfl, r2, hrel⟩
  have K := PenRel.keeps (below_of H0.out.2.1 (below_alloc w1 _)) hrel (Nat.le_trans H0.out.2.2.1 (Nat.le_trans H0.out.2.2.2 (below_alloc w1 _).size)) H0.out.2.2.1 (by simp)
  rw [flat_zero] at hrel
  have H2 := Lib.hid (And.intro hrel.1 K.1)
  clear hrel K H0
  go_wp2_with fail
  go_loopw [17] (fun i wr => i = .int .i64 0 ∧ Hid (wr = w2)) (fun _ _ => 0)
  case atStart => exact ⟨rfl, rfl⟩
  case round =>
    obtain ⟨rfl, hw⟩ := hrel
    obtain rfl := hw.out
    go_wp2_with fail
    refine (penbytes_any _ r2 _ _ H2.out.1 (by decide)).mono ?_
    rintro e w6 ⟨A, c, rfl, ho, hb6⟩
    have H6 := Lib.hid (And.intro ho (below_of H2.out.2 hb6))
    have HZ := Lib.hid H2.out.2.size
    clear ho hb6 H2
    go_wp2_with fail
    go_ret
    exact ⟨A, c, rfl, own_less H6.out.1 HZ.out, H6.out.2⟩

set_option maxRecDepth 100000 in
set_option maxHeartbeats 4000000 in
theorem lives39_any (w : World) : Calls Try.prog 53 #[] w (Ret (.bool true) w) := by
  have HS := Lib.hid span_any
  have HB := Lib.hid before_any
  simp only [callCells] at HS
  go_enter Try.func53, Try.ntmps53
  go_wp2_with fail
  refine (span_any 2 5 _).mono ?_
  rintro e w1 ⟨rfl, b1⟩
  go_wp2_with fail
  refine (span_any 5 7 _).mono ?_
  rintro e w2 ⟨rfl, b2⟩
  go_wp2_with fail
  refine (Calls.as_ (before_any (spanC 2 5) (spanC 5 7) _) (show Value.bool (beforeB (spanC 2 5) (spanC 5 7)) = .bool false from rfl)).mono ?_
  rintro e w3 ⟨rfl, b3⟩
  go_wp2_with fail
  refine (span_any 2 5 _).mono ?_
  rintro e w4 ⟨rfl, b4⟩
  go_wp2_with fail
  refine (span_any 6 7 _).mono ?_
  rintro e w5 ⟨rfl, b5⟩
  go_wp2_with fail
  refine (Calls.as_ (before_any (spanC 2 5) (spanC 6 7) _) (show Value.bool (beforeB (spanC 2 5) (spanC 6 7)) = .bool true from rfl)).mono ?_
  rintro e w6 ⟨rfl, b6⟩
  go_wp2_with fail
  refine (ccheck_nil _).mono ?_
  rintro e w7 ⟨rfl, b7⟩
  go_wp2_with fail
  refine (cwrite_nil _).mono ?_
  rintro e w8 ⟨A, c, rfl, ho, b8⟩
  have hcv : (convert 38 9 (.slice A 1 c)).run Try.prog w8 = .ok (.string ⟨#[0]⟩) w8 := (made_conv ho).trans (by rw [text_zero])
  have H8 := Lib.hid (below_of (below_of (below_of (below_of (below_of (below_of (below_of b1 b2) b3) b4) b5) b6) b7) b8)
  clear ho b1 b2 b3 b4 b5 b6 b7 b8
  go_wp2_with fail
  go_ret
  exact ⟨rfl, H8.out⟩

end Go.Proofs.Ythbafbgnclpbpaa

namespace Go.Proofs.Ythbafbgnclpbpaa
open Go.RowKit

theorem exec_call {w : World} {g : Nat} {x : CallD} (h : CallAt w g 0 x) {ev : Operand → Value} {t : Operand} {o : Oper} (ho : o.op = .load 71 t) (hv : ev t = .pointer (some ⟨g, 0, none⟩)) :
    (execOp ev o).run Try.prog w = .ok (.value (.agg (callCells x))) w := by
  obtain ⟨x0, x1, x2, x3, x4, x5, x6, x7, x8, x9, x10, x11, x12, x13, x14⟩ := h
  simp only [Nat.zero_add] at x0 x1 x2 x3 x4 x5 x6 x7 x8 x9 x10 x11 x12 x13 x14
  unfold execOp
  rw [ho]
  simp only [hv]
  go_simp
  rfl

end Go.Proofs.Ythbafbgnclpbpaa
