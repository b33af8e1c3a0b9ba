/- Contracts: node.Clone. -/
import Derived.Test.YtcoiadncennhpaaRefSame
import Derived.Test.YtcoiadncennhpaaOff
namespace Go.Proofs.Ytcoiadncennhpaa
open Go.RowKit

/-- 'copy' run in any world, and what it turns: one row alone. -/
theorem run_copy_off {P : Program} {w : World} (dT sT T0 elem : TypeId) (hu : P.underlying dT = some (.slice elem)) (hsz : (P.info? elem).map (·.size) = some 1)
    (sp : Option Addr) (sCap : Nat) (g n : Nat) (cur : List Value) (t : TypeId) (hg : w.heap[g]? = some (.cells cur.toArray t (0, 0))) (cs : List Value) (hn : cs.length = n) (hc : cur.length = n)
    (hsrc : 0 < cs.length → ∃ ad, sp = some ad ∧ ∀ (j : Nat) (v : Value), cs[j]? = some v → w.cell? (ad.add j) = some v) (h1 : ∀ v ∈ cs, v.oneCell' = true) :
    ∃ w', (Builtin.copy_ #[dT, sT] T0 #[.slice (some ⟨g, 0, none⟩) n n, .slice sp n sCap]).run P w = .ok (.int .i64 n) w' ∧ w'.heap[g]? = some (.cells cs.toArray t (0, 0)) ∧ Off (fun k => k = g) w w' := by
  subst hn
  by_cases h0 : cs.length = 0
  · obtain rfl : cs = [] := List.eq_nil_of_length_eq_zero h0
    obtain rfl : cur = [] := List.eq_nil_of_length_eq_zero (by simpa using hc)
    exact ⟨w, run_copy_none (P := P) w dT sT T0 elem (some ⟨g, 0, none⟩) sp 0 0 0 sCap hu hsz rfl, hg, Off.refl _ _⟩
  · obtain ⟨ad, rfl, hs⟩ := hsrc (by omega)
    have hr := run_copy_row (P := P) w dT sT T0 elem g 0 cs.length cs.length ad cs.length sCap cur.toArray t cs hu hsz hg (by simp) hs (by simp; omega) h1
    refine ⟨_, hr, ?_, ⟨rfl, rfl, rfl, by simp, fun k _ hk => setRow_other w g k _ hk⟩⟩
    have hh := setRow_heap w g cur.toArray (cur.toArray.toList.take 0 ++ cs ++ cur.toArray.toList.drop (0 + cs.length)).toArray t (0, 0) hg
    simp [show cur.drop cs.length = [] from List.drop_eq_nil_of_le (by omega)] at hh ⊢
    exact hh

/-- A copy of which the run is known, as a law for the walk. -/
theorem wpList_copyrun {P : Program} {w w' : World} {ops : Array Oper} {rest : List Oper} {o : Oper} {a : Act} {Q : Exit → Act → World → Prop} (hgd : o.guard = none) (s x : Operand) (t : TypeId)
    (ho : o.op = .call { callee := .builtin .copy, args := #[s, x], argTypes := #[t, t] }) {sv xv v' : Value} (hs : a.eval s = sv) (hx : a.eval x = xv)
    (hrun : (Builtin.copy_ #[t, t] o.type #[sv, xv]).run P w = .ok v' w') (h : wpList P ops Q rest (a.put o.dst v') w') : wpList P ops Q (o :: rest) a w := by
  refine wpList_plain hgd fun K hK => ?_
  unfold Oper.wp execOp
  simp only [ho, resolve, invoke, builtin, Sem.run_bind, Sem.run_pure, Result.andThen_ok, List.map_toArray, List.map_cons, List.map_nil, hs, hx, hrun]
  exact hK _ _ h

theorem Off.set {S : Nat → Prop} {a b : World} (h : Off S a b) {p : Addr} (hp : S p.block) (u : Value) : Off S a (b.setCell p u) :=
  h.trans (Off.of_setCell b p u) (fun j _ e => by rw [e]; exact hp)

/-- A clone of a node. -/
def CloneTo (w : World) (d : Nd) (e : Ending) (w' : World) : Prop :=
  ∃ g1 g2 g3, e = .returned (.agg (ndCells d (some ⟨g1, 0, none⟩) (some ⟨g2, 0, none⟩) (some ⟨g3, 0, none⟩) d.keys.length d.vals.length d.kids.length)) ∧
    w'.heap[g1]? = some (.cells (strs d.keys).toArray 9 (0, 0)) ∧ w'.heap[g2]? = some (.cells (u64s d.vals).toArray 35 (0, 0)) ∧ w'.heap[g3]? = some (.cells (i64s d.kids).toArray 3 (0, 0)) ∧
    g1 ≠ g2 ∧ g1 ≠ g3 ∧ g2 ≠ g3 ∧ w.heap.size ≤ g1 ∧ w.heap.size ≤ g2 ∧ w.heap.size ≤ g3 ∧ Below w.heap.size w w'

theorem alloc3 (W : World) (a b c : Obj) : (((W.alloc a).alloc b).alloc c).drew.heap[W.heap.size]? = some a ∧ (((W.alloc a).alloc b).alloc c).drew.heap[W.heap.size + 1]? = some b ∧ (((W.alloc a).alloc b).alloc c).drew.heap[W.heap.size + 1 + 1]? = some c := by
  have s1 : (W.alloc a).heap.size = W.heap.size + 1 := by simp
  have s2 : ((W.alloc a).alloc b).heap.size = W.heap.size + 1 + 1 := by simp
  refine ⟨?_, ?_, ?_⟩
  · exact (heap_alloc_old _ c (by omega)).trans ((heap_alloc_old _ b (by omega)).trans (heap_alloc_new W a))
  · rw [← s1]
    exact (heap_alloc_old _ c (by rw [s2]; omega)).trans (heap_alloc_new _ b)
  · rw [← s2]
    exact heap_alloc_new _ c

theorem clone_end {w W w1 w2 w3 wF : World} {d : Nd} {g1 g2 g3 : Nat} (HB : Below w.heap.size w W) (hsz : w.heap.size + 1 < W.heap.size) (b3 : Below W.heap.size W w3)
    (q1 : w1.heap[g1]? = some (.cells (strs d.keys).toArray 9 (0, 0))) (q2 : w2.heap[g2]? = some (.cells (u64s d.vals).toArray 35 (0, 0))) (q3 : w3.heap[g3]? = some (.cells (i64s d.kids).toArray 3 (0, 0)))
    (o2 : Off (fun k => k = g2) w1 w2) (o3 : Off (fun k => k = g3) w2 w3) (n12 : g1 ≠ g2) (n13 : g1 ≠ g3) (n23 : g2 ≠ g3) (m1 : W.heap.size ≤ g1) (m2 : W.heap.size ≤ g2) (m3 : W.heap.size ≤ g3)
    (hF : Off (fun k => k = w.heap.size ∨ k = w.heap.size + 1) w3 wF) :
    CloneTo w d (.returned (.agg (ndCells d (some ⟨g1, 0, none⟩) (some ⟨g2, 0, none⟩) (some ⟨g3, 0, none⟩) d.keys.length d.vals.length d.kids.length))) wF := by
  have l1 := (Array.getElem?_eq_some_iff.1 q1).1
  have l2 := (Array.getElem?_eq_some_iff.1 q2).1
  have l3 := (Array.getElem?_eq_some_iff.1 q3).1
  have p1 := (o3.block g1 (Nat.lt_of_lt_of_le l1 o2.size) n13).trans ((o2.block g1 l1 n12).trans q1)
  have p2 := (o3.block g2 l2 n23).trans q2
  have f1 := hF.block g1 (Array.getElem?_eq_some_iff.1 p1).1 (by omega)
  have f2 := hF.block g2 (Array.getElem?_eq_some_iff.1 p2).1 (by omega)
  have f3 := hF.block g3 l3 (by omega)
  have b4 := HB.trans (b3.mono (Nat.le_of_lt (Nat.lt_of_succ_lt hsz)))
  exact ⟨g1, g2, g3, rfl, f1.trans p1, f2.trans p2, f3.trans q3, n12, n13, n23, by omega, by omega, by omega, hF.below b4 b4.size (fun j hj e => by omega)⟩

/-- Three rows that were just made. -/
def Rows3 (w w' : World) (g1 g2 g3 : Nat) (X Y Z : List Value) : Prop :=
  w'.heap[g1]? = some (.cells X.toArray 9 (0, 0)) ∧ w'.heap[g2]? = some (.cells Y.toArray 35 (0, 0)) ∧ w'.heap[g3]? = some (.cells Z.toArray 3 (0, 0)) ∧
    g1 ≠ g2 ∧ g1 ≠ g3 ∧ g2 ≠ g3 ∧ w.heap.size ≤ g1 ∧ w.heap.size ≤ g2 ∧ w.heap.size ≤ g3 ∧ Below w.heap.size w w'

set_option maxRecDepth 100000 in
set_option maxHeartbeats 4000000 in
theorem cloneN_any (d : Nd) (A B C : Option Addr) (ca cb cc : Nat) (w : World) (h : Lies w d A B C ca cb cc) (hk : d.keys.length ≤ 1000) (hv : d.vals.length ≤ 1000) (hi : d.kids.length ≤ 1000) :
    Calls Try.prog 21 #[.agg (ndCells d A B C ca cb cc)] w (CloneTo w d) := by
  have hbx := (Boxed.new w d A B C ca cb cc 26).up (below_alloc _ (.cells #[.int .i64 0, .string ⟨#[]⟩, .string ⟨#[]⟩, .bool false, .int .i64 0, .slice none 0 0, .slice none 0 0, .slice none 0 0] 26)) (by simp)
  have hrs : ((w.alloc (.cells (ndCells d A B C ca cb cc) 26)).alloc (.cells #[.int .i64 0, .string ⟨#[]⟩, .string ⟨#[]⟩, .bool false, .int .i64 0, .slice none 0 0, .slice none 0 0, .slice none 0 0] 26)).heap[w.heap.size + 1]? = some (.cells #[.int .i64 0, .string ⟨#[]⟩, .string ⟨#[]⟩, .bool false, .int .i64 0, .slice none 0 0, .slice none 0 0, .slice none 0 0] 26 (0, 0)) := by
    have e : (w.alloc (.cells (ndCells d A B C ca cb cc) 26)).heap.size = w.heap.size + 1 := by simp
    rw [← e]
    exact heap_alloc_new _ _
  have HB := below_of (below_alloc w (.cells (ndCells d A B C ca cb cc) 26)) (below_alloc _ (.cells #[.int .i64 0, .string ⟨#[]⟩, .string ⟨#[]⟩, .bool false, .int .i64 0, .slice none 0 0, .slice none 0 0, .slice none 0 0] 26))
  have hsz : w.heap.size + 1 < ((w.alloc (.cells (ndCells d A B C ca cb cc) 26)).alloc (.cells #[.int .i64 0, .string ⟨#[]⟩, .string ⟨#[]⟩, .bool false, .int .i64 0, .slice none 0 0, .slice none 0 0, .slice none 0 0] 26)).heap.size := by simp
  have hfz : ∀ i, ((w.alloc (.cells (ndCells d A B C ca cb cc) 26)).alloc (.cells #[.int .i64 0, .string ⟨#[]⟩, .string ⟨#[]⟩, .bool false, .int .i64 0, .slice none 0 0, .slice none 0 0, .slice none 0 0] 26)).frozen? ⟨w.heap.size, i, none⟩ = false := by
    intro i
    rw [(below_alloc _ _).frozen (p := ⟨w.heap.size, i, none⟩) (by simp)]
    exact heap_frozen (heap_alloc_new w _) i
  replace h := h.up HB
  obtain ⟨level, low, high, last, next, keys, vals, kids⟩ := d
  simp only [ndCells] at hbx hrs HB hsz h hk hv hi hfz ⊢
  go_enter Try.func21, Try.ntmps21
  go_upto_region 1 with fail
  generalize (w.alloc _).alloc _ = W at hbx hrs HB hsz h hfz ⊢
  have hm1 := joinS_make keys.length (by omega)
  have hm2 := joinU_make vals.length (by omega)
  have hm3 := joinI_make kids.length (by omega)
  go_cut [3, 4, 5] (fun s3 s4 s5 wx => ∃ g1 g2 g3, s3 = .slice (some ⟨g1, 0, none⟩) keys.length keys.length ∧ s4 = .slice (some ⟨g2, 0, none⟩) vals.length vals.length ∧ s5 = .slice (some ⟨g3, 0, none⟩) kids.length kids.length ∧ Rows3 W wx g1 g2 g3 (zrow keys.length (.string ByteArray.empty)) (zrow vals.length (.int .u64 0)) (zrow kids.length (.int .i64 0)))
  case first =>
    have HH := Lib.hid (And.intro HB h)
    clear HB h hrs hfz
    refine wp_region_held_drew (S := fun w' => Below W.heap.size W w') (by kernel_rfl) (Below.drew (Below.refl _ _)) (fun hcur => ?_)
    replace hcur : Below W.heap.size W W.drew := hcur
    refine wpAnyH_take (i := 0) (v := ?_) rfl (by decide +kernel) (by decide +kernel) (by decide +kernel) (fun _ _ _ h => h) (Or.inl ⟨by rfl, ?hy⟩) hcur ?_
    case hy =>
      intro w1 hSw
      replace hSw : Below W.heap.size W w1 := hSw
      obtain ⟨x0, x1, x2, x3, x4, x5, x6, x7⟩ := hbx.up hSw (by omega)
      simp only [] at x0 x1 x2 x3 x4 x5 x6 x7
      go_simp
      (try with_reducible rfl)
    (try simp only [Act.put, List.getElem_toArray, List.getElem_cons_zero, List.getElem_cons_succ, List.setIfInBounds_toArray, List.set_cons_zero, List.set_cons_succ])
    refine wpAnyH_take (i := 1) (v := ?_) rfl (by decide +kernel) (by decide +kernel) (by decide +kernel) (fun _ _ _ h => h) (Or.inl ⟨by rfl, ?hy⟩) hcur ?_
    case hy =>
      intro w1 hSw
      replace hSw : Below W.heap.size W w1 := hSw
      obtain ⟨x0, x1, x2, x3, x4, x5, x6, x7⟩ := hbx.up hSw (by omega)
      simp only [] at x0 x1 x2 x3 x4 x5 x6 x7
      go_simp
      (try with_reducible rfl)
    (try simp only [Act.put, List.getElem_toArray, List.getElem_cons_zero, List.getElem_cons_succ, List.setIfInBounds_toArray, List.set_cons_zero, List.set_cons_succ])
    refine wpAnyH_take (i := 2) (v := ?_) rfl (by decide +kernel) (by decide +kernel) (by decide +kernel) (fun _ _ _ h => h) (Or.inl ⟨by rfl, ?hy⟩) hcur ?_
    case hy =>
      intro w1 hSw
      replace hSw : Below W.heap.size W w1 := hSw
      obtain ⟨x0, x1, x2, x3, x4, x5, x6, x7⟩ := hbx.up hSw (by omega)
      simp only [] at x0 x1 x2 x3 x4 x5 x6 x7
      go_simp
      (try with_reducible rfl)
    (try simp only [Act.put, List.getElem_toArray, List.getElem_cons_zero, List.getElem_cons_succ, List.setIfInBounds_toArray, List.set_cons_zero, List.set_cons_succ])
    refine wpAnyH_take (i := 4) (v := ?_) rfl (by decide +kernel) (by decide +kernel) (by decide +kernel) (fun _ _ _ h => h) (Or.inl ⟨by rfl, ?hy⟩) hcur ?_
    case hy =>
      intro w1 hSw
      replace hSw : Below W.heap.size W w1 := hSw
      obtain ⟨x0, x1, x2, x3, x4, x5, x6, x7⟩ := hbx.up hSw (by omega)
      simp only [] at x0 x1 x2 x3 x4 x5 x6 x7
      go_simp
      (try with_reducible rfl)
    (try simp only [Act.put, List.getElem_toArray, List.getElem_cons_zero, List.getElem_cons_succ, List.setIfInBounds_toArray, List.set_cons_zero, List.set_cons_succ])
    refine wpAnyH_take (i := 5) (v := ?_) rfl (by decide +kernel) (by decide +kernel) (by decide +kernel) (fun _ _ _ h => h) (Or.inl ⟨by rfl, ?hy⟩) hcur ?_
    case hy =>
      intro w1 hSw
      replace hSw : Below W.heap.size W w1 := hSw
      obtain ⟨x0, x1, x2, x3, x4, x5, x6, x7⟩ := hbx.up hSw (by omega)
      simp only [] at x0 x1 x2 x3 x4 x5 x6 x7
      go_simp
      (try with_reducible rfl)
    (try simp only [Act.put, List.getElem_toArray, List.getElem_cons_zero, List.getElem_cons_succ, List.setIfInBounds_toArray, List.set_cons_zero, List.set_cons_succ])
    refine wpAnyH_take (i := 6) (v := ?_) rfl (by decide +kernel) (by decide +kernel) (by decide +kernel) (fun _ _ _ h => h) (Or.inl ⟨by rfl, ?hy⟩) hcur ?_
    case hy =>
      intro w1 hSw
      replace hSw : Below W.heap.size W w1 := hSw
      obtain ⟨x0, x1, x2, x3, x4, x5, x6, x7⟩ := hbx.up hSw (by omega)
      simp only [] at x0 x1 x2 x3 x4 x5 x6 x7
      go_simp
      (try with_reducible rfl)
    (try simp only [Act.put, List.getElem_toArray, List.getElem_cons_zero, List.getElem_cons_succ, List.setIfInBounds_toArray, List.set_cons_zero, List.set_cons_succ])
    refine wpAnyH_take (i := 8) (v := ?_) rfl (by decide +kernel) (by decide +kernel) (by decide +kernel) (fun _ _ _ h => h) (Or.inl ⟨by rfl, ?hy⟩) hcur ?_
    case hy =>
      intro w1 hSw
      replace hSw : Below W.heap.size W w1 := hSw
      obtain ⟨x0, x1, x2, x3, x4, x5, x6, x7⟩ := hbx.up hSw (by omega)
      simp only [] at x0 x1 x2 x3 x4 x5 x6 x7
      go_simp
      (try with_reducible rfl)
    (try simp only [Act.put, List.getElem_toArray, List.getElem_cons_zero, List.getElem_cons_succ, List.setIfInBounds_toArray, List.set_cons_zero, List.set_cons_succ])
    refine wpAnyH_take (i := 9) (v := ?_) rfl (by decide +kernel) (by decide +kernel) (by decide +kernel) (fun _ _ _ h => h) (Or.inl ⟨by rfl, ?hy⟩) hcur ?_
    case hy =>
      intro w1 hSw
      replace hSw : Below W.heap.size W w1 := hSw
      obtain ⟨x0, x1, x2, x3, x4, x5, x6, x7⟩ := hbx.up hSw (by omega)
      simp only [] at x0 x1 x2 x3 x4 x5 x6 x7
      go_simp
      (try with_reducible rfl)
    (try simp only [Act.put, List.getElem_toArray, List.getElem_cons_zero, List.getElem_cons_succ, List.setIfInBounds_toArray, List.set_cons_zero, List.set_cons_succ])
    refine wpAnyH_take (i := 10) (v := ?_) rfl (by decide +kernel) (by decide +kernel) (by decide +kernel) (fun _ _ _ h => h) (Or.inl ⟨by rfl, ?hy⟩) hcur ?_
    case hy =>
      intro w1 hSw
      replace hSw : Below W.heap.size W w1 := hSw
      obtain ⟨x0, x1, x2, x3, x4, x5, x6, x7⟩ := hbx.up hSw (by omega)
      simp only [] at x0 x1 x2 x3 x4 x5 x6 x7
      go_simp
      (try with_reducible rfl)
    (try simp only [Act.put, List.getElem_toArray, List.getElem_cons_zero, List.getElem_cons_succ, List.setIfInBounds_toArray, List.set_cons_zero, List.set_cons_succ])
    refine wpAnyH_ready (rs := [3, 7, 11]) (by decide +kernel) (by simp) ?_
    refine AllReadyH.cons rfl (fun K hK => ?_) (AllReadyH.cons rfl (fun K hK => ?_) (AllReadyH.cons rfl (fun K hK => ?_) AllReadyH.nil))
    · go_simp
      refine hK.out _ _ (below_of hcur (below_alloc _ _)) (fun hcur2 => ?_)
      clear hK K
      replace hcur : Below W.heap.size W _ := hcur2
      clear hcur2
      (try simp only [Act.put, List.getElem_toArray, List.getElem_cons_zero, List.getElem_cons_succ, List.setIfInBounds_toArray, List.set_cons_zero, List.set_cons_succ])
      refine wpAnyH_take (i := 12) (v := ?_) rfl (by decide +kernel) (by decide +kernel) (by decide +kernel) (fun _ _ _ h => h) (Or.inl ⟨by rfl, ?hy⟩) hcur ?_
      case hy =>
        intro w1 hSw
        replace hSw : Below W.heap.size W w1 := hSw
        obtain ⟨x0, x1, x2, x3, x4, x5, x6, x7⟩ := hbx.up hSw (by omega)
        simp only [] at x0 x1 x2 x3 x4 x5 x6 x7
        go_simp
        (try with_reducible rfl)
      (try simp only [Act.put, List.getElem_toArray, List.getElem_cons_zero, List.getElem_cons_succ, List.setIfInBounds_toArray, List.set_cons_zero, List.set_cons_succ])
      refine wpAnyH_ready (rs := [7, 11]) (by decide +kernel) (by simp) ?_
      refine AllReadyH.cons rfl (fun K hK => ?_) (AllReadyH.cons rfl (fun K hK => ?_) AllReadyH.nil)
      · go_simp
        refine hK.out _ _ (below_of hcur (below_alloc _ _)) (fun hcur2 => ?_)
        clear hK K
        replace hcur : Below W.heap.size W _ := hcur2
        clear hcur2
        (try simp only [Act.put, List.getElem_toArray, List.getElem_cons_zero, List.getElem_cons_succ, List.setIfInBounds_toArray, List.set_cons_zero, List.set_cons_succ])
        refine wpAnyH_take (i := 13) (v := ?_) rfl (by decide +kernel) (by decide +kernel) (by decide +kernel) (fun _ _ _ h => h) (Or.inl ⟨by rfl, ?hy⟩) hcur ?_
        case hy =>
          intro w1 hSw
          replace hSw : Below W.heap.size W w1 := hSw
          obtain ⟨x0, x1, x2, x3, x4, x5, x6, x7⟩ := hbx.up hSw (by omega)
          simp only [] at x0 x1 x2 x3 x4 x5 x6 x7
          go_simp
          (try with_reducible rfl)
        (try simp only [Act.put, List.getElem_toArray, List.getElem_cons_zero, List.getElem_cons_succ, List.setIfInBounds_toArray, List.set_cons_zero, List.set_cons_succ])
        refine wpAnyH_ready (rs := [11]) (by decide +kernel) (by simp) ?_
        refine AllReadyH.cons rfl (fun K hK => ?_) AllReadyH.nil
        · go_simp
          refine hK.out _ _ (below_of hcur (below_alloc _ _)) (fun hcur2 => ?_)
          clear hK K
          replace hcur : Below W.heap.size W _ := hcur2
          clear hcur2
          (try simp only [Act.put, List.getElem_toArray, List.getElem_cons_zero, List.getElem_cons_succ, List.setIfInBounds_toArray, List.set_cons_zero, List.set_cons_succ])
          refine wpAnyH_take (i := 14) (v := ?_) rfl (by decide +kernel) (by decide +kernel) (by decide +kernel) (fun _ _ _ h => h) (Or.inl ⟨by rfl, ?hy⟩) hcur ?_
          case hy =>
            intro w1 hSw
            replace hSw : Below W.heap.size W w1 := hSw
            obtain ⟨x0, x1, x2, x3, x4, x5, x6, x7⟩ := hbx.up hSw (by omega)
            simp only [] at x0 x1 x2 x3 x4 x5 x6 x7
            go_simp
            (try with_reducible rfl)
          (try simp only [Act.put, List.getElem_toArray, List.getElem_cons_zero, List.getElem_cons_succ, List.setIfInBounds_toArray, List.set_cons_zero, List.set_cons_succ])
          refine wpAnyH_done (by decide +kernel) ?_ _
          go_wp2_with fail
          go_meet
          refine ⟨_, _, _, rfl, rfl, rfl, ?_, ?_, ?_, by omega, by omega, by omega, by omega, by omega, by omega, hcur⟩
          · first | exact (alloc3 W _ _ _).1 | exact (alloc3 W _ _ _).2.1 | exact (alloc3 W _ _ _).2.2
          · first | exact (alloc3 W _ _ _).1 | exact (alloc3 W _ _ _).2.1 | exact (alloc3 W _ _ _).2.2
          · first | exact (alloc3 W _ _ _).1 | exact (alloc3 W _ _ _).2.1 | exact (alloc3 W _ _ _).2.2
      · go_simp
        refine hK.out _ _ (below_of hcur (below_alloc _ _)) (fun hcur2 => ?_)
        clear hK K
        replace hcur : Below W.heap.size W _ := hcur2
        clear hcur2
        (try simp only [Act.put, List.getElem_toArray, List.getElem_cons_zero, List.getElem_cons_succ, List.setIfInBounds_toArray, List.set_cons_zero, List.set_cons_succ])
        refine wpAnyH_ready (rs := [7]) (by decide +kernel) (by simp) ?_
        refine AllReadyH.cons rfl (fun K hK => ?_) AllReadyH.nil
        · go_simp
          refine hK.out _ _ (below_of hcur (below_alloc _ _)) (fun hcur2 => ?_)
          clear hK K
          replace hcur : Below W.heap.size W _ := hcur2
          clear hcur2
          (try simp only [Act.put, List.getElem_toArray, List.getElem_cons_zero, List.getElem_cons_succ, List.setIfInBounds_toArray, List.set_cons_zero, List.set_cons_succ])
          refine wpAnyH_take (i := 13) (v := ?_) rfl (by decide +kernel) (by decide +kernel) (by decide +kernel) (fun _ _ _ h => h) (Or.inl ⟨by rfl, ?hy⟩) hcur ?_
          case hy =>
            intro w1 hSw
            replace hSw : Below W.heap.size W w1 := hSw
            obtain ⟨x0, x1, x2, x3, x4, x5, x6, x7⟩ := hbx.up hSw (by omega)
            simp only [] at x0 x1 x2 x3 x4 x5 x6 x7
            go_simp
            (try with_reducible rfl)
          (try simp only [Act.put, List.getElem_toArray, List.getElem_cons_zero, List.getElem_cons_succ, List.setIfInBounds_toArray, List.set_cons_zero, List.set_cons_succ])
          refine wpAnyH_take (i := 14) (v := ?_) rfl (by decide +kernel) (by decide +kernel) (by decide +kernel) (fun _ _ _ h => h) (Or.inl ⟨by rfl, ?hy⟩) hcur ?_
          case hy =>
            intro w1 hSw
            replace hSw : Below W.heap.size W w1 := hSw
            obtain ⟨x0, x1, x2, x3, x4, x5, x6, x7⟩ := hbx.up hSw (by omega)
            simp only [] at x0 x1 x2 x3 x4 x5 x6 x7
            go_simp
            (try with_reducible rfl)
          (try simp only [Act.put, List.getElem_toArray, List.getElem_cons_zero, List.getElem_cons_succ, List.setIfInBounds_toArray, List.set_cons_zero, List.set_cons_succ])
          refine wpAnyH_done (by decide +kernel) ?_ _
          go_wp2_with fail
          go_meet
          refine ⟨_, _, _, rfl, rfl, rfl, ?_, ?_, ?_, by omega, by omega, by omega, by omega, by omega, by omega, hcur⟩
          · first | exact (alloc3 W _ _ _).1 | exact (alloc3 W _ _ _).2.1 | exact (alloc3 W _ _ _).2.2
          · first | exact (alloc3 W _ _ _).1 | exact (alloc3 W _ _ _).2.1 | exact (alloc3 W _ _ _).2.2
          · first | exact (alloc3 W _ _ _).1 | exact (alloc3 W _ _ _).2.1 | exact (alloc3 W _ _ _).2.2
    · go_simp
      refine hK.out _ _ (below_of hcur (below_alloc _ _)) (fun hcur2 => ?_)
      clear hK K
      replace hcur : Below W.heap.size W _ := hcur2
      clear hcur2
      (try simp only [Act.put, List.getElem_toArray, List.getElem_cons_zero, List.getElem_cons_succ, List.setIfInBounds_toArray, List.set_cons_zero, List.set_cons_succ])
      refine wpAnyH_ready (rs := [3, 11]) (by decide +kernel) (by simp) ?_
      refine AllReadyH.cons rfl (fun K hK => ?_) (AllReadyH.cons rfl (fun K hK => ?_) AllReadyH.nil)
      · go_simp
        refine hK.out _ _ (below_of hcur (below_alloc _ _)) (fun hcur2 => ?_)
        clear hK K
        replace hcur : Below W.heap.size W _ := hcur2
        clear hcur2
        (try simp only [Act.put, List.getElem_toArray, List.getElem_cons_zero, List.getElem_cons_succ, List.setIfInBounds_toArray, List.set_cons_zero, List.set_cons_succ])
        refine wpAnyH_take (i := 12) (v := ?_) rfl (by decide +kernel) (by decide +kernel) (by decide +kernel) (fun _ _ _ h => h) (Or.inl ⟨by rfl, ?hy⟩) hcur ?_
        case hy =>
          intro w1 hSw
          replace hSw : Below W.heap.size W w1 := hSw
          obtain ⟨x0, x1, x2, x3, x4, x5, x6, x7⟩ := hbx.up hSw (by omega)
          simp only [] at x0 x1 x2 x3 x4 x5 x6 x7
          go_simp
          (try with_reducible rfl)
        (try simp only [Act.put, List.getElem_toArray, List.getElem_cons_zero, List.getElem_cons_succ, List.setIfInBounds_toArray, List.set_cons_zero, List.set_cons_succ])
        refine wpAnyH_take (i := 13) (v := ?_) rfl (by decide +kernel) (by decide +kernel) (by decide +kernel) (fun _ _ _ h => h) (Or.inl ⟨by rfl, ?hy⟩) hcur ?_
        case hy =>
          intro w1 hSw
          replace hSw : Below W.heap.size W w1 := hSw
          obtain ⟨x0, x1, x2, x3, x4, x5, x6, x7⟩ := hbx.up hSw (by omega)
          simp only [] at x0 x1 x2 x3 x4 x5 x6 x7
          go_simp
          (try with_reducible rfl)
        (try simp only [Act.put, List.getElem_toArray, List.getElem_cons_zero, List.getElem_cons_succ, List.setIfInBounds_toArray, List.set_cons_zero, List.set_cons_succ])
        refine wpAnyH_ready (rs := [11]) (by decide +kernel) (by simp) ?_
        refine AllReadyH.cons rfl (fun K hK => ?_) AllReadyH.nil
        · go_simp
          refine hK.out _ _ (below_of hcur (below_alloc _ _)) (fun hcur2 => ?_)
          clear hK K
          replace hcur : Below W.heap.size W _ := hcur2
          clear hcur2
          (try simp only [Act.put, List.getElem_toArray, List.getElem_cons_zero, List.getElem_cons_succ, List.setIfInBounds_toArray, List.set_cons_zero, List.set_cons_succ])
          refine wpAnyH_take (i := 14) (v := ?_) rfl (by decide +kernel) (by decide +kernel) (by decide +kernel) (fun _ _ _ h => h) (Or.inl ⟨by rfl, ?hy⟩) hcur ?_
          case hy =>
            intro w1 hSw
            replace hSw : Below W.heap.size W w1 := hSw
            obtain ⟨x0, x1, x2, x3, x4, x5, x6, x7⟩ := hbx.up hSw (by omega)
            simp only [] at x0 x1 x2 x3 x4 x5 x6 x7
            go_simp
            (try with_reducible rfl)
          (try simp only [Act.put, List.getElem_toArray, List.getElem_cons_zero, List.getElem_cons_succ, List.setIfInBounds_toArray, List.set_cons_zero, List.set_cons_succ])
          refine wpAnyH_done (by decide +kernel) ?_ _
          go_wp2_with fail
          go_meet
          refine ⟨_, _, _, rfl, rfl, rfl, ?_, ?_, ?_, by omega, by omega, by omega, by omega, by omega, by omega, hcur⟩
          · first | exact (alloc3 W _ _ _).1 | exact (alloc3 W _ _ _).2.1 | exact (alloc3 W _ _ _).2.2
          · first | exact (alloc3 W _ _ _).1 | exact (alloc3 W _ _ _).2.1 | exact (alloc3 W _ _ _).2.2
          · first | exact (alloc3 W _ _ _).1 | exact (alloc3 W _ _ _).2.1 | exact (alloc3 W _ _ _).2.2
      · go_simp
        refine hK.out _ _ (below_of hcur (below_alloc _ _)) (fun hcur2 => ?_)
        clear hK K
        replace hcur : Below W.heap.size W _ := hcur2
        clear hcur2
        (try simp only [Act.put, List.getElem_toArray, List.getElem_cons_zero, List.getElem_cons_succ, List.setIfInBounds_toArray, List.set_cons_zero, List.set_cons_succ])
        refine wpAnyH_ready (rs := [3]) (by decide +kernel) (by simp) ?_
        refine AllReadyH.cons rfl (fun K hK => ?_) AllReadyH.nil
        · go_simp
          refine hK.out _ _ (below_of hcur (below_alloc _ _)) (fun hcur2 => ?_)
          clear hK K
          replace hcur : Below W.heap.size W _ := hcur2
          clear hcur2
          (try simp only [Act.put, List.getElem_toArray, List.getElem_cons_zero, List.getElem_cons_succ, List.setIfInBounds_toArray, List.set_cons_zero, List.set_cons_succ])
          refine wpAnyH_take (i := 12) (v := ?_) rfl (by decide +kernel) (by decide +kernel) (by decide +kernel) (fun _ _ _ h => h) (Or.inl ⟨by rfl, ?hy⟩) hcur ?_
          case hy =>
            intro w1 hSw
            replace hSw : Below W.heap.size W w1 := hSw
            obtain ⟨x0, x1, x2, x3, x4, x5, x6, x7⟩ := hbx.up hSw (by omega)
            simp only [] at x0 x1 x2 x3 x4 x5 x6 x7
            go_simp
            (try with_reducible rfl)
          (try simp only [Act.put, List.getElem_toArray, List.getElem_cons_zero, List.getElem_cons_succ, List.setIfInBounds_toArray, List.set_cons_zero, List.set_cons_succ])
          refine wpAnyH_take (i := 13) (v := ?_) rfl (by decide +kernel) (by decide +kernel) (by decide +kernel) (fun _ _ _ h => h) (Or.inl ⟨by rfl, ?hy⟩) hcur ?_
          case hy =>
            intro w1 hSw
            replace hSw : Below W.heap.size W w1 := hSw
            obtain ⟨x0, x1, x2, x3, x4, x5, x6, x7⟩ := hbx.up hSw (by omega)
            simp only [] at x0 x1 x2 x3 x4 x5 x6 x7
            go_simp
            (try with_reducible rfl)
          (try simp only [Act.put, List.getElem_toArray, List.getElem_cons_zero, List.getElem_cons_succ, List.setIfInBounds_toArray, List.set_cons_zero, List.set_cons_succ])
          refine wpAnyH_take (i := 14) (v := ?_) rfl (by decide +kernel) (by decide +kernel) (by decide +kernel) (fun _ _ _ h => h) (Or.inl ⟨by rfl, ?hy⟩) hcur ?_
          case hy =>
            intro w1 hSw
            replace hSw : Below W.heap.size W w1 := hSw
            obtain ⟨x0, x1, x2, x3, x4, x5, x6, x7⟩ := hbx.up hSw (by omega)
            simp only [] at x0 x1 x2 x3 x4 x5 x6 x7
            go_simp
            (try with_reducible rfl)
          (try simp only [Act.put, List.getElem_toArray, List.getElem_cons_zero, List.getElem_cons_succ, List.setIfInBounds_toArray, List.set_cons_zero, List.set_cons_succ])
          refine wpAnyH_done (by decide +kernel) ?_ _
          go_wp2_with fail
          go_meet
          refine ⟨_, _, _, rfl, rfl, rfl, ?_, ?_, ?_, by omega, by omega, by omega, by omega, by omega, by omega, hcur⟩
          · first | exact (alloc3 W _ _ _).1 | exact (alloc3 W _ _ _).2.1 | exact (alloc3 W _ _ _).2.2
          · first | exact (alloc3 W _ _ _).1 | exact (alloc3 W _ _ _).2.1 | exact (alloc3 W _ _ _).2.2
          · first | exact (alloc3 W _ _ _).1 | exact (alloc3 W _ _ _).2.1 | exact (alloc3 W _ _ _).2.2
    · go_simp
      refine hK.out _ _ (below_of hcur (below_alloc _ _)) (fun hcur2 => ?_)
      clear hK K
      replace hcur : Below W.heap.size W _ := hcur2
      clear hcur2
      (try simp only [Act.put, List.getElem_toArray, List.getElem_cons_zero, List.getElem_cons_succ, List.setIfInBounds_toArray, List.set_cons_zero, List.set_cons_succ])
      refine wpAnyH_ready (rs := [3, 7]) (by decide +kernel) (by simp) ?_
      refine AllReadyH.cons rfl (fun K hK => ?_) (AllReadyH.cons rfl (fun K hK => ?_) AllReadyH.nil)
      · go_simp
        refine hK.out _ _ (below_of hcur (below_alloc _ _)) (fun hcur2 => ?_)
        clear hK K
        replace hcur : Below W.heap.size W _ := hcur2
        clear hcur2
        (try simp only [Act.put, List.getElem_toArray, List.getElem_cons_zero, List.getElem_cons_succ, List.setIfInBounds_toArray, List.set_cons_zero, List.set_cons_succ])
        refine wpAnyH_take (i := 12) (v := ?_) rfl (by decide +kernel) (by decide +kernel) (by decide +kernel) (fun _ _ _ h => h) (Or.inl ⟨by rfl, ?hy⟩) hcur ?_
        case hy =>
          intro w1 hSw
          replace hSw : Below W.heap.size W w1 := hSw
          obtain ⟨x0, x1, x2, x3, x4, x5, x6, x7⟩ := hbx.up hSw (by omega)
          simp only [] at x0 x1 x2 x3 x4 x5 x6 x7
          go_simp
          (try with_reducible rfl)
        (try simp only [Act.put, List.getElem_toArray, List.getElem_cons_zero, List.getElem_cons_succ, List.setIfInBounds_toArray, List.set_cons_zero, List.set_cons_succ])
        refine wpAnyH_ready (rs := [7]) (by decide +kernel) (by simp) ?_
        refine AllReadyH.cons rfl (fun K hK => ?_) AllReadyH.nil
        · go_simp
          refine hK.out _ _ (below_of hcur (below_alloc _ _)) (fun hcur2 => ?_)
          clear hK K
          replace hcur : Below W.heap.size W _ := hcur2
          clear hcur2
          (try simp only [Act.put, List.getElem_toArray, List.getElem_cons_zero, List.getElem_cons_succ, List.setIfInBounds_toArray, List.set_cons_zero, List.set_cons_succ])
          refine wpAnyH_take (i := 13) (v := ?_) rfl (by decide +kernel) (by decide +kernel) (by decide +kernel) (fun _ _ _ h => h) (Or.inl ⟨by rfl, ?hy⟩) hcur ?_
          case hy =>
            intro w1 hSw
            replace hSw : Below W.heap.size W w1 := hSw
            obtain ⟨x0, x1, x2, x3, x4, x5, x6, x7⟩ := hbx.up hSw (by omega)
            simp only [] at x0 x1 x2 x3 x4 x5 x6 x7
            go_simp
            (try with_reducible rfl)
          (try simp only [Act.put, List.getElem_toArray, List.getElem_cons_zero, List.getElem_cons_succ, List.setIfInBounds_toArray, List.set_cons_zero, List.set_cons_succ])
          refine wpAnyH_take (i := 14) (v := ?_) rfl (by decide +kernel) (by decide +kernel) (by decide +kernel) (fun _ _ _ h => h) (Or.inl ⟨by rfl, ?hy⟩) hcur ?_
          case hy =>
            intro w1 hSw
            replace hSw : Below W.heap.size W w1 := hSw
            obtain ⟨x0, x1, x2, x3, x4, x5, x6, x7⟩ := hbx.up hSw (by omega)
            simp only [] at x0 x1 x2 x3 x4 x5 x6 x7
            go_simp
            (try with_reducible rfl)
          (try simp only [Act.put, List.getElem_toArray, List.getElem_cons_zero, List.getElem_cons_succ, List.setIfInBounds_toArray, List.set_cons_zero, List.set_cons_succ])
          refine wpAnyH_done (by decide +kernel) ?_ _
          go_wp2_with fail
          go_meet
          refine ⟨_, _, _, rfl, rfl, rfl, ?_, ?_, ?_, by omega, by omega, by omega, by omega, by omega, by omega, hcur⟩
          · first | exact (alloc3 W _ _ _).1 | exact (alloc3 W _ _ _).2.1 | exact (alloc3 W _ _ _).2.2
          · first | exact (alloc3 W _ _ _).1 | exact (alloc3 W _ _ _).2.1 | exact (alloc3 W _ _ _).2.2
          · first | exact (alloc3 W _ _ _).1 | exact (alloc3 W _ _ _).2.1 | exact (alloc3 W _ _ _).2.2
      · go_simp
        refine hK.out _ _ (below_of hcur (below_alloc _ _)) (fun hcur2 => ?_)
        clear hK K
        replace hcur : Below W.heap.size W _ := hcur2
        clear hcur2
        (try simp only [Act.put, List.getElem_toArray, List.getElem_cons_zero, List.getElem_cons_succ, List.setIfInBounds_toArray, List.set_cons_zero, List.set_cons_succ])
        refine wpAnyH_ready (rs := [3]) (by decide +kernel) (by simp) ?_
        refine AllReadyH.cons rfl (fun K hK => ?_) AllReadyH.nil
        · go_simp
          refine hK.out _ _ (below_of hcur (below_alloc _ _)) (fun hcur2 => ?_)
          clear hK K
          replace hcur : Below W.heap.size W _ := hcur2
          clear hcur2
          (try simp only [Act.put, List.getElem_toArray, List.getElem_cons_zero, List.getElem_cons_succ, List.setIfInBounds_toArray, List.set_cons_zero, List.set_cons_succ])
          refine wpAnyH_take (i := 12) (v := ?_) rfl (by decide +kernel) (by decide +kernel) (by decide +kernel) (fun _ _ _ h => h) (Or.inl ⟨by rfl, ?hy⟩) hcur ?_
          case hy =>
            intro w1 hSw
            replace hSw : Below W.heap.size W w1 := hSw
            obtain ⟨x0, x1, x2, x3, x4, x5, x6, x7⟩ := hbx.up hSw (by omega)
            simp only [] at x0 x1 x2 x3 x4 x5 x6 x7
            go_simp
            (try with_reducible rfl)
          (try simp only [Act.put, List.getElem_toArray, List.getElem_cons_zero, List.getElem_cons_succ, List.setIfInBounds_toArray, List.set_cons_zero, List.set_cons_succ])
          refine wpAnyH_take (i := 13) (v := ?_) rfl (by decide +kernel) (by decide +kernel) (by decide +kernel) (fun _ _ _ h => h) (Or.inl ⟨by rfl, ?hy⟩) hcur ?_
          case hy =>
            intro w1 hSw
            replace hSw : Below W.heap.size W w1 := hSw
            obtain ⟨x0, x1, x2, x3, x4, x5, x6, x7⟩ := hbx.up hSw (by omega)
            simp only [] at x0 x1 x2 x3 x4 x5 x6 x7
            go_simp
            (try with_reducible rfl)
          (try simp only [Act.put, List.getElem_toArray, List.getElem_cons_zero, List.getElem_cons_succ, List.setIfInBounds_toArray, List.set_cons_zero, List.set_cons_succ])
          refine wpAnyH_take (i := 14) (v := ?_) rfl (by decide +kernel) (by decide +kernel) (by decide +kernel) (fun _ _ _ h => h) (Or.inl ⟨by rfl, ?hy⟩) hcur ?_
          case hy =>
            intro w1 hSw
            replace hSw : Below W.heap.size W w1 := hSw
            obtain ⟨x0, x1, x2, x3, x4, x5, x6, x7⟩ := hbx.up hSw (by omega)
            simp only [] at x0 x1 x2 x3 x4 x5 x6 x7
            go_simp
            (try with_reducible rfl)
          (try simp only [Act.put, List.getElem_toArray, List.getElem_cons_zero, List.getElem_cons_succ, List.setIfInBounds_toArray, List.set_cons_zero, List.set_cons_succ])
          refine wpAnyH_done (by decide +kernel) ?_ _
          go_wp2_with fail
          go_meet
          refine ⟨_, _, _, rfl, rfl, rfl, ?_, ?_, ?_, by omega, by omega, by omega, by omega, by omega, by omega, hcur⟩
          · first | exact (alloc3 W _ _ _).1 | exact (alloc3 W _ _ _).2.1 | exact (alloc3 W _ _ _).2.2
          · first | exact (alloc3 W _ _ _).1 | exact (alloc3 W _ _ _).2.1 | exact (alloc3 W _ _ _).2.2
          · first | exact (alloc3 W _ _ _).1 | exact (alloc3 W _ _ _).2.1 | exact (alloc3 W _ _ _).2.2
  case rest =>
    obtain ⟨g1, g2, g3, rfl, rfl, rfl, HR⟩ := hcut
    obtain ⟨r1, r2, r3, n12, n13, n23, m1, m2, m3, hb⟩ := HR
    obtain ⟨x0, x1, x2, x3, x4, x5, x6, x7⟩ := id (hbx.up hb (by omega))
    simp only [] at x0 x1 x2 x3 x4 x5 x6 x7
    obtain ⟨w1, hc1, q1, o1⟩ := run_copy_off (P := Try.prog) 22 22 3 9 Try.underlying22 joinS_size A ca g1 keys.length _ _ r1 (strs keys) (strs_length keys) (zrow_length _ _) (fun hp => (h.keys.up hb).src hp) (strs_one keys)
    have b1 : Below W.heap.size W w1 := o1.below hb hb.size (fun j hj e => by omega)
    obtain ⟨w2, hc2, q2, o2⟩ := run_copy_off (P := Try.prog) 23 23 3 35 Try.underlying23 joinU_size B cb g2 vals.length _ _ ((o1.block g2 (Array.getElem?_eq_some_iff.1 r2).1 (fun e => n12 e.symm)).trans r2) (u64s vals) (u64s_length vals) (zrow_length _ _) (fun hp => (h.vals.up b1).src hp) (u64s_one vals)
    have b2 : Below W.heap.size W w2 := o2.below b1 b1.size (fun j hj e => by omega)
    have r3' := (o2.block g3 (Nat.lt_of_lt_of_le (Array.getElem?_eq_some_iff.1 r3).1 o1.size) (fun e => n23 e.symm)).trans ((o1.block g3 (Array.getElem?_eq_some_iff.1 r3).1 (fun e => n13 e.symm)).trans r3)
    obtain ⟨w3, hc3, q3, o3⟩ := run_copy_off (P := Try.prog) 24 24 3 3 Try.underlying24 joinI_size C cc g3 kids.length _ _ r3' (i64s kids) (i64s_length kids) (zrow_length _ _) (fun hp => (h.kids.up b2).src hp) (i64s_one kids)
    have b3 : Below W.heap.size W w3 := o3.below b2 b2.size (fun j hj e => by omega)
    obtain ⟨y0, y1, y2, y3, y4, y5, y6, y7⟩ := id (hbx.up b1 (by omega))
    obtain ⟨z0, z1, z2, z3, z4, z5, z6, z7⟩ := id (hbx.up b2 (by omega))
    obtain ⟨v0, v1, v2, v3, v4, v5, v6, v7⟩ := id (hbx.up b3 (by omega))
    simp only [] at y0 y1 y2 y3 y4 y5 y6 y7 z0 z1 z2 z3 z4 z5 z6 z7 v0 v1 v2 v3 v4 v5 v6 v7
    have f3 : ∀ i, w3.frozen? ⟨w.heap.size, i, none⟩ = false := fun i => (b3.frozen (p := ⟨w.heap.size, i, none⟩) (show w.heap.size < W.heap.size by omega)).trans (hfz i)
    have rs3 := (b3.block (w.heap.size + 1) hsz).trans hrs
    have t0 : w3.cell? ⟨w.heap.size + 1, 0, none⟩ = some (.int .i64 0) := by simp [World.cell?, rs3]
    have u0 : w3.frozen? ⟨w.heap.size + 1, 0, none⟩ = false := by simp [World.frozen?, rs3]
    have t1 : w3.cell? ⟨w.heap.size + 1, 1, none⟩ = some (.string ⟨#[]⟩) := by simp [World.cell?, rs3]
    have u1 : w3.frozen? ⟨w.heap.size + 1, 1, none⟩ = false := by simp [World.frozen?, rs3]
    have t2 : w3.cell? ⟨w.heap.size + 1, 2, none⟩ = some (.string ⟨#[]⟩) := by simp [World.cell?, rs3]
    have u2 : w3.frozen? ⟨w.heap.size + 1, 2, none⟩ = false := by simp [World.frozen?, rs3]
    have t3 : w3.cell? ⟨w.heap.size + 1, 3, none⟩ = some (.bool false) := by simp [World.cell?, rs3]
    have u3 : w3.frozen? ⟨w.heap.size + 1, 3, none⟩ = false := by simp [World.frozen?, rs3]
    have t4 : w3.cell? ⟨w.heap.size + 1, 4, none⟩ = some (.int .i64 0) := by simp [World.cell?, rs3]
    have u4 : w3.frozen? ⟨w.heap.size + 1, 4, none⟩ = false := by simp [World.frozen?, rs3]
    have t5 : w3.cell? ⟨w.heap.size + 1, 5, none⟩ = some (.slice none 0 0) := by simp [World.cell?, rs3]
    have u5 : w3.frozen? ⟨w.heap.size + 1, 5, none⟩ = false := by simp [World.frozen?, rs3]
    have t6 : w3.cell? ⟨w.heap.size + 1, 6, none⟩ = some (.slice none 0 0) := by simp [World.cell?, rs3]
    have u6 : w3.frozen? ⟨w.heap.size + 1, 6, none⟩ = false := by simp [World.frozen?, rs3]
    have t7 : w3.cell? ⟨w.heap.size + 1, 7, none⟩ = some (.slice none 0 0) := by simp [World.cell?, rs3]
    have u7 : w3.frozen? ⟨w.heap.size + 1, 7, none⟩ = false := by simp [World.frozen?, rs3]
    have HQ := Lib.hid (And.intro q1 (And.intro q2 (And.intro q3 (And.intro o1 (And.intro o2 (And.intro o3 b3))))))
    have f5 := f3 5
    have f6 := f3 6
    have f7 := f3 7
    have HN := Lib.hid (And.intro n12 (And.intro n13 (And.intro n23 (And.intro m1 (And.intro m2 m3)))))
    clear q1 q2 q3 o1 o2 o3 b1 b2 b3 r1 r2 r3 r3' f3 hfz hm1 hm2 hm3 rs3 hrs
    go_wp2_with fail
    refine bodyPost_ret (v := .agg #[.int .i64 level, .string low, .string high, .bool last, .int .i64 next, .slice (some ⟨g1, 0, none⟩) keys.length keys.length, .slice (some ⟨g2, 0, none⟩) vals.length vals.length, .slice (some ⟨g3, 0, none⟩) kids.length kids.length]) (by simp [results, Try.results21, go_sem, *]) rfl ?_
    refine clone_end (d := ⟨level, low, high, last, next, keys, vals, kids⟩) HB hsz HQ.out.2.2.2.2.2.2 HQ.out.1 HQ.out.2.1 HQ.out.2.2.1 HQ.out.2.2.2.2.1 HQ.out.2.2.2.2.2.1 HN.out.1 HN.out.2.1 HN.out.2.2.1 HN.out.2.2.2.1 HN.out.2.2.2.2.1 HN.out.2.2.2.2.2 ?_
    exact Off.set (Off.set (Off.set (Off.set (Off.set (Off.set (Off.set (Off.set (Off.set (Off.set (Off.set (Off.refl _ _) (p := ⟨w.heap.size, 5, none⟩) (.inl rfl) _) (p := ⟨w.heap.size, 6, none⟩) (.inl rfl) _) (p := ⟨w.heap.size, 7, none⟩) (.inl rfl) _) (p := ⟨w.heap.size + 1, 0, none⟩) (.inr rfl) _) (p := ⟨w.heap.size + 1, 1, none⟩) (.inr rfl) _) (p := ⟨w.heap.size + 1, 2, none⟩) (.inr rfl) _) (p := ⟨w.heap.size + 1, 3, none⟩) (.inr rfl) _) (p := ⟨w.heap.size + 1, 4, none⟩) (.inr rfl) _) (p := ⟨w.heap.size + 1, 5, none⟩) (.inr rfl) _) (p := ⟨w.heap.size + 1, 6, none⟩) (.inr rfl) _) (p := ⟨w.heap.size + 1, 7, none⟩) (.inr rfl) _

end Go.Proofs.Ytcoiadncennhpaa
