/- Contracts of package history: Order. -/
import Derived.Test.YthbafbgnclpbpaaHOa
import Derived.Test.YthbafbgnclpbpaaHistB
import Derived.Test.YthbafbgnclpbpaaStF
namespace Go.Proofs.Ythbafbgnclpbpaa
open Go.RowKit

theorem one_cellv {W : World} {g : Nat} {v : Value} {T : TypeId} (h : W.heap[g]? = some (.cells #[v] T (0, 0))) : W.cell? ⟨g, 0, none⟩ = some v := by simp [World.cell?, h]
/-- When a call took effect. -/
def dnAt (xs : List CallD) (i : Nat) : Int := match xs[i]? with
  | some x => x.done
  | none => -1
theorem dnAt_at {xs : List CallD} {i : Nat} (h : i < xs.length) : dnAt xs i = xs[i].done := by simp [dnAt, h]
/-- The calls that took effect, of the first j. -/
def plN (xs : List CallD) (j : Nat) : List Nat := (List.range j).filter fun i => dnAt xs i != -1
theorem plN_succ (xs : List CallD) (j : Nat) : plN xs (j + 1) = plN xs j ++ if (dnAt xs j != -1) = true then [j] else [] := by
  unfold plN
  rw [List.range_succ, List.filter_append]
  congr 1
  by_cases h : (dnAt xs j != -1) = true
  · rw [if_pos h]; simp only [List.filter_cons, List.filter_nil, h, if_true]
  · rw [if_neg h]; simp only [List.filter_cons, List.filter_nil, h, if_false, Bool.false_eq_true]
theorem plN_le (xs : List CallD) (j : Nat) : (plN xs j).length ≤ j := by
  have := List.length_filter_le (fun i => dnAt xs i != -1) (List.range j)
  simpa [plN] using this
theorem plN_lt {xs : List CallD} {j i : Nat} (h : i ∈ plN xs j) : i < j := by
  unfold plN at h
  rw [List.mem_filter] at h
  simpa using h.1
def ints (l : List Nat) : List Int := l.map fun i : Nat => (i : Int)
theorem ints_app (a b : List Nat) : ints (a ++ b) = ints a ++ ints b := by simp [ints]
theorem ints_length (a : List Nat) : (ints a).length = a.length := by simp [ints]
/-- The x-th of them. -/
def plAt (xs : List CallD) (x : Nat) : Nat := (plN xs xs.length).getD x 0
theorem plAt_lt {xs : List CallD} {x : Nat} (h : x < (plN xs xs.length).length) : plAt xs x < xs.length := by
  unfold plAt
  rw [List.getD_eq_getElem?_getD, List.getElem?_eq_getElem h]
  exact plN_lt (List.getElem_mem h)
theorem plAt_get {xs : List CallD} {x : Nat} (h : x < (plN xs xs.length).length) : (ints (plN xs xs.length))[x]? = some (plAt xs x : Int) := by
  unfold plAt
  rw [List.getD_eq_getElem?_getD, List.getElem?_eq_getElem h]
  simp [ints, h]

theorem StR.of_own {w : World} {B n s cap : Nat} {T : TypeId} {g : Nat} {cur : Array Value} {vs : List Value} {en : Nat → List Value} (hg : w.heap[g]? = some (.cells cur T (0, 0))) (hnc : n ≤ cap) (hcs : cur.size = cap * s) (htk : cur.toList.take (n * s) = vs) (he : ∀ x, (en x).length = s) (hx : ∀ k, k < n → ∀ q v, (en k)[q]? = some v → vs[k * s + q]? = some v) (_hB : B ≤ g) : StR w w g T s n cap en (fun k => k) := by
  refine ⟨Off.refl _ _, (Array.getElem?_eq_some_iff.1 hg).1, ⟨cur.toList, by simpa using hg, by simpa using hcs, fun k hk q v hv => ?_⟩, hnc⟩
  have h1 := hx k hk q v hv
  rw [← htk, List.getElem?_take] at h1
  split at h1
  · exact h1
  · cases h1
theorem StR.rdI {W0 w : World} {g n cap : Nat} {T : TypeId} {E : Nat → Int} {p : Nat → Nat} (h : StR W0 w g T 1 n cap (enI E) p) : RdI w (some ⟨g, 0, none⟩) n (tab n fun k => E (p k)) := by
  refine ⟨by rw [i64s_length, tab_length]; omega, fun _ => ⟨g, 0, rfl, h.lt, fun j u hu => ?_⟩⟩
  have hj : j < n := by
    have := (List.getElem?_eq_some_iff.1 hu).1
    rw [i64s_length, tab_length] at this
    exact this
  rw [i64s_at _ _ (by rw [tab_length]; exact hj), tab_elem] at hu
  rw [Nat.zero_add, (h.int hj).1]
  exact hu

set_option maxHeartbeats 2000000 in
theorem ordcmp_any (b off n c bp i j : Nat) (di dj : Int) (W : World) (hbp : bp < W.heap.size ∧ W.cell? ⟨bp, 0, none⟩ = some (.slice (some ⟨b, off, none⟩) n c)) (hx : b < W.heap.size ∧ W.cell? ⟨b, off + i * 15 + 7, none⟩ = some (.int .i64 di) ∧ W.cell? ⟨b, off + j * 15 + 7, none⟩ = some (.int .i64 dj)) (hi : i < n) (hj : j < n) (hn : n ≤ 1000) :
    Calls Try.prog 101 #[.int .i64 i, .int .i64 j, .pointer (some ⟨bp, 0, none⟩)] W (fun e w' => ∃ v : Int, e = .returned (.int .i64 v) ∧ (v < 0 ↔ di < dj) ∧ Below W.heap.size W w') := by
  have HBP := Lib.hid hbp
  have HXI := Lib.hid hx
  have HB0 := Lib.hid (Below.refl W.heap.size W)
  obtain ⟨W0, hW0⟩ : ∃ W0, W0 = W := ⟨_, rfl⟩
  have HW0 := Lib.hid hW0
  clear hbp hx hW0
  by_cases c1 : di < dj
  · have c1b : decide (di < dj) = true := decide_eq_true c1
    go_enter Try.func101, Try.ntmps101
    go_upto_region 1 with fail
    refine wp_region_held_drew (S := fun w' => Below W.heap.size W w') (by kernel_rfl) (Below.drew (Below.refl _ _)) (fun hcur => ?_)
    replace hcur : Below W.heap.size W W.drew := hcur
    refine wpAnyH_take (i := 0) (v := ?_) rfl (by decide +kernel) (by decide +kernel) (by decide +kernel) (fun _ _ _ h => h) (Or.inl ⟨by rfl, ?hy⟩) hcur ?_
    case hy =>
      intro w1 hSw
      replace hSw : Below W.heap.size W w1 := hSw
      have x1 := (hSw.cell (p := ⟨bp, 0, none⟩) HBP.out.1).trans HBP.out.2
      have x2 := (hSw.cell (p := ⟨b, off + i * 15 + 7, none⟩) HXI.out.1).trans HXI.out.2.1
      have x3 := (hSw.cell (p := ⟨b, off + j * 15 + 7, none⟩) HXI.out.1).trans HXI.out.2.2
      go_simp
      (try with_reducible rfl)
    (try simp only [Act.put, List.getElem_toArray, List.getElem_cons_zero, List.getElem_cons_succ, List.setIfInBounds_toArray, List.set_cons_zero, List.set_cons_succ])
    refine wpAnyH_take (i := 1) (v := ?_) rfl (by decide +kernel) (by decide +kernel) (by decide +kernel) (fun _ _ _ h => h) (Or.inl ⟨by rfl, ?hy⟩) hcur ?_
    case hy =>
      intro w1 hSw
      replace hSw : Below W.heap.size W w1 := hSw
      have x1 := (hSw.cell (p := ⟨bp, 0, none⟩) HBP.out.1).trans HBP.out.2
      have x2 := (hSw.cell (p := ⟨b, off + i * 15 + 7, none⟩) HXI.out.1).trans HXI.out.2.1
      have x3 := (hSw.cell (p := ⟨b, off + j * 15 + 7, none⟩) HXI.out.1).trans HXI.out.2.2
      go_simp
      (try with_reducible rfl)
    (try simp only [Act.put, List.getElem_toArray, List.getElem_cons_zero, List.getElem_cons_succ, List.setIfInBounds_toArray, List.set_cons_zero, List.set_cons_succ])
    refine wpAnyH_take (i := 2) (v := ?_) rfl (by decide +kernel) (by decide +kernel) (by decide +kernel) (fun _ _ _ h => h) (Or.inl ⟨by rfl, ?hy⟩) hcur ?_
    case hy =>
      intro w1 hSw
      replace hSw : Below W.heap.size W w1 := hSw
      have x1 := (hSw.cell (p := ⟨bp, 0, none⟩) HBP.out.1).trans HBP.out.2
      have x2 := (hSw.cell (p := ⟨b, off + i * 15 + 7, none⟩) HXI.out.1).trans HXI.out.2.1
      have x3 := (hSw.cell (p := ⟨b, off + j * 15 + 7, none⟩) HXI.out.1).trans HXI.out.2.2
      go_simp
      (try with_reducible rfl)
    (try simp only [Act.put, List.getElem_toArray, List.getElem_cons_zero, List.getElem_cons_succ, List.setIfInBounds_toArray, List.set_cons_zero, List.set_cons_succ])
    refine wpAnyH_take (i := 3) (v := ?_) rfl (by decide +kernel) (by decide +kernel) (by decide +kernel) (fun _ _ _ h => h) (Or.inl ⟨by rfl, ?hy⟩) hcur ?_
    case hy =>
      intro w1 hSw
      replace hSw : Below W.heap.size W w1 := hSw
      have x1 := (hSw.cell (p := ⟨bp, 0, none⟩) HBP.out.1).trans HBP.out.2
      have x2 := (hSw.cell (p := ⟨b, off + i * 15 + 7, none⟩) HXI.out.1).trans HXI.out.2.1
      have x3 := (hSw.cell (p := ⟨b, off + j * 15 + 7, none⟩) HXI.out.1).trans HXI.out.2.2
      go_simp
      (try with_reducible rfl)
    (try simp only [Act.put, List.getElem_toArray, List.getElem_cons_zero, List.getElem_cons_succ, List.setIfInBounds_toArray, List.set_cons_zero, List.set_cons_succ])
    refine wpAnyH_take (i := 4) (v := ?_) rfl (by decide +kernel) (by decide +kernel) (by decide +kernel) (fun _ _ _ h => h) (Or.inl ⟨by rfl, ?hy⟩) hcur ?_
    case hy =>
      intro w1 hSw
      replace hSw : Below W.heap.size W w1 := hSw
      have x1 := (hSw.cell (p := ⟨bp, 0, none⟩) HBP.out.1).trans HBP.out.2
      have x2 := (hSw.cell (p := ⟨b, off + i * 15 + 7, none⟩) HXI.out.1).trans HXI.out.2.1
      have x3 := (hSw.cell (p := ⟨b, off + j * 15 + 7, none⟩) HXI.out.1).trans HXI.out.2.2
      go_simp
      (try with_reducible rfl)
    (try simp only [Act.put, List.getElem_toArray, List.getElem_cons_zero, List.getElem_cons_succ, List.setIfInBounds_toArray, List.set_cons_zero, List.set_cons_succ])
    refine wpAnyH_take (i := 5) (v := ?_) rfl (by decide +kernel) (by decide +kernel) (by decide +kernel) (fun _ _ _ h => h) (Or.inl ⟨by rfl, ?hy⟩) hcur ?_
    case hy =>
      intro w1 hSw
      replace hSw : Below W.heap.size W w1 := hSw
      have x1 := (hSw.cell (p := ⟨bp, 0, none⟩) HBP.out.1).trans HBP.out.2
      have x2 := (hSw.cell (p := ⟨b, off + i * 15 + 7, none⟩) HXI.out.1).trans HXI.out.2.1
      have x3 := (hSw.cell (p := ⟨b, off + j * 15 + 7, none⟩) HXI.out.1).trans HXI.out.2.2
      go_simp
      (try with_reducible rfl)
    (try simp only [Act.put, List.getElem_toArray, List.getElem_cons_zero, List.getElem_cons_succ, List.setIfInBounds_toArray, List.set_cons_zero, List.set_cons_succ])
    refine wpAnyH_take (i := 6) (v := ?_) rfl (by decide +kernel) (by decide +kernel) (by decide +kernel) (fun _ _ _ h => h) (Or.inl ⟨by rfl, ?hy⟩) hcur ?_
    case hy =>
      intro w1 hSw
      replace hSw : Below W.heap.size W w1 := hSw
      have x1 := (hSw.cell (p := ⟨bp, 0, none⟩) HBP.out.1).trans HBP.out.2
      have x2 := (hSw.cell (p := ⟨b, off + i * 15 + 7, none⟩) HXI.out.1).trans HXI.out.2.1
      have x3 := (hSw.cell (p := ⟨b, off + j * 15 + 7, none⟩) HXI.out.1).trans HXI.out.2.2
      go_simp
      (try with_reducible rfl)
    (try simp only [Act.put, List.getElem_toArray, List.getElem_cons_zero, List.getElem_cons_succ, List.setIfInBounds_toArray, List.set_cons_zero, List.set_cons_succ])
    refine wpAnyH_take (i := 7) (v := ?_) rfl (by decide +kernel) (by decide +kernel) (by decide +kernel) (fun _ _ _ h => h) (Or.inl ⟨by rfl, ?hy⟩) hcur ?_
    case hy =>
      intro w1 hSw
      replace hSw : Below W.heap.size W w1 := hSw
      have x1 := (hSw.cell (p := ⟨bp, 0, none⟩) HBP.out.1).trans HBP.out.2
      have x2 := (hSw.cell (p := ⟨b, off + i * 15 + 7, none⟩) HXI.out.1).trans HXI.out.2.1
      have x3 := (hSw.cell (p := ⟨b, off + j * 15 + 7, none⟩) HXI.out.1).trans HXI.out.2.2
      go_simp
      (try with_reducible rfl)
    (try simp only [Act.put, List.getElem_toArray, List.getElem_cons_zero, List.getElem_cons_succ, List.setIfInBounds_toArray, List.set_cons_zero, List.set_cons_succ])
    refine wpAnyH_take (i := 8) (v := ?_) rfl (by decide +kernel) (by decide +kernel) (by decide +kernel) (fun _ _ _ h => h) (Or.inl ⟨by rfl, ?hy⟩) hcur ?_
    case hy =>
      intro w1 hSw
      replace hSw : Below W.heap.size W w1 := hSw
      have x1 := (hSw.cell (p := ⟨bp, 0, none⟩) HBP.out.1).trans HBP.out.2
      have x2 := (hSw.cell (p := ⟨b, off + i * 15 + 7, none⟩) HXI.out.1).trans HXI.out.2.1
      have x3 := (hSw.cell (p := ⟨b, off + j * 15 + 7, none⟩) HXI.out.1).trans HXI.out.2.2
      go_simp
      (try with_reducible rfl)
    (try simp only [Act.put, List.getElem_toArray, List.getElem_cons_zero, List.getElem_cons_succ, List.setIfInBounds_toArray, List.set_cons_zero, List.set_cons_succ])
    refine wpAnyH_take (i := 9) (v := ?_) rfl (by decide +kernel) (by decide +kernel) (by decide +kernel) (fun _ _ _ h => h) (Or.inl ⟨by rfl, ?hy⟩) hcur ?_
    case hy =>
      intro w1 hSw
      replace hSw : Below W.heap.size W w1 := hSw
      have x1 := (hSw.cell (p := ⟨bp, 0, none⟩) HBP.out.1).trans HBP.out.2
      have x2 := (hSw.cell (p := ⟨b, off + i * 15 + 7, none⟩) HXI.out.1).trans HXI.out.2.1
      have x3 := (hSw.cell (p := ⟨b, off + j * 15 + 7, none⟩) HXI.out.1).trans HXI.out.2.2
      go_simp
      (try with_reducible rfl)
    (try simp only [Act.put, List.getElem_toArray, List.getElem_cons_zero, List.getElem_cons_succ, List.setIfInBounds_toArray, List.set_cons_zero, List.set_cons_succ])
    refine wpAnyH_take (i := 10) (v := ?_) rfl (by decide +kernel) (by decide +kernel) (by decide +kernel) (fun _ _ _ h => h) (Or.inl ⟨by rfl, ?hy⟩) hcur ?_
    case hy =>
      intro w1 hSw
      go_simp
      (try with_reducible rfl)
    (try simp only [Act.put, List.getElem_toArray, List.getElem_cons_zero, List.getElem_cons_succ, List.setIfInBounds_toArray, List.set_cons_zero, List.set_cons_succ])
    refine wpAnyH_take (i := 11) (v := ?_) rfl (by decide +kernel) (by decide +kernel) (by decide +kernel) (fun _ _ _ h => h) (Or.inl ⟨by rfl, ?hy⟩) hcur ?_
    case hy =>
      intro w1 hSw
      go_simp
      (try with_reducible rfl)
    (try simp only [Act.put, List.getElem_toArray, List.getElem_cons_zero, List.getElem_cons_succ, List.setIfInBounds_toArray, List.set_cons_zero, List.set_cons_succ])
    refine wpAnyH_done (by decide +kernel) ?_ _
    have HB := Lib.hid hcur
    clear hcur
    go_wp2_with fail
    go_ret
    exact ⟨-1, rfl, ⟨fun _ => c1, fun _ => by decide⟩, HB.out⟩
  · have c1b : decide (di < dj) = false := decide_eq_false c1
    go_enter Try.func101, Try.ntmps101
    go_upto_region 1 with fail
    refine wp_region_held_drew (S := fun w' => Below W.heap.size W w') (by kernel_rfl) (Below.drew (Below.refl _ _)) (fun hcur => ?_)
    replace hcur : Below W.heap.size W W.drew := hcur
    refine wpAnyH_take (i := 0) (v := ?_) rfl (by decide +kernel) (by decide +kernel) (by decide +kernel) (fun _ _ _ h => h) (Or.inl ⟨by rfl, ?hy⟩) hcur ?_
    case hy =>
      intro w1 hSw
      replace hSw : Below W.heap.size W w1 := hSw
      have x1 := (hSw.cell (p := ⟨bp, 0, none⟩) HBP.out.1).trans HBP.out.2
      have x2 := (hSw.cell (p := ⟨b, off + i * 15 + 7, none⟩) HXI.out.1).trans HXI.out.2.1
      have x3 := (hSw.cell (p := ⟨b, off + j * 15 + 7, none⟩) HXI.out.1).trans HXI.out.2.2
      go_simp
      (try with_reducible rfl)
    (try simp only [Act.put, List.getElem_toArray, List.getElem_cons_zero, List.getElem_cons_succ, List.setIfInBounds_toArray, List.set_cons_zero, List.set_cons_succ])
    refine wpAnyH_take (i := 1) (v := ?_) rfl (by decide +kernel) (by decide +kernel) (by decide +kernel) (fun _ _ _ h => h) (Or.inl ⟨by rfl, ?hy⟩) hcur ?_
    case hy =>
      intro w1 hSw
      replace hSw : Below W.heap.size W w1 := hSw
      have x1 := (hSw.cell (p := ⟨bp, 0, none⟩) HBP.out.1).trans HBP.out.2
      have x2 := (hSw.cell (p := ⟨b, off + i * 15 + 7, none⟩) HXI.out.1).trans HXI.out.2.1
      have x3 := (hSw.cell (p := ⟨b, off + j * 15 + 7, none⟩) HXI.out.1).trans HXI.out.2.2
      go_simp
      (try with_reducible rfl)
    (try simp only [Act.put, List.getElem_toArray, List.getElem_cons_zero, List.getElem_cons_succ, List.setIfInBounds_toArray, List.set_cons_zero, List.set_cons_succ])
    refine wpAnyH_take (i := 2) (v := ?_) rfl (by decide +kernel) (by decide +kernel) (by decide +kernel) (fun _ _ _ h => h) (Or.inl ⟨by rfl, ?hy⟩) hcur ?_
    case hy =>
      intro w1 hSw
      replace hSw : Below W.heap.size W w1 := hSw
      have x1 := (hSw.cell (p := ⟨bp, 0, none⟩) HBP.out.1).trans HBP.out.2
      have x2 := (hSw.cell (p := ⟨b, off + i * 15 + 7, none⟩) HXI.out.1).trans HXI.out.2.1
      have x3 := (hSw.cell (p := ⟨b, off + j * 15 + 7, none⟩) HXI.out.1).trans HXI.out.2.2
      go_simp
      (try with_reducible rfl)
    (try simp only [Act.put, List.getElem_toArray, List.getElem_cons_zero, List.getElem_cons_succ, List.setIfInBounds_toArray, List.set_cons_zero, List.set_cons_succ])
    refine wpAnyH_take (i := 3) (v := ?_) rfl (by decide +kernel) (by decide +kernel) (by decide +kernel) (fun _ _ _ h => h) (Or.inl ⟨by rfl, ?hy⟩) hcur ?_
    case hy =>
      intro w1 hSw
      replace hSw : Below W.heap.size W w1 := hSw
      have x1 := (hSw.cell (p := ⟨bp, 0, none⟩) HBP.out.1).trans HBP.out.2
      have x2 := (hSw.cell (p := ⟨b, off + i * 15 + 7, none⟩) HXI.out.1).trans HXI.out.2.1
      have x3 := (hSw.cell (p := ⟨b, off + j * 15 + 7, none⟩) HXI.out.1).trans HXI.out.2.2
      go_simp
      (try with_reducible rfl)
    (try simp only [Act.put, List.getElem_toArray, List.getElem_cons_zero, List.getElem_cons_succ, List.setIfInBounds_toArray, List.set_cons_zero, List.set_cons_succ])
    refine wpAnyH_take (i := 4) (v := ?_) rfl (by decide +kernel) (by decide +kernel) (by decide +kernel) (fun _ _ _ h => h) (Or.inl ⟨by rfl, ?hy⟩) hcur ?_
    case hy =>
      intro w1 hSw
      replace hSw : Below W.heap.size W w1 := hSw
      have x1 := (hSw.cell (p := ⟨bp, 0, none⟩) HBP.out.1).trans HBP.out.2
      have x2 := (hSw.cell (p := ⟨b, off + i * 15 + 7, none⟩) HXI.out.1).trans HXI.out.2.1
      have x3 := (hSw.cell (p := ⟨b, off + j * 15 + 7, none⟩) HXI.out.1).trans HXI.out.2.2
      go_simp
      (try with_reducible rfl)
    (try simp only [Act.put, List.getElem_toArray, List.getElem_cons_zero, List.getElem_cons_succ, List.setIfInBounds_toArray, List.set_cons_zero, List.set_cons_succ])
    refine wpAnyH_take (i := 5) (v := ?_) rfl (by decide +kernel) (by decide +kernel) (by decide +kernel) (fun _ _ _ h => h) (Or.inl ⟨by rfl, ?hy⟩) hcur ?_
    case hy =>
      intro w1 hSw
      replace hSw : Below W.heap.size W w1 := hSw
      have x1 := (hSw.cell (p := ⟨bp, 0, none⟩) HBP.out.1).trans HBP.out.2
      have x2 := (hSw.cell (p := ⟨b, off + i * 15 + 7, none⟩) HXI.out.1).trans HXI.out.2.1
      have x3 := (hSw.cell (p := ⟨b, off + j * 15 + 7, none⟩) HXI.out.1).trans HXI.out.2.2
      go_simp
      (try with_reducible rfl)
    (try simp only [Act.put, List.getElem_toArray, List.getElem_cons_zero, List.getElem_cons_succ, List.setIfInBounds_toArray, List.set_cons_zero, List.set_cons_succ])
    refine wpAnyH_take (i := 6) (v := ?_) rfl (by decide +kernel) (by decide +kernel) (by decide +kernel) (fun _ _ _ h => h) (Or.inl ⟨by rfl, ?hy⟩) hcur ?_
    case hy =>
      intro w1 hSw
      replace hSw : Below W.heap.size W w1 := hSw
      have x1 := (hSw.cell (p := ⟨bp, 0, none⟩) HBP.out.1).trans HBP.out.2
      have x2 := (hSw.cell (p := ⟨b, off + i * 15 + 7, none⟩) HXI.out.1).trans HXI.out.2.1
      have x3 := (hSw.cell (p := ⟨b, off + j * 15 + 7, none⟩) HXI.out.1).trans HXI.out.2.2
      go_simp
      (try with_reducible rfl)
    (try simp only [Act.put, List.getElem_toArray, List.getElem_cons_zero, List.getElem_cons_succ, List.setIfInBounds_toArray, List.set_cons_zero, List.set_cons_succ])
    refine wpAnyH_take (i := 7) (v := ?_) rfl (by decide +kernel) (by decide +kernel) (by decide +kernel) (fun _ _ _ h => h) (Or.inl ⟨by rfl, ?hy⟩) hcur ?_
    case hy =>
      intro w1 hSw
      replace hSw : Below W.heap.size W w1 := hSw
      have x1 := (hSw.cell (p := ⟨bp, 0, none⟩) HBP.out.1).trans HBP.out.2
      have x2 := (hSw.cell (p := ⟨b, off + i * 15 + 7, none⟩) HXI.out.1).trans HXI.out.2.1
      have x3 := (hSw.cell (p := ⟨b, off + j * 15 + 7, none⟩) HXI.out.1).trans HXI.out.2.2
      go_simp
      (try with_reducible rfl)
    (try simp only [Act.put, List.getElem_toArray, List.getElem_cons_zero, List.getElem_cons_succ, List.setIfInBounds_toArray, List.set_cons_zero, List.set_cons_succ])
    refine wpAnyH_take (i := 8) (v := ?_) rfl (by decide +kernel) (by decide +kernel) (by decide +kernel) (fun _ _ _ h => h) (Or.inl ⟨by rfl, ?hy⟩) hcur ?_
    case hy =>
      intro w1 hSw
      replace hSw : Below W.heap.size W w1 := hSw
      have x1 := (hSw.cell (p := ⟨bp, 0, none⟩) HBP.out.1).trans HBP.out.2
      have x2 := (hSw.cell (p := ⟨b, off + i * 15 + 7, none⟩) HXI.out.1).trans HXI.out.2.1
      have x3 := (hSw.cell (p := ⟨b, off + j * 15 + 7, none⟩) HXI.out.1).trans HXI.out.2.2
      go_simp
      (try with_reducible rfl)
    (try simp only [Act.put, List.getElem_toArray, List.getElem_cons_zero, List.getElem_cons_succ, List.setIfInBounds_toArray, List.set_cons_zero, List.set_cons_succ])
    refine wpAnyH_take (i := 9) (v := ?_) rfl (by decide +kernel) (by decide +kernel) (by decide +kernel) (fun _ _ _ h => h) (Or.inl ⟨by rfl, ?hy⟩) hcur ?_
    case hy =>
      intro w1 hSw
      replace hSw : Below W.heap.size W w1 := hSw
      have x1 := (hSw.cell (p := ⟨bp, 0, none⟩) HBP.out.1).trans HBP.out.2
      have x2 := (hSw.cell (p := ⟨b, off + i * 15 + 7, none⟩) HXI.out.1).trans HXI.out.2.1
      have x3 := (hSw.cell (p := ⟨b, off + j * 15 + 7, none⟩) HXI.out.1).trans HXI.out.2.2
      go_simp
      (try with_reducible rfl)
    (try simp only [Act.put, List.getElem_toArray, List.getElem_cons_zero, List.getElem_cons_succ, List.setIfInBounds_toArray, List.set_cons_zero, List.set_cons_succ])
    refine wpAnyH_take (i := 10) (v := ?_) rfl (by decide +kernel) (by decide +kernel) (by decide +kernel) (fun _ _ _ h => h) (Or.inl ⟨by rfl, ?hy⟩) hcur ?_
    case hy =>
      intro w1 hSw
      go_simp
      (try with_reducible rfl)
    (try simp only [Act.put, List.getElem_toArray, List.getElem_cons_zero, List.getElem_cons_succ, List.setIfInBounds_toArray, List.set_cons_zero, List.set_cons_succ])
    refine wpAnyH_take (i := 11) (v := ?_) rfl (by decide +kernel) (by decide +kernel) (by decide +kernel) (fun _ _ _ h => h) (Or.inl ⟨by rfl, ?hy⟩) hcur ?_
    case hy =>
      intro w1 hSw
      go_simp
      (try with_reducible rfl)
    (try simp only [Act.put, List.getElem_toArray, List.getElem_cons_zero, List.getElem_cons_succ, List.setIfInBounds_toArray, List.set_cons_zero, List.set_cons_succ])
    refine wpAnyH_done (by decide +kernel) ?_ _
    have HB := Lib.hid hcur
    clear hcur c1b
    by_cases c2 : dj < di
    · have c2b : decide (dj < di) = true := decide_eq_true c2
      go_upto_region 3 with fail
      refine wp_region_held_drew (S := fun w' => Below W.heap.size W w') (by kernel_rfl) (Below.drew HB.out) (fun hcur => ?_)
      refine wpAnyH_take (i := 0) (v := ?_) rfl (by decide +kernel) (by decide +kernel) (by decide +kernel) (fun _ _ _ h => h) (Or.inl ⟨by rfl, ?hy⟩) hcur ?_
      case hy =>
        intro w1 hSw
        replace hSw : Below W.heap.size W w1 := hSw
        have x1 := (hSw.cell (p := ⟨bp, 0, none⟩) HBP.out.1).trans HBP.out.2
        have x2 := (hSw.cell (p := ⟨b, off + i * 15 + 7, none⟩) HXI.out.1).trans HXI.out.2.1
        have x3 := (hSw.cell (p := ⟨b, off + j * 15 + 7, none⟩) HXI.out.1).trans HXI.out.2.2
        go_simp
        (try with_reducible rfl)
      (try simp only [Act.put, List.getElem_toArray, List.getElem_cons_zero, List.getElem_cons_succ, List.setIfInBounds_toArray, List.set_cons_zero, List.set_cons_succ])
      refine wpAnyH_take (i := 1) (v := ?_) rfl (by decide +kernel) (by decide +kernel) (by decide +kernel) (fun _ _ _ h => h) (Or.inl ⟨by rfl, ?hy⟩) hcur ?_
      case hy =>
        intro w1 hSw
        replace hSw : Below W.heap.size W w1 := hSw
        have x1 := (hSw.cell (p := ⟨bp, 0, none⟩) HBP.out.1).trans HBP.out.2
        have x2 := (hSw.cell (p := ⟨b, off + i * 15 + 7, none⟩) HXI.out.1).trans HXI.out.2.1
        have x3 := (hSw.cell (p := ⟨b, off + j * 15 + 7, none⟩) HXI.out.1).trans HXI.out.2.2
        go_simp
        (try with_reducible rfl)
      (try simp only [Act.put, List.getElem_toArray, List.getElem_cons_zero, List.getElem_cons_succ, List.setIfInBounds_toArray, List.set_cons_zero, List.set_cons_succ])
      refine wpAnyH_take (i := 2) (v := ?_) rfl (by decide +kernel) (by decide +kernel) (by decide +kernel) (fun _ _ _ h => h) (Or.inl ⟨by rfl, ?hy⟩) hcur ?_
      case hy =>
        intro w1 hSw
        replace hSw : Below W.heap.size W w1 := hSw
        have x1 := (hSw.cell (p := ⟨bp, 0, none⟩) HBP.out.1).trans HBP.out.2
        have x2 := (hSw.cell (p := ⟨b, off + i * 15 + 7, none⟩) HXI.out.1).trans HXI.out.2.1
        have x3 := (hSw.cell (p := ⟨b, off + j * 15 + 7, none⟩) HXI.out.1).trans HXI.out.2.2
        go_simp
        (try with_reducible rfl)
      (try simp only [Act.put, List.getElem_toArray, List.getElem_cons_zero, List.getElem_cons_succ, List.setIfInBounds_toArray, List.set_cons_zero, List.set_cons_succ])
      refine wpAnyH_take (i := 3) (v := ?_) rfl (by decide +kernel) (by decide +kernel) (by decide +kernel) (fun _ _ _ h => h) (Or.inl ⟨by rfl, ?hy⟩) hcur ?_
      case hy =>
        intro w1 hSw
        replace hSw : Below W.heap.size W w1 := hSw
        have x1 := (hSw.cell (p := ⟨bp, 0, none⟩) HBP.out.1).trans HBP.out.2
        have x2 := (hSw.cell (p := ⟨b, off + i * 15 + 7, none⟩) HXI.out.1).trans HXI.out.2.1
        have x3 := (hSw.cell (p := ⟨b, off + j * 15 + 7, none⟩) HXI.out.1).trans HXI.out.2.2
        go_simp
        (try with_reducible rfl)
      (try simp only [Act.put, List.getElem_toArray, List.getElem_cons_zero, List.getElem_cons_succ, List.setIfInBounds_toArray, List.set_cons_zero, List.set_cons_succ])
      refine wpAnyH_take (i := 4) (v := ?_) rfl (by decide +kernel) (by decide +kernel) (by decide +kernel) (fun _ _ _ h => h) (Or.inl ⟨by rfl, ?hy⟩) hcur ?_
      case hy =>
        intro w1 hSw
        replace hSw : Below W.heap.size W w1 := hSw
        have x1 := (hSw.cell (p := ⟨bp, 0, none⟩) HBP.out.1).trans HBP.out.2
        have x2 := (hSw.cell (p := ⟨b, off + i * 15 + 7, none⟩) HXI.out.1).trans HXI.out.2.1
        have x3 := (hSw.cell (p := ⟨b, off + j * 15 + 7, none⟩) HXI.out.1).trans HXI.out.2.2
        go_simp
        (try with_reducible rfl)
      (try simp only [Act.put, List.getElem_toArray, List.getElem_cons_zero, List.getElem_cons_succ, List.setIfInBounds_toArray, List.set_cons_zero, List.set_cons_succ])
      refine wpAnyH_take (i := 5) (v := ?_) rfl (by decide +kernel) (by decide +kernel) (by decide +kernel) (fun _ _ _ h => h) (Or.inl ⟨by rfl, ?hy⟩) hcur ?_
      case hy =>
        intro w1 hSw
        replace hSw : Below W.heap.size W w1 := hSw
        have x1 := (hSw.cell (p := ⟨bp, 0, none⟩) HBP.out.1).trans HBP.out.2
        have x2 := (hSw.cell (p := ⟨b, off + i * 15 + 7, none⟩) HXI.out.1).trans HXI.out.2.1
        have x3 := (hSw.cell (p := ⟨b, off + j * 15 + 7, none⟩) HXI.out.1).trans HXI.out.2.2
        go_simp
        (try with_reducible rfl)
      (try simp only [Act.put, List.getElem_toArray, List.getElem_cons_zero, List.getElem_cons_succ, List.setIfInBounds_toArray, List.set_cons_zero, List.set_cons_succ])
      refine wpAnyH_take (i := 6) (v := ?_) rfl (by decide +kernel) (by decide +kernel) (by decide +kernel) (fun _ _ _ h => h) (Or.inl ⟨by rfl, ?hy⟩) hcur ?_
      case hy =>
        intro w1 hSw
        replace hSw : Below W.heap.size W w1 := hSw
        have x1 := (hSw.cell (p := ⟨bp, 0, none⟩) HBP.out.1).trans HBP.out.2
        have x2 := (hSw.cell (p := ⟨b, off + i * 15 + 7, none⟩) HXI.out.1).trans HXI.out.2.1
        have x3 := (hSw.cell (p := ⟨b, off + j * 15 + 7, none⟩) HXI.out.1).trans HXI.out.2.2
        go_simp
        (try with_reducible rfl)
      (try simp only [Act.put, List.getElem_toArray, List.getElem_cons_zero, List.getElem_cons_succ, List.setIfInBounds_toArray, List.set_cons_zero, List.set_cons_succ])
      refine wpAnyH_take (i := 7) (v := ?_) rfl (by decide +kernel) (by decide +kernel) (by decide +kernel) (fun _ _ _ h => h) (Or.inl ⟨by rfl, ?hy⟩) hcur ?_
      case hy =>
        intro w1 hSw
        replace hSw : Below W.heap.size W w1 := hSw
        have x1 := (hSw.cell (p := ⟨bp, 0, none⟩) HBP.out.1).trans HBP.out.2
        have x2 := (hSw.cell (p := ⟨b, off + i * 15 + 7, none⟩) HXI.out.1).trans HXI.out.2.1
        have x3 := (hSw.cell (p := ⟨b, off + j * 15 + 7, none⟩) HXI.out.1).trans HXI.out.2.2
        go_simp
        (try with_reducible rfl)
      (try simp only [Act.put, List.getElem_toArray, List.getElem_cons_zero, List.getElem_cons_succ, List.setIfInBounds_toArray, List.set_cons_zero, List.set_cons_succ])
      refine wpAnyH_take (i := 8) (v := ?_) rfl (by decide +kernel) (by decide +kernel) (by decide +kernel) (fun _ _ _ h => h) (Or.inl ⟨by rfl, ?hy⟩) hcur ?_
      case hy =>
        intro w1 hSw
        replace hSw : Below W.heap.size W w1 := hSw
        have x1 := (hSw.cell (p := ⟨bp, 0, none⟩) HBP.out.1).trans HBP.out.2
        have x2 := (hSw.cell (p := ⟨b, off + i * 15 + 7, none⟩) HXI.out.1).trans HXI.out.2.1
        have x3 := (hSw.cell (p := ⟨b, off + j * 15 + 7, none⟩) HXI.out.1).trans HXI.out.2.2
        go_simp
        (try with_reducible rfl)
      (try simp only [Act.put, List.getElem_toArray, List.getElem_cons_zero, List.getElem_cons_succ, List.setIfInBounds_toArray, List.set_cons_zero, List.set_cons_succ])
      refine wpAnyH_take (i := 9) (v := ?_) rfl (by decide +kernel) (by decide +kernel) (by decide +kernel) (fun _ _ _ h => h) (Or.inl ⟨by rfl, ?hy⟩) hcur ?_
      case hy =>
        intro w1 hSw
        replace hSw : Below W.heap.size W w1 := hSw
        have x1 := (hSw.cell (p := ⟨bp, 0, none⟩) HBP.out.1).trans HBP.out.2
        have x2 := (hSw.cell (p := ⟨b, off + i * 15 + 7, none⟩) HXI.out.1).trans HXI.out.2.1
        have x3 := (hSw.cell (p := ⟨b, off + j * 15 + 7, none⟩) HXI.out.1).trans HXI.out.2.2
        go_simp
        (try with_reducible rfl)
      (try simp only [Act.put, List.getElem_toArray, List.getElem_cons_zero, List.getElem_cons_succ, List.setIfInBounds_toArray, List.set_cons_zero, List.set_cons_succ])
      refine wpAnyH_take (i := 10) (v := ?_) rfl (by decide +kernel) (by decide +kernel) (by decide +kernel) (fun _ _ _ h => h) (Or.inl ⟨by rfl, ?hy⟩) hcur ?_
      case hy =>
        intro w1 hSw
        go_simp
        (try with_reducible rfl)
      (try simp only [Act.put, List.getElem_toArray, List.getElem_cons_zero, List.getElem_cons_succ, List.setIfInBounds_toArray, List.set_cons_zero, List.set_cons_succ])
      refine wpAnyH_take (i := 11) (v := ?_) rfl (by decide +kernel) (by decide +kernel) (by decide +kernel) (fun _ _ _ h => h) (Or.inl ⟨by rfl, ?hy⟩) hcur ?_
      case hy =>
        intro w1 hSw
        go_simp
        (try with_reducible rfl)
      (try simp only [Act.put, List.getElem_toArray, List.getElem_cons_zero, List.getElem_cons_succ, List.setIfInBounds_toArray, List.set_cons_zero, List.set_cons_succ])
      refine wpAnyH_done (by decide +kernel) ?_ _
      have HB2 := Lib.hid hcur
      clear hcur
      go_wp2_with fail
      go_ret
      exact ⟨1, rfl, ⟨fun q => absurd q (by decide), fun q => absurd q (by omega)⟩, HB2.out⟩
    · have c2b : decide (dj < di) = false := decide_eq_false c2
      go_upto_region 3 with fail
      refine wp_region_held_drew (S := fun w' => Below W.heap.size W w') (by kernel_rfl) (Below.drew HB.out) (fun hcur => ?_)
      refine wpAnyH_take (i := 0) (v := ?_) rfl (by decide +kernel) (by decide +kernel) (by decide +kernel) (fun _ _ _ h => h) (Or.inl ⟨by rfl, ?hy⟩) hcur ?_
      case hy =>
        intro w1 hSw
        replace hSw : Below W.heap.size W w1 := hSw
        have x1 := (hSw.cell (p := ⟨bp, 0, none⟩) HBP.out.1).trans HBP.out.2
        have x2 := (hSw.cell (p := ⟨b, off + i * 15 + 7, none⟩) HXI.out.1).trans HXI.out.2.1
        have x3 := (hSw.cell (p := ⟨b, off + j * 15 + 7, none⟩) HXI.out.1).trans HXI.out.2.2
        go_simp
        (try with_reducible rfl)
      (try simp only [Act.put, List.getElem_toArray, List.getElem_cons_zero, List.getElem_cons_succ, List.setIfInBounds_toArray, List.set_cons_zero, List.set_cons_succ])
      refine wpAnyH_take (i := 1) (v := ?_) rfl (by decide +kernel) (by decide +kernel) (by decide +kernel) (fun _ _ _ h => h) (Or.inl ⟨by rfl, ?hy⟩) hcur ?_
      case hy =>
        intro w1 hSw
        replace hSw : Below W.heap.size W w1 := hSw
        have x1 := (hSw.cell (p := ⟨bp, 0, none⟩) HBP.out.1).trans HBP.out.2
        have x2 := (hSw.cell (p := ⟨b, off + i * 15 + 7, none⟩) HXI.out.1).trans HXI.out.2.1
        have x3 := (hSw.cell (p := ⟨b, off + j * 15 + 7, none⟩) HXI.out.1).trans HXI.out.2.2
        go_simp
        (try with_reducible rfl)
      (try simp only [Act.put, List.getElem_toArray, List.getElem_cons_zero, List.getElem_cons_succ, List.setIfInBounds_toArray, List.set_cons_zero, List.set_cons_succ])
      refine wpAnyH_take (i := 2) (v := ?_) rfl (by decide +kernel) (by decide +kernel) (by decide +kernel) (fun _ _ _ h => h) (Or.inl ⟨by rfl, ?hy⟩) hcur ?_
      case hy =>
        intro w1 hSw
        replace hSw : Below W.heap.size W w1 := hSw
        have x1 := (hSw.cell (p := ⟨bp, 0, none⟩) HBP.out.1).trans HBP.out.2
        have x2 := (hSw.cell (p := ⟨b, off + i * 15 + 7, none⟩) HXI.out.1).trans HXI.out.2.1
        have x3 := (hSw.cell (p := ⟨b, off + j * 15 + 7, none⟩) HXI.out.1).trans HXI.out.2.2
        go_simp
        (try with_reducible rfl)
      (try simp only [Act.put, List.getElem_toArray, List.getElem_cons_zero, List.getElem_cons_succ, List.setIfInBounds_toArray, List.set_cons_zero, List.set_cons_succ])
      refine wpAnyH_take (i := 3) (v := ?_) rfl (by decide +kernel) (by decide +kernel) (by decide +kernel) (fun _ _ _ h => h) (Or.inl ⟨by rfl, ?hy⟩) hcur ?_
      case hy =>
        intro w1 hSw
        replace hSw : Below W.heap.size W w1 := hSw
        have x1 := (hSw.cell (p := ⟨bp, 0, none⟩) HBP.out.1).trans HBP.out.2
        have x2 := (hSw.cell (p := ⟨b, off + i * 15 + 7, none⟩) HXI.out.1).trans HXI.out.2.1
        have x3 := (hSw.cell (p := ⟨b, off + j * 15 + 7, none⟩) HXI.out.1).trans HXI.out.2.2
        go_simp
        (try with_reducible rfl)
      (try simp only [Act.put, List.getElem_toArray, List.getElem_cons_zero, List.getElem_cons_succ, List.setIfInBounds_toArray, List.set_cons_zero, List.set_cons_succ])
      refine wpAnyH_take (i := 4) (v := ?_) rfl (by decide +kernel) (by decide +kernel) (by decide +kernel) (fun _ _ _ h => h) (Or.inl ⟨by rfl, ?hy⟩) hcur ?_
      case hy =>
        intro w1 hSw
        replace hSw : Below W.heap.size W w1 := hSw
        have x1 := (hSw.cell (p := ⟨bp, 0, none⟩) HBP.out.1).trans HBP.out.2
        have x2 := (hSw.cell (p := ⟨b, off + i * 15 + 7, none⟩) HXI.out.1).trans HXI.out.2.1
        have x3 := (hSw.cell (p := ⟨b, off + j * 15 + 7, none⟩) HXI.out.1).trans HXI.out.2.2
        go_simp
        (try with_reducible rfl)
      (try simp only [Act.put, List.getElem_toArray, List.getElem_cons_zero, List.getElem_cons_succ, List.setIfInBounds_toArray, List.set_cons_zero, List.set_cons_succ])
      refine wpAnyH_take (i := 5) (v := ?_) rfl (by decide +kernel) (by decide +kernel) (by decide +kernel) (fun _ _ _ h => h) (Or.inl ⟨by rfl, ?hy⟩) hcur ?_
      case hy =>
        intro w1 hSw
        replace hSw : Below W.heap.size W w1 := hSw
        have x1 := (hSw.cell (p := ⟨bp, 0, none⟩) HBP.out.1).trans HBP.out.2
        have x2 := (hSw.cell (p := ⟨b, off + i * 15 + 7, none⟩) HXI.out.1).trans HXI.out.2.1
        have x3 := (hSw.cell (p := ⟨b, off + j * 15 + 7, none⟩) HXI.out.1).trans HXI.out.2.2
        go_simp
        (try with_reducible rfl)
      (try simp only [Act.put, List.getElem_toArray, List.getElem_cons_zero, List.getElem_cons_succ, List.setIfInBounds_toArray, List.set_cons_zero, List.set_cons_succ])
      refine wpAnyH_take (i := 6) (v := ?_) rfl (by decide +kernel) (by decide +kernel) (by decide +kernel) (fun _ _ _ h => h) (Or.inl ⟨by rfl, ?hy⟩) hcur ?_
      case hy =>
        intro w1 hSw
        replace hSw : Below W.heap.size W w1 := hSw
        have x1 := (hSw.cell (p := ⟨bp, 0, none⟩) HBP.out.1).trans HBP.out.2
        have x2 := (hSw.cell (p := ⟨b, off + i * 15 + 7, none⟩) HXI.out.1).trans HXI.out.2.1
        have x3 := (hSw.cell (p := ⟨b, off + j * 15 + 7, none⟩) HXI.out.1).trans HXI.out.2.2
        go_simp
        (try with_reducible rfl)
      (try simp only [Act.put, List.getElem_toArray, List.getElem_cons_zero, List.getElem_cons_succ, List.setIfInBounds_toArray, List.set_cons_zero, List.set_cons_succ])
      refine wpAnyH_take (i := 7) (v := ?_) rfl (by decide +kernel) (by decide +kernel) (by decide +kernel) (fun _ _ _ h => h) (Or.inl ⟨by rfl, ?hy⟩) hcur ?_
      case hy =>
        intro w1 hSw
        replace hSw : Below W.heap.size W w1 := hSw
        have x1 := (hSw.cell (p := ⟨bp, 0, none⟩) HBP.out.1).trans HBP.out.2
        have x2 := (hSw.cell (p := ⟨b, off + i * 15 + 7, none⟩) HXI.out.1).trans HXI.out.2.1
        have x3 := (hSw.cell (p := ⟨b, off + j * 15 + 7, none⟩) HXI.out.1).trans HXI.out.2.2
        go_simp
        (try with_reducible rfl)
      (try simp only [Act.put, List.getElem_toArray, List.getElem_cons_zero, List.getElem_cons_succ, List.setIfInBounds_toArray, List.set_cons_zero, List.set_cons_succ])
      refine wpAnyH_take (i := 8) (v := ?_) rfl (by decide +kernel) (by decide +kernel) (by decide +kernel) (fun _ _ _ h => h) (Or.inl ⟨by rfl, ?hy⟩) hcur ?_
      case hy =>
        intro w1 hSw
        replace hSw : Below W.heap.size W w1 := hSw
        have x1 := (hSw.cell (p := ⟨bp, 0, none⟩) HBP.out.1).trans HBP.out.2
        have x2 := (hSw.cell (p := ⟨b, off + i * 15 + 7, none⟩) HXI.out.1).trans HXI.out.2.1
        have x3 := (hSw.cell (p := ⟨b, off + j * 15 + 7, none⟩) HXI.out.1).trans HXI.out.2.2
        go_simp
        (try with_reducible rfl)
      (try simp only [Act.put, List.getElem_toArray, List.getElem_cons_zero, List.getElem_cons_succ, List.setIfInBounds_toArray, List.set_cons_zero, List.set_cons_succ])
      refine wpAnyH_take (i := 9) (v := ?_) rfl (by decide +kernel) (by decide +kernel) (by decide +kernel) (fun _ _ _ h => h) (Or.inl ⟨by rfl, ?hy⟩) hcur ?_
      case hy =>
        intro w1 hSw
        replace hSw : Below W.heap.size W w1 := hSw
        have x1 := (hSw.cell (p := ⟨bp, 0, none⟩) HBP.out.1).trans HBP.out.2
        have x2 := (hSw.cell (p := ⟨b, off + i * 15 + 7, none⟩) HXI.out.1).trans HXI.out.2.1
        have x3 := (hSw.cell (p := ⟨b, off + j * 15 + 7, none⟩) HXI.out.1).trans HXI.out.2.2
        go_simp
        (try with_reducible rfl)
      (try simp only [Act.put, List.getElem_toArray, List.getElem_cons_zero, List.getElem_cons_succ, List.setIfInBounds_toArray, List.set_cons_zero, List.set_cons_succ])
      refine wpAnyH_take (i := 10) (v := ?_) rfl (by decide +kernel) (by decide +kernel) (by decide +kernel) (fun _ _ _ h => h) (Or.inl ⟨by rfl, ?hy⟩) hcur ?_
      case hy =>
        intro w1 hSw
        go_simp
        (try with_reducible rfl)
      (try simp only [Act.put, List.getElem_toArray, List.getElem_cons_zero, List.getElem_cons_succ, List.setIfInBounds_toArray, List.set_cons_zero, List.set_cons_succ])
      refine wpAnyH_take (i := 11) (v := ?_) rfl (by decide +kernel) (by decide +kernel) (by decide +kernel) (fun _ _ _ h => h) (Or.inl ⟨by rfl, ?hy⟩) hcur ?_
      case hy =>
        intro w1 hSw
        go_simp
        (try with_reducible rfl)
      (try simp only [Act.put, List.getElem_toArray, List.getElem_cons_zero, List.getElem_cons_succ, List.setIfInBounds_toArray, List.set_cons_zero, List.set_cons_succ])
      refine wpAnyH_done (by decide +kernel) ?_ _
      have HB2 := Lib.hid hcur
      clear hcur
      go_wp2_with fail
      go_ret
      exact ⟨0, rfl, ⟨fun q => absurd q (by decide), fun q => absurd q (by omega)⟩, HB2.out⟩

/-- The comparison that Order hands over. -/
theorem cmpI_any (W0 : World) (g N bp b off c : Nat) (xs : List CallD) (hl : xs.length ≤ 1000) (hN : N = (plN xs xs.length).length) (hbp : bp < W0.heap.size ∧ bp ≠ g ∧ W0.cell? ⟨bp, 0, none⟩ = some (.slice (some ⟨b, off, none⟩) xs.length c)) (hb : b < W0.heap.size ∧ b ≠ g) (hx : ∀ i, i < xs.length → W0.cell? ⟨b, off + i * 15 + 7, none⟩ = some (.int .i64 (dnAt xs i))) :
    CmpI W0 g N bp (fun x => (plAt xs x : Int)) (fun x => dnAt xs (plAt xs x)) := fun x y W hyx hxN hW => by
  have hx1 : plAt xs x < xs.length := plAt_lt (by omega)
  have hy1 : plAt xs y < xs.length := plAt_lt (by omega)
  refine (ordcmp_any b off xs.length c bp (plAt xs x) (plAt xs y) (dnAt xs (plAt xs x)) (dnAt xs (plAt xs y)) W ⟨Nat.lt_of_lt_of_le hbp.1 hW.size, (hW.cell (p := ⟨bp, 0, none⟩) hbp.1 hbp.2.1).trans hbp.2.2⟩
    ⟨Nat.lt_of_lt_of_le hb.1 hW.size, (hW.cell (p := ⟨b, _, none⟩) hb.1 hb.2).trans (hx _ hx1), (hW.cell (p := ⟨b, _, none⟩) hb.1 hb.2).trans (hx _ hy1)⟩ hx1 hy1 hl).mono ?_
  rintro e w' ⟨v, rfl, hv, hbe⟩
  exact ⟨v, rfl, by rw [hv, lx_right (key := fun x => dnAt xs (plAt xs x)) hyx], hbe⟩

/-- What Order hands back. -/
def OrdTo (xs : List CallD) (w : World) (e : Ending) (w' : World) : Prop :=
  ∃ (A' : Option Addr) (c' : Nat) (p : Nat → Nat), e = .returned (.slice A' (plN xs xs.length).length c') ∧ RdI w' A' (plN xs xs.length).length (tab (plN xs xs.length).length fun k => (plAt xs (p k) : Int)) ∧
    PermOn 0 (plN xs xs.length).length (fun k => k) p ∧ Srt (fun x => dnAt xs (plAt xs x)) p 0 (plN xs xs.length).length ∧ Below w.heap.size w w'

set_option maxRecDepth 100000 in
set_option maxHeartbeats 16000000 in
theorem order_any (A : Option Addr) (c : Nat) (xs : List CallD) (w : World) (h : Cls w A xs.length xs) (hl : xs.length ≤ 1000) :
    Calls Try.prog 68 #[.slice A xs.length c] w (OrdTo xs w) := by
  have HH := Lib.hid h
  have hO := (((Ow.start (Sx.start0 w)).alloc (.cells #[.slice A xs.length c] 67))).nil 3 1
  simp only [List.nil_append] at hO
  have HO := Lib.hid hO
  clear h hO
  go_enter Try.func68, Try.ntmps68
  go_upto_region 1 with fail
  obtain ⟨bp, hbp⟩ : ∃ bp, bp = w.heap.size := ⟨_, rfl⟩
  have hHO := HO.out
  clear HO
  rw [← hbp] at hHO ⊢
  have HBP := Lib.hid hbp
  clear hbp
  generalize w.alloc _ = W1 at hHO ⊢
  have HO := Lib.hid hHO
  have q0 := one_cellv (HO.out.sx.has 0 _ _ rfl).1
  clear hHO
  go_wp2_with fail
  go_loopw [2, 3, 4, 7] (fun v _ _ i wr => ∃ (j m : Nat) (A1 : Option Addr) (c1 : Nat), i = .int .i64 j ∧ v = .slice A1 m c1 ∧ Hid (j ≤ xs.length ∧ m = (plN xs j).length ∧ m ≤ j ∧
    Ow bp w wr [(bp, .cells #[.slice A xs.length c] 67)] [⟨3, 1, .slice A1 m c1, m, i64s (ints (plN xs j))⟩])) (fun _ _ _ i _ => xs.length - (intOf i).toNat)
  case atStart => exact ⟨0, 0, none, 0, rfl, rfl, Nat.zero_le _, rfl, Nat.le_refl _, HO.out⟩
  case round =>
    obtain ⟨j, m, A1, c1, rfl, rfl, H⟩ := hrel
    clear HO q0
    by_cases hlt : j < xs.length
    · obtain ⟨b, off, _, hA, hbw, _, _⟩ := HH.out.at_ hlt
      subst hA
      have HBL := Lib.hid hbw
      have HCJ := Lib.hid (HH.out.get hlt).2.2
      have HT := Lib.hid (plN_succ xs j)
      have HDN := Lib.hid (dnAt_at hlt)
      have HO := Lib.hid H.out.2.2.2
      have HM := Lib.hid (And.intro H.out.2.1 H.out.2.2.1)
      clear H hbw
      generalize xs[j] = x at HCJ HDN
      rw [show dnAt xs j = x.done from HDN.out] at HT
      obtain ⟨x0, x1, x2, x3, x4, x5, x6, x7, x8, x9, x10, x11, x12, x13, x14⟩ := CallAt.moved HCJ.out (HBP.out ▸ HO.out.below) HBL.out
      have hm : m ≤ 1000 := by have := HM.out; omega
      have hn := CallAt.new wr x 71
      have hOw := HO.out.call (below_alloc wr (.cells (callCells x) 71))
      simp only [callCells] at hn hOw
      go_upto_region 4 with fail
      clear x0 x1 x2 x3 x4 x5 x6 x7 x8 x9 x10 x11 x12 x13 x14
      generalize wr.alloc _ = W2 at hn hOw ⊢
      generalize wr.heap.size = g at hn ⊢
      clear HO
      obtain ⟨x0, x1, x2, x3, x4, x5, x6, x7, x8, x9, x10, x11, x12, x13, x14⟩ := hn
      simp only [Nat.zero_add] at x0 x1 x2 x3 x4 x5 x6 x7 x8 x9 x10 x11 x12 x13 x14
      clear x0 x1 x2 x3 x4 x5 x6 x8 x9 x10 x11 x12 x13 x14
      obtain ⟨A2, c2, W3, hrun, hc2, hO2⟩ := hOw.pushI 0 rfl (j : Int) (by omega)
      simp only [List.set_cons_zero] at hO2
      by_cases ht : (x.done != -1) = true
      · have HN := Lib.hid (And.intro (HT.out.trans (by rw [if_pos ht])) hO2)
        have Hrun := Lib.hid hrun
        clear hOw hO2 hrun HT
        go_wp2_with (at_builtin; refine wpList_append_run rfl (.tmp 15) (.tmp 17) 90 rfl rfl rfl Hrun.out ?_)
        go_roundw
        case rel => exact ⟨j + 1, m + 1, A2, c2, by go_num, rfl, by omega, by rw [HN.out.1, List.length_append, ← HM.out.1]; rfl, by have := HM.out; omega, by rw [HN.out.1, ints_app]; exact HN.out.2⟩
        case measure => simp [intOf]; omega
      · have ht2 : (x.done != -1) = false := by simpa using ht
        have HN := Lib.hid (And.intro (HT.out.trans (by rw [if_neg ht, List.append_nil])) hOw)
        clear hOw hO2 hrun HT ht
        go_wp2_with fail
        go_roundw
        case rel => exact ⟨j + 1, m, A1, c1, by go_num, rfl, by omega, by rw [HN.out.1]; exact HM.out.1, by have := HM.out; omega, by rw [HN.out.1]; exact HN.out.2⟩
        case measure => simp [intOf]; omega
    · obtain rfl : j = xs.length := by have := H.out.1; omega
      obtain ⟨N, hN⟩ : ∃ N, N = (plN xs xs.length).length := ⟨_, rfl⟩
      have hmN : m = N := by rw [hN]; exact H.out.2.1
      subst hmN
      have HO := Lib.hid H.out.2.2.2
      have HNN := Lib.hid hN
      have hml : m ≤ 1000 := by have := H.out.2.2.1; omega
      clear H hN
      rcases (HO.out.own 0 _ rfl).2 with ⟨hv, hm0⟩ | ⟨g, cap, cur, hv, hBg, hg, hnc, hcm, hcs, htk⟩
      · simp only [] at hv hm0
        subst hm0
        injection hv with e1 e2 e3
        subst e1; subst e3
        clear e2
        go_wp2_with fail
        refine (sortstable0_int _ _).mono ?_
        rintro e w6 ⟨rfl, rfl⟩
        have HR := Lib.hid (show OrdTo xs w (.returned (.slice none 0 0)) _ from ⟨none, 0, fun k => k, by rw [← HNN.out], by rw [← HNN.out]; exact Rd.nil _ _ _ _, PermOn.refl _ _ _, (by rw [← HNN.out]; intro i j _ _ q; omega), HBP.out ▸ HO.out.below⟩)
        go_wp2_with fail
        go_ret
        exact HR.out
      · simp only [] at hv
        injection hv with e1 e2 e3
        subst e1; subst e3
        clear e2
        have hST : StR wr wr g 3 1 m c1 (enI (fun x => (plAt xs x : Int))) (fun k => k) := StR.of_own hg hnc hcs htk (fun _ => rfl) (fun k hk q v hq => by
          rcases q with _ | q
          · injection hq with hq
            subst hq
            rw [Nat.mul_one, Nat.add_zero]
            unfold i64s
            rw [List.getElem?_map, plAt_get (by rw [← HNN.out]; exact hk)]
            rfl
          · simp [enI] at hq) hBg
        have hbpf : bp < wr.heap.size ∧ bp ≠ g ∧ wr.cell? ⟨bp, 0, none⟩ = some (.slice A xs.length c) := ⟨HO.out.sx.lt (i := 0) rfl, HO.out.nl 0 0 g _ _ rfl rfl rfl, one_cellv (HO.out.sx.has 0 _ _ rfl).1⟩
        have hCI : CmpI wr g m bp (fun x => (plAt xs x : Int)) (fun x => dnAt xs (plAt xs x)) := by
          rcases Nat.eq_zero_or_pos m with h0 | h0
          · intro x y W hyx hx
            omega
          · have hxl : 0 < xs.length := by
              have := plN_le xs xs.length
              rw [← HNN.out] at this
              omega
            obtain ⟨b, off, _, hA, hbw, _, _⟩ := HH.out.at_ hxl
            subst hA
            refine cmpI_any wr g m bp b off c xs hl HNN.out hbpf ⟨Nat.lt_of_lt_of_le hbw (by rw [← HBP.out]; exact HO.out.sx.le), by have := HBP.out; omega⟩ (fun i hi => ?_)
            have h9 := CallAt.moved (HH.out.get hi).2.2 (HBP.out ▸ HO.out.below) hbw
            rw [dnAt_at hi]
            exact h9.2.2.2.2.2.2.2.1
        have HSO := Lib.hid (sortstable_int wr g m c1 bp (fun x => (plAt xs x : Int)) (fun x => dnAt xs (plAt xs x)) wr hCI hST hml)
        have HBG := Lib.hid (And.intro HO.out.below (And.intro HO.out.sx.le hBg))
        clear hbpf hCI hST hBg hg hnc hcm hcs htk HO
        go_wp2_with fail
        refine HSO.out.mono ?_
        rintro e w6 ⟨rfl, p, h2, h3, h4⟩
        have HR := Lib.hid (show OrdTo xs w (.returned (.slice (some ⟨g, 0, none⟩) m c1)) w6 from ⟨some ⟨g, 0, none⟩, c1, p, by rw [← HNN.out], by rw [← HNN.out]; exact h2.rdI, by rw [← HNN.out]; exact h3, by rw [← HNN.out]; exact h4, by rw [← HBP.out]; exact h2.off.below HBG.out.1 HBG.out.2.1 (fun q hq e => by have := HBG.out.2.2; omega)⟩)
        clear h2 h3 h4
        go_wp2_with fail
        go_ret
        exact HR.out

end Go.Proofs.Ythbafbgnclpbpaa

namespace Go.Proofs.Ythbafbgnclpbpaa
open Go.RowKit

theorem Ow.strip {B : Nat} {W0 W : World} {L : List (Nat × Obj)} {R : List RowT} (h : Ow B W0 W L R) : Ow B W0 W [] R :=
  ⟨⟨h.sx.below, h.sx.le, fun i g o q => by simp at q, fun i j p q _ r => by simp at r⟩, h.own, h.ne, fun i j k r p _ _ q => by simp at q⟩
/-- An invocation, and a response. -/
def askE (x : CallD) : EvD := ⟨x.since, x.thread, 1, x.op.kind, x.op.key, x.op.upto, x.op.val, x.op.limit, 0, ⟨#[]⟩, 0, none, 0, 0⟩
def tellE (x : CallD) : EvD := ⟨x.upto, x.thread, 2, 0, ⟨#[]⟩, ⟨#[]⟩, 0, 0, x.ans.code, x.ans.key, x.ans.val, x.pa, x.ans.pairs.length, x.pc⟩
def askL (xs : List CallD) (j : Nat) : List EvD := (xs.take j).map askE
def tellL (xs : List CallD) (j : Nat) : List EvD := ((xs.take j).filter fun x => x.upto != -1).map tellE
def evAll (xs : List CallD) : List EvD := askL xs xs.length ++ tellL xs xs.length
theorem askL_succ {xs : List CallD} {j : Nat} (h : j < xs.length) : askL xs (j + 1) = askL xs j ++ [askE xs[j]] := by
  unfold askL
  rw [List.take_add_one, List.getElem?_eq_getElem h, Option.toList, List.map_append]
  rfl
theorem tellL_succ {xs : List CallD} {j : Nat} (h : j < xs.length) : tellL xs (j + 1) = tellL xs j ++ if (xs[j].upto != -1) = true then [tellE xs[j]] else [] := by
  unfold tellL
  rw [List.take_add_one, List.getElem?_eq_getElem h, Option.toList, List.filter_append, List.map_append]
  congr 1
  by_cases e : (xs[j].upto != -1) = true
  · rw [if_pos e]; simp only [List.filter_cons, List.filter_nil, e, if_true, List.map_cons, List.map_nil]
  · rw [if_neg e]; simp only [List.filter_cons, List.filter_nil, e, if_false, Bool.false_eq_true, List.map_nil]
theorem askL_le (xs : List CallD) (j : Nat) : (askL xs j).length ≤ j := by
  unfold askL
  rw [List.length_map, List.length_take]
  omega
theorem tellL_le (xs : List CallD) (j : Nat) : (tellL xs j).length ≤ j := by
  unfold tellL
  have := List.length_filter_le (fun x => x.upto != -1) (xs.take j)
  rw [List.length_map]
  rw [List.length_take] at this
  omega
/-- The x-th event. -/
def evX (xs : List CallD) (x : Nat) : EvD := (evAll xs).getD x evZ
theorem evX_at {xs : List CallD} {x : Nat} (h : x < (evAll xs).length) : (evAll xs)[x] = evX xs x := by
  unfold evX
  rw [List.getD_eq_getElem?_getD, List.getElem?_eq_getElem h]
  rfl
theorem askL_kind {xs : List CallD} {j : Nat} {y : EvD} (h : y ∈ askL xs j) : y.kind = 1 := by
  unfold askL at h
  rw [List.mem_map] at h
  obtain ⟨z, _, hz⟩ := h
  rw [← hz]
  rfl
theorem tellL_kind {xs : List CallD} {j : Nat} {y : EvD} (h : y ∈ tellL xs j) : y.kind = 2 := by
  unfold tellL at h
  rw [List.mem_map] at h
  obtain ⟨z, _, hz⟩ := h
  rw [← hz]
  rfl
theorem app_kind (ls ts : List EvD) (ha : ∀ y ∈ ls, y.kind = 1) (ht : ∀ y ∈ ts, y.kind = 2) {x : Nat} (h : x < (ls ++ ts).length) : (ls ++ ts)[x].kind = if x < ls.length then 1 else 2 := by
  by_cases e : x < ls.length
  · rw [if_pos e, List.getElem_append_left e]
    exact ha _ (List.getElem_mem e)
  · rw [if_neg e, List.getElem_append_right (by omega)]
    exact ht _ (List.getElem_mem _)
theorem evAll_kind {xs : List CallD} {x : Nat} (h : x < (evAll xs).length) : (evX xs x).kind = if x < (askL xs xs.length).length then 1 else 2 := by
  rw [← evX_at h]
  exact app_kind _ _ (fun y hy => askL_kind hy) (fun y hy => tellL_kind hy) h
theorem evAll_kinds {xs : List CallD} {x y : Nat} (hyx : y < x) (hx : x < (evAll xs).length) : 1 ≤ (evX xs y).kind ∧ (evX xs y).kind ≤ (evX xs x).kind ∧ (evX xs x).kind ≤ 2 := by
  rw [evAll_kind hx, evAll_kind (x := y) (by omega)]
  repeat' split
  all_goals omega

theorem StR.rdE {W0 w : World} {g n cap : Nat} {T : TypeId} {E : Nat → EvD} {p : Nat → Nat} (h : StR W0 w g T 12 n cap (enE E) p) : RdE w (some ⟨g, 0, none⟩) n (tab n fun k => E (p k)) := by
  refine ⟨by rw [evRow_length, tab_length], fun _ => ⟨g, 0, rfl, h.lt, fun j u hu => ?_⟩⟩
  have hj : j < n * 12 := by
    have := (List.getElem?_eq_some_iff.1 hu).1
    rw [evRow_length, tab_length] at this
    exact this
  have hk : j / 12 < n := by omega
  have hq : j % 12 < 12 := Nat.mod_lt _ (by omega)
  have e : j = (j / 12) * 12 + j % 12 := by omega
  have hv : ∃ v, (evCells (E (p (j / 12))))[j % 12]? = some v := ⟨(evCells (E (p (j / 12))))[j % 12]'(by show j % 12 < 12; exact hq), List.getElem?_eq_getElem _⟩
  obtain ⟨v, hv⟩ := hv
  have h1 := evRow_at (tab n fun k => E (p k)) (j / 12) (by rw [tab_length]; exact hk) (j % 12) v (by rw [tab_elem]; exact hv)
  rw [← e, hu] at h1
  injection h1 with h1
  rw [Nat.zero_add, h1]
  have h2 := (h.cellE hk hv).1
  rw [← e] at h2
  exact h2

/-- What Events hands back. -/
def EvsTo (xs : List CallD) (w : World) (e : Ending) (w' : World) : Prop :=
  ∃ (A' : Option Addr) (c' : Nat) (p : Nat → Nat), e = .returned (.slice A' (evAll xs).length c') ∧ RdE w' A' (evAll xs).length (tab (evAll xs).length fun k => evX xs (p k)) ∧
    PermOn 0 (evAll xs).length (fun k => k) p ∧ Srt (fun x => (evX xs x).step) p 0 (evAll xs).length ∧ Below w.heap.size w w'

set_option maxRecDepth 100000 in
set_option maxHeartbeats 16000000 in
theorem events_any (A : Option Addr) (c : Nat) (xs : List CallD) (w : World) (h : Cls w A xs.length xs) (hl : xs.length ≤ 400) :
    Calls Try.prog 69 #[.slice A xs.length c] w (EvsTo xs w) := by
  have HH := Lib.hid h
  have hO := ((Ow.start (Sx.start0 w)).nil 93 12).nil 93 12
  simp only [List.nil_append, List.cons_append] at hO
  have HO := Lib.hid hO
  clear h hO
  go_enter Try.func69, Try.ntmps69
  go_wp2_with fail
  go_loopw [3, 4, 6, 11] (fun va vt _ i wr => ∃ (j m1 m2 : Nat) (A1 A2 : Option Addr) (c1 c2 : Nat), i = .int .i64 j ∧ va = .slice A1 m1 c1 ∧ vt = .slice A2 m2 c2 ∧ Hid (j ≤ xs.length ∧ m1 = (askL xs j).length ∧ m2 = (tellL xs j).length ∧
    Ow w.heap.size w wr [] [⟨93, 12, .slice A1 m1 c1, m1, evRow (askL xs j)⟩, ⟨93, 12, .slice A2 m2 c2, m2, evRow (tellL xs j)⟩])) (fun _ _ _ i _ => xs.length - (intOf i).toNat)
  case atStart => exact ⟨0, 0, 0, none, none, 0, 0, rfl, rfl, rfl, Nat.zero_le _, rfl, rfl, HO.out⟩
  case round =>
    obtain ⟨j, m1, m2, A1, A2, c1, c2, rfl, rfl, rfl, H⟩ := hrel
    clear HO
    by_cases hlt : j < xs.length
    · obtain ⟨b, off, _, hA, hbw, _, _⟩ := HH.out.at_ hlt
      subst hA
      have HBL := Lib.hid hbw
      have HCJ := Lib.hid (HH.out.get hlt).2.2
      have HT1 := Lib.hid (askL_succ hlt)
      have HT2 := Lib.hid (tellL_succ hlt)
      have hm1 : m1 ≤ 1000 := by have := H.out.2.1; have := askL_le xs j; omega
      have hm2 : m2 ≤ 1000 := by have := H.out.2.2.1; have := tellL_le xs j; omega
      have HO := Lib.hid H.out.2.2.2
      have HM := Lib.hid (And.intro H.out.2.1 H.out.2.2.1)
      clear H hbw
      generalize xs[j] = x at HCJ HT1 HT2
      obtain ⟨x0, x1, x2, x3, x4, x5, x6, x7, x8, x9, x10, x11, x12, x13, x14⟩ := CallAt.moved HCJ.out HO.out.below HBL.out
      have hOw := HO.out.alloc (.cells (callCells x) 71)
      simp only [callCells, List.nil_append] at hOw
      go_upto_region 5 with fail
      clear x0 x1 x2 x3 x4 x5 x6 x7 x8 x9 x10 x11 x12 x13 x14
      generalize wr.alloc _ = W2 at hOw ⊢
      generalize wr.heap.size = g at hOw ⊢
      clear HO
      obtain ⟨x0, x1, x2, x3, x4, x5, x6, x7, x8, x9, x10, x11, x12, x13, x14⟩ := call15 (hOw.sx.has 0 _ _ rfl).1
      obtain ⟨A3, c3, W3, hrun, _, hO2⟩ := hOw.pushE 0 rfl (askE x) (by omega)
      simp only [List.set_cons_zero] at hO2
      simp only [evCells, askE] at hrun
      have HO2 := Lib.hid (show Ow w.heap.size w W3 _ [⟨93, 12, .slice A3 (m1 + 1) c3, m1 + 1, evRow (askL xs (j + 1))⟩, ⟨93, 12, .slice A2 m2 c2, m2, evRow (tellL xs j)⟩] by rw [HT1.out]; exact hO2)
      have Hrun := Lib.hid hrun
      clear hOw hO2 hrun
      go_upto_region 6 with (at_builtin; refine wpList_append_run rfl (.tmp 15) (.tmp 23) 91 rfl rfl rfl Hrun.out ?_)
      clear x0 x1 x2 x3 x4 x5 x6 x7 x8 x9 x10 x11 x12 x13 x14 Hrun
      obtain ⟨x0, x1, x2, x3, x4, x5, x6, x7, x8, x9, x10, x11, x12, x13, x14⟩ := call15 (HO2.out.sx.has 0 _ _ rfl).1
      obtain ⟨A4, c4, W4, hrun, _, hO3⟩ := HO2.out.pushE 1 rfl (tellE x) (by omega)
      simp only [List.set_cons_zero, List.set_cons_succ] at hO3
      simp only [evCells, tellE] at hrun
      by_cases ht : (x.upto != -1) = true
      · have HN := Lib.hid (And.intro (HT2.out.trans (by rw [if_pos ht])) hO3.strip)
        have Hrun := Lib.hid hrun
        clear hO3 hrun HT2 HO2
        go_wp2_with (at_builtin; refine wpList_append_run rfl (.tmp 28) (.tmp 36) 91 rfl rfl rfl Hrun.out ?_)
        go_roundw
        case rel => exact ⟨j + 1, m1 + 1, m2 + 1, A3, A4, c3, c4, by go_num, rfl, rfl, by omega, by rw [HT1.out, List.length_append, ← HM.out.1]; rfl, by rw [HN.out.1, List.length_append, ← HM.out.2]; rfl, by rw [HN.out.1]; exact HN.out.2⟩
        case measure => simp [intOf]; omega
      · have ht2 : (x.upto != -1) = false := by simpa using ht
        have HN := Lib.hid (And.intro (HT2.out.trans (by rw [if_neg ht, List.append_nil])) HO2.out.strip)
        clear hO3 hrun HT2 HO2 ht
        go_wp2_with fail
        go_roundw
        case rel => exact ⟨j + 1, m1 + 1, m2, A3, A2, c3, c2, by go_num, rfl, rfl, by omega, by rw [HT1.out, List.length_append, ← HM.out.1]; rfl, by rw [HN.out.1]; exact HM.out.2, by rw [HN.out.1]; exact HN.out.2⟩
        case measure => simp [intOf]; omega
    · obtain rfl : j = xs.length := by have := H.out.1; omega
      have HO := Lib.hid H.out.2.2.2
      have HM := Lib.hid (And.intro H.out.2.1 H.out.2.2.1)
      have hm1 : m1 ≤ 400 := by have := H.out.2.1; have := askL_le xs xs.length; omega
      have hm2 : m2 ≤ 400 := by have := H.out.2.2.1; have := tellL_le xs xs.length; omega
      obtain ⟨N, hN⟩ : ∃ N, N = (evAll xs).length := ⟨_, rfl⟩
      have hmN : m1 + m2 = N := by rw [hN, H.out.2.1, H.out.2.2.1]; unfold evAll; rw [List.length_append]
      have HNN := Lib.hid hN
      clear H hN
      have hw := HO.out.call (below_alloc wr (.cells #[.slice A1 m1 c1, .slice A2 m2 c2] 91))
      have HJ := Lib.hid (fun (vb : Nat) (cc : Nat) (W : World) (h0 : W.cell? ⟨vb, 0, none⟩ = some (.slice A1 m1 c1)) (h1 : W.cell? ⟨vb, 1, none⟩ = some (.slice A2 m2 c2)) (hvb : vb < W.heap.size) (hO : Ow w.heap.size w W [] [⟨93, 12, .slice A1 m1 c1, m1, evRow (askL xs xs.length)⟩, ⟨93, 12, .slice A2 m2 c2, m2, evRow (tellL xs xs.length)⟩]) => join_any vb A1 A2 m1 c1 m2 c2 cc _ _ W h0 h1 hvb (RdE.of_own (hO.own 0 _ rfl)) (RdE.of_own (hO.own 1 _ rfl)) (by omega))
      have hn := heap_alloc_new wr (.cells #[.slice A1 m1 c1, .slice A2 m2 c2] 91)
      have hsz : wr.heap.size < (wr.alloc (.cells #[.slice A1 m1 c1, .slice A2 m2 c2] 91)).heap.size := by simp
      have h0 : (wr.alloc (.cells #[.slice A1 m1 c1, .slice A2 m2 c2] 91)).cell? ⟨wr.heap.size, 0, none⟩ = some (.slice A1 m1 c1) := new_cell wr _ _ 0 _ rfl
      have h1 : (wr.alloc (.cells #[.slice A1 m1 c1, .slice A2 m2 c2] 91)).cell? ⟨wr.heap.size, 1, none⟩ = some (.slice A2 m2 c2) := new_cell wr _ _ 1 _ rfl
      have HA := Lib.hid (And.intro h0 (And.intro h1 (And.intro hsz hw)))
      clear h0 h1 hsz hw hn
      go_wp2_with fail
      generalize wr.alloc _ = W2 at HA ⊢
      generalize wr.heap.size = vb at HA ⊢
      refine (HJ.out vb _ W2 HA.out.1 HA.out.2.1 HA.out.2.2.1 HA.out.2.2.2).mono ?_
      rintro e W3 ⟨A5, c5, rfl, hown, hb3⟩
      rw [hmN] at hown ⊢
      have hB3 : Below w.heap.size w W3 := below_of HA.out.2.2.2.below hb3
      have hle : w.heap.size ≤ W2.heap.size := HA.out.2.2.2.sx.le
      have HB3 := Lib.hid (And.intro hB3 (Nat.le_trans hle hb3.size))
      clear HJ HA
      rcases hown.2 with ⟨hv, hm0⟩ | ⟨g, cap, cur, hv, hBg, hg, hnc, hcm, hcs, htk⟩
      · subst hm0
        injection hv with e1 e2 e3
        subst e1; subst e3
        clear e2 hown hb3 hB3 hle
        go_wp2_with fail
        refine (sortstable0_ev _ _).mono ?_
        rintro e w6 ⟨rfl, rfl⟩
        have HR := Lib.hid (show EvsTo xs w (.returned (.slice none 0 0)) _ from ⟨none, 0, fun k => k, by rw [← HNN.out], by rw [← HNN.out]; exact Rd.nil _ _ _ _, PermOn.refl _ _ _, (by rw [← HNN.out]; intro i j _ _ q; omega), HB3.out.1⟩)
        go_wp2_with fail
        go_ret
        exact HR.out
      · injection hv with e1 e2 e3
        subst e1; subst e3
        clear e2
        have hST : StR W3 W3 g 93 12 N c5 (enE (fun x => evX xs x)) (fun k => k) := StR.of_own hg hnc hcs htk (fun _ => rfl) (fun k hk q v hq => by
          have hk2 : k < (evAll xs).length := by rw [← HNN.out]; exact hk
          exact evRow_at (evAll xs) k hk2 q v (by rw [evX_at hk2]; exact hq)) hBg
        have hCE : CmpE W3 g N 0 (fun x => evX xs x) (fun x => (evX xs x).step) := cmpE_any W3 g N (fun x => evX xs x) (fun x y hyx hx => evAll_kinds hyx (by rw [← HNN.out]; exact hx))
        have HSO := Lib.hid (sortstable_ev W3 g N c5 0 (fun x => evX xs x) (fun x => (evX xs x).step) W3 hCE hST (by omega))
        have HBG := Lib.hid (show w.heap.size ≤ g from Nat.le_trans hle hBg)
        clear hST hCE hBg hg hnc hcm hcs htk hown hb3 hB3 hle
        go_wp2_with fail
        refine HSO.out.mono ?_
        rintro e w6 ⟨rfl, p, h2, h3, h4⟩
        have HR := Lib.hid (show EvsTo xs w (.returned (.slice (some ⟨g, 0, none⟩) N c5)) w6 from ⟨some ⟨g, 0, none⟩, c5, p, by rw [← HNN.out], by rw [← HNN.out]; exact h2.rdE, by rw [← HNN.out]; exact h3, by rw [← HNN.out]; exact h4, h2.off.below HB3.out.1 HB3.out.2 (fun q hq e => by have := HBG.out; omega)⟩)
        clear h2 h3 h4
        go_wp2_with fail
        go_ret
        exact HR.out

end Go.Proofs.Ythbafbgnclpbpaa

namespace Go.Proofs.Ythbafbgnclpbpaa
open Go.RowKit

/-- When the calls that took effect did. -/
def atL (xs : List CallD) (j : Nat) : List Int := (plN xs j).map (dnAt xs)
theorem atL_succ (xs : List CallD) (j : Nat) : atL xs (j + 1) = atL xs j ++ if (dnAt xs j != -1) = true then [dnAt xs j] else [] := by
  unfold atL
  rw [plN_succ, List.map_append]
  congr 1
  split <;> rfl
theorem atL_length (xs : List CallD) (j : Nat) : (atL xs j).length = (plN xs j).length := by simp [atL]
theorem atL_get (xs : List CallD) (x : Nat) (h : x < (plN xs xs.length).length) : (atL xs xs.length).getD x 0 = dnAt xs (plAt xs x) := by
  unfold atL plAt
  simp [List.getD_eq_getElem?_getD, h]
def stepL (es : List EvD) : List Int := es.map (·.step)
theorem stepL_get {xs : List CallD} {x : Nat} (h : x < (evAll xs).length) : (stepL (evAll xs)).getD x 0 = (evX xs x).step := by
  rw [← evX_at h]
  unfold stepL
  simp [List.getD_eq_getElem?_getD, h]
theorem stepL_succ {es : List EvD} {j : Nat} (h : j < es.length) : stepL (es.take (j + 1)) = stepL (es.take j) ++ [es[j].step] := by
  unfold stepL
  rw [List.take_add_one, List.getElem?_eq_getElem h, Option.toList, List.map_append]
  rfl
theorem Srt.key {key key' : Nat → Int} {p : Nat → Nat} {n : Nat} (h : Srt key p 0 n) (hp : PermOn 0 n (fun k => k) p) (he : ∀ x, x < n → key x = key' x) : Srt key' p 0 n := fun i j h1 h2 h3 => by
  have := h i j h1 h2 h3
  have hi := permOn_id_lt hp i (by omega)
  have hj := permOn_id_lt hp j h3
  unfold lx at *
  rw [← he _ hi, ← he _ hj]
  exact this
/-- The pairs of an event's answer. -/
theorem ev_pairs {xs : List CallD} {w : World} (hp : ∀ x ∈ xs, Prs w x.pa x.ans.pairs.length x.ans.pairs) (hl : ∀ x ∈ xs, x.ans.pairs.length ≤ 9223372036854775807) {x : Nat} (h : x < (evAll xs).length) :
    ∃ a : AnsD, (evX xs x).code = a.code ∧ (evX xs x).akey = a.key ∧ (evX xs x).aval = a.val ∧ (evX xs x).pn = a.pairs.length ∧ Prs w (evX xs x).pa a.pairs.length a.pairs ∧ a.pairs.length ≤ 9223372036854775807 := by
  have hm : evX xs x ∈ evAll xs := by rw [← evX_at h]; exact List.getElem_mem h
  unfold evAll at hm
  rw [List.mem_append] at hm
  rcases hm with hm | hm
  · unfold askL at hm
    rw [List.mem_map] at hm
    obtain ⟨y, _, hy⟩ := hm
    rw [← hy]
    exact ⟨⟨0, ⟨#[]⟩, 0, []⟩, rfl, rfl, rfl, rfl, ⟨rfl, fun q => absurd q (Nat.lt_irrefl _)⟩, Nat.zero_le _⟩
  · unfold tellL at hm
    rw [List.mem_map] at hm
    obtain ⟨y, hym, hy⟩ := hm
    have hyx : y ∈ xs := List.mem_of_mem_take (List.mem_filter.1 hym).1
    rw [← hy]
    exact ⟨y.ans, rfl, rfl, rfl, rfl, hp y hyx, hl y hyx⟩

/-- A block of an event is a row of one. -/
theorem StR.of_block {w : World} {g : Nat} {T : TypeId} (z x : EvD) (h : w.heap[g]? = some (.cells (evCells z).toArray T (0, 0))) : StR w w g T 12 1 1 (enE (fun k => if k = 0 then z else x)) (fun _ => 0) := by
  refine ⟨Off.refl _ _, (Array.getElem?_eq_some_iff.1 h).1, ⟨evCells z, h, rfl, fun k hk q v hv => ?_⟩, Nat.le_refl _⟩
  obtain rfl : k = 0 := by omega
  rw [Nat.zero_mul, Nat.zero_add]
  exact hv
theorem exec_storeV {w : World} {g : Nat} {z x : EvD} (h : w.heap[g]? = some (.cells (evCells z).toArray 93 (0, 0))) {ev : Operand → Value} {t u : Operand} {oo : Oper} (ho : oo.op = .store 93 t u) (hv : ev t = .pointer (some ⟨g, 0, none⟩)) (hu : ev u = .agg (evCells x).toArray) :
    (execOp ev oo).run Try.prog w = .ok .skip (setL w g 0 (evCells x)) :=
  exec_storeE (StR.of_block z x h) (k := 0) (x := 1) (by omega) ho hv hu rfl
theorem put_all : ∀ (vs cs : List Value), cs.length = vs.length → putL cs 0 vs = vs := by
  intro vs cs h
  apply List.ext_getElem?
  intro q
  rcases Nat.lt_or_ge q vs.length with g | g
  · have := putL_in vs cs 0 q (by omega) g
    rwa [Nat.zero_add] at this
  · rw [List.getElem?_eq_none (by rw [putL_len]; omega), List.getElem?_eq_none g]
theorem setL_size (g : Nat) : ∀ (vs : List Value) (w : World) (o : Nat), (setL w g o vs).heap.size = w.heap.size
  | [], _, _ => rfl
  | v :: vs, w, o => by rw [setL, setL_size g vs]; simp [World.setCell]
/-- Both blocks are written. -/
theorem ev_two {w X : World} {B ga gb : Nat} {z1 z2 x : EvD} {T : TypeId} (hb : Below B w X) (hB : B ≤ X.heap.size) (ha : B ≤ ga) (hbb : B ≤ gb) (hne : ga ≠ gb) (h1 : X.heap[ga]? = some (.cells (evCells z1).toArray T (0, 0))) (h2 : X.heap[gb]? = some (.cells (evCells z2).toArray T (0, 0))) :
    Below B w (setL (setL X ga 0 (evCells x)) gb 0 (evCells x)) ∧ EvAt (setL (setL X ga 0 (evCells x)) gb 0 (evCells x)) ga 0 x ∧ EvAt (setL (setL X ga 0 (evCells x)) gb 0 (evCells x)) gb 0 x ∧ (setL (setL X ga 0 (evCells x)) gb 0 (evCells x)).heap.size = X.heap.size := by
  have ha1 := setL_heap ga T (evCells x) (evCells z1) X 0 h1
  have o1 := setL_off ga (evCells x) X 0
  have hgb : gb < X.heap.size := (Array.getElem?_eq_some_iff.1 h2).1
  have hga : ga < X.heap.size := (Array.getElem?_eq_some_iff.1 h1).1
  have h2' := (o1.block gb hgb (fun e => hne e.symm)).trans h2
  have hb1 := setL_heap gb T (evCells x) (evCells z2) (setL X ga 0 (evCells x)) 0 h2'
  have o2 := setL_off gb (evCells x) (setL X ga 0 (evCells x)) 0
  rw [put_all (evCells x) (evCells z1) rfl] at ha1
  rw [put_all (evCells x) (evCells z2) rfl] at hb1
  have ha2 := (o2.block ga (Nat.lt_of_lt_of_le hga o1.size) hne).trans ha1
  refine ⟨o2.below (o1.below hb hB (fun q hq e => by omega)) (Nat.le_trans hB o1.size) (fun q hq e => by omega), fun k v hk => ?_, fun k v hk => ?_, by rw [setL_size, setL_size]⟩
  · rw [Nat.zero_add, cell_of_row _ _ _ _ _ _ ha2]
    simpa using hk
  · rw [Nat.zero_add, cell_of_row _ _ _ _ _ _ hb1]
    simpa using hk
theorem ev_one {w X : World} {B ga : Nat} {x : EvD} (hb : Below B w X) (hB : B ≤ X.heap.size) (ha : B ≤ ga) : Below B w (setL X ga 0 (evCells x)) := (setL_off ga (evCells x) X 0).below hb hB (fun q hq e => by omega)
theorem exec_loadV {w : World} {g o : Nat} {x : EvD} (h : EvAt w g o x) {o' : Nat} {ev : Operand → Value} {t : Operand} {oo : Oper} (ho : oo.op = .load 93 t) (hv : ev t = .pointer (some ⟨g, o', none⟩)) (hoo : o' = o) :
    (execOp ev oo).run Try.prog w = .ok (.value (.agg (evCells x).toArray)) w := by
  subst hoo
  have x0 := h 0 _ rfl
  have x1 := h 1 _ rfl
  have x2 := h 2 _ rfl
  have x3 := h 3 _ rfl
  have x4 := h 4 _ rfl
  have x5 := h 5 _ rfl
  have x6 := h 6 _ rfl
  have x7 := h 7 _ rfl
  have x8 := h 8 _ rfl
  have x9 := h 9 _ rfl
  have x10 := h 10 _ rfl
  have x11 := h 11 _ rfl
  clear h
  rw [Nat.add_zero] at x0
  unfold execOp
  rw [ho]
  simp only [hv]
  go_simp
  rfl
theorem ev_second {X : World} {ga gb : Nat} {vs : List Value} {o : Obj} (h : X.heap[gb]? = some o) (hne : gb ≠ ga) : (setL X ga 0 vs).heap[gb]? = some o := ((setL_off ga vs X 0).block gb (Array.getElem?_eq_some_iff.1 h).1 hne).trans h
theorem ev_pair (X : World) (a b : Obj) : ((X.alloc a).alloc b).heap[X.heap.size]? = some a ∧ ((X.alloc a).alloc b).heap[X.heap.size + 1]? = some b ∧ ((X.alloc a).alloc b).heap.size = X.heap.size + 2 := by
  have h := Sx.start2 X a b
  exact ⟨(h.has 0 _ _ rfl).1, (h.has 1 _ _ rfl).1, by simp⟩
theorem ev_put {w X : World} {B ga : Nat} {z x : EvD} {T : TypeId} (hb : Below B w X) (hB : B ≤ X.heap.size) (ha : B ≤ ga) (h1 : X.heap[ga]? = some (.cells (evCells z).toArray T (0, 0))) :
    Below B w (setL X ga 0 (evCells x)) ∧ (setL X ga 0 (evCells x)).heap[ga]? = some (.cells (evCells x).toArray T (0, 0)) := by
  have ha1 := setL_heap ga T (evCells x) (evCells z) X 0 h1
  rw [put_all (evCells x) (evCells z) rfl] at ha1
  exact ⟨ev_one hb hB ha, ha1⟩
theorem EvAt.of_heap {W : World} {g : Nat} {x : EvD} {T : TypeId} (h : W.heap[g]? = some (.cells (evCells x).toArray T (0, 0))) : EvAt W g 0 x ∧ g < W.heap.size := by
  refine ⟨fun k v hk => ?_, (Array.getElem?_eq_some_iff.1 h).1⟩
  rw [Nat.zero_add, cell_of_row _ _ _ _ _ _ h]
  simpa using hk
theorem ev_zero : (evCells evZ).toArray = #[.int .i64 0, .int .i64 0, .int .i64 0, .int .i64 0, .string ⟨#[]⟩, .string ⟨#[]⟩, .int .u64 0, .int .i64 0, .int .i64 0, .string ⟨#[]⟩, .int .u64 0, .slice none 0 0] := rfl
theorem cut_after3 {R G : World → Nat → Nat → Prop} {M : Prop} (main : (∀ W2 a b, R W2 a b → G W2 a b) → M) (tail : ∀ W2 a b, R W2 a b → G W2 a b) : M := main tail

end Go.Proofs.Ythbafbgnclpbpaa
