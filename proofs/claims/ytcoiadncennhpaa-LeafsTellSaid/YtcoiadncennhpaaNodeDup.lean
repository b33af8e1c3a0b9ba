/- The law NodeSame: two clones. -/
import Derived.Test.YtcoiadncennhpaaNodeClone
import Derived.Test.YtcoiadncennhpaaNodeLaw
namespace Go.Proofs.Ytcoiadncennhpaa
open Go.RowKit

/-- New blocks: what lies in each, and that they are apart. -/
structure Sx (B : Nat) (W0 W : World) (L : List (Nat × Obj)) : Prop where
  below : Below B W0 W
  le : B ≤ W.heap.size
  has : ∀ (i g : Nat) (o : Obj), L[i]? = some (g, o) → W.heap[g]? = some o ∧ B ≤ g
  ne : ∀ (i j : Nat) (p q : Nat × Obj), i ≠ j → L[i]? = some p → L[j]? = some q → p.1 ≠ q.1
theorem Sx.lt {B : Nat} {W0 W : World} {L : List (Nat × Obj)} (h : Sx B W0 W L) {i g : Nat} {o : Obj} (hi : L[i]? = some (g, o)) : g < W.heap.size := (Array.getElem?_eq_some_iff.1 (h.has i g o hi).1).1
theorem Sx.start (W : World) : Sx W.heap.size W W.drew [] := ⟨Below.drew (Below.refl _ _), Nat.le_refl _, fun i g o h => by simp at h, fun i j p q _ h => by simp at h⟩
theorem Sx.up {B : Nat} {W0 W W' : World} {L : List (Nat × Obj)} (h : Sx B W0 W L) (hb : Below W.heap.size W W') (M : List (Nat × Obj)) (hM : ∀ (i g : Nat) (o : Obj), M[i]? = some (g, o) → W'.heap[g]? = some o ∧ W.heap.size ≤ g)
    (hne : ∀ (i j : Nat) (p q : Nat × Obj), i ≠ j → M[i]? = some p → M[j]? = some q → p.1 ≠ q.1) : Sx B W0 W' (L ++ M) := by
  refine ⟨h.below.trans (hb.mono h.le), Nat.le_trans h.le hb.size, fun i g o hi => ?_, fun i j p q hij hi hj => ?_⟩
  · rcases Nat.lt_or_ge i L.length with g1 | g1
    · rw [List.getElem?_append_left g1] at hi
      have h1 := h.has i g o hi
      exact ⟨(hb.block g (h.lt hi)).trans h1.1, h1.2⟩
    · rw [List.getElem?_append_right g1] at hi
      have h1 := hM _ g o hi
      exact ⟨h1.1, Nat.le_trans h.le h1.2⟩
  · rcases Nat.lt_or_ge i L.length with g1 | g1 <;> rcases Nat.lt_or_ge j L.length with g2 | g2
    · rw [List.getElem?_append_left g1] at hi
      rw [List.getElem?_append_left g2] at hj
      exact h.ne i j p q hij hi hj
    · rw [List.getElem?_append_left g1] at hi
      rw [List.getElem?_append_right g2] at hj
      have := h.lt (o := p.2) (g := p.1) hi
      have := (hM _ q.1 q.2 hj).2
      omega
    · rw [List.getElem?_append_right g1] at hi
      rw [List.getElem?_append_left g2] at hj
      have := h.lt (o := q.2) (g := q.1) hj
      have := (hM _ p.1 p.2 hi).2
      omega
    · rw [List.getElem?_append_right g1] at hi
      rw [List.getElem?_append_right g2] at hj
      exact hne _ _ p q (by omega) hi hj
theorem Sx.alloc {B : Nat} {W0 W : World} {L : List (Nat × Obj)} (h : Sx B W0 W L) (o : Obj) : Sx B W0 (W.alloc o) (L ++ [(W.heap.size, o)]) := by
  refine h.up (below_alloc W o) _ (fun i g o' hi => ?_) (fun i j p q hij hi hj => ?_)
  · rcases i with _ | i
    · simp at hi
      obtain ⟨rfl, rfl⟩ := hi
      exact ⟨heap_alloc_new W _, Nat.le_refl _⟩
    · simp at hi
  · rcases i with _ | i
    · rcases j with _ | j
      · exact absurd rfl hij
      · simp at hj
    · simp at hi
/-- The rows of a clone. -/
def rows3 (d : Nd) (g1 g2 g3 : Nat) : List (Nat × Obj) := [(g1, .cells (strs d.keys).toArray 9 (0, 0)), (g2, .cells (u64s d.vals).toArray 35 (0, 0)), (g3, .cells (i64s d.kids).toArray 3 (0, 0))]
theorem Sx.rows {B : Nat} {W0 W W' : World} {L : List (Nat × Obj)} {d : Nd} {g1 g2 g3 : Nat} (h : Sx B W0 W L)
    (r1 : W'.heap[g1]? = some (.cells (strs d.keys).toArray 9 (0, 0))) (r2 : W'.heap[g2]? = some (.cells (u64s d.vals).toArray 35 (0, 0))) (r3 : W'.heap[g3]? = some (.cells (i64s d.kids).toArray 3 (0, 0)))
    (n12 : g1 ≠ g2) (n13 : g1 ≠ g3) (n23 : g2 ≠ g3) (m1 : W.heap.size ≤ g1) (m2 : W.heap.size ≤ g2) (m3 : W.heap.size ≤ g3) (hb : Below W.heap.size W W') : Sx B W0 W' (L ++ rows3 d g1 g2 g3) := by
  refine h.up hb _ (fun i g o hi => ?_) (fun i j p q hij hi hj => ?_)
  · unfold rows3 at hi
    rcases i with _ | _ | _ | i
    · simp at hi; obtain ⟨rfl, rfl⟩ := hi; exact ⟨r1, m1⟩
    · simp at hi; obtain ⟨rfl, rfl⟩ := hi; exact ⟨r2, m2⟩
    · simp at hi; obtain ⟨rfl, rfl⟩ := hi; exact ⟨r3, m3⟩
    · simp at hi
  · unfold rows3 at hi hj
    rcases i with _ | _ | _ | i <;> rcases j with _ | _ | _ | j <;> simp at hi hj hij <;> subst hi <;> subst hj <;> simp <;> omega

/-- The store of a node into its variable. -/
def set8 (W : World) (g : Nat) (a b c d e f x y : Value) : World :=
  ((((((((W.setCell ⟨g, 0, none⟩ a).setCell ⟨g, 1, none⟩ b).setCell ⟨g, 2, none⟩ c).setCell ⟨g, 3, none⟩ d).setCell ⟨g, 4, none⟩ e).setCell ⟨g, 5, none⟩ f).setCell ⟨g, 6, none⟩ x).setCell ⟨g, 7, none⟩ y)
theorem set8_heap {W : World} {g : Nat} {v0 v1 v2 v3 v4 v5 v6 v7 : Value} {T : TypeId} (h : W.heap[g]? = some (.cells #[v0, v1, v2, v3, v4, v5, v6, v7] T (0, 0))) (a b c d e f x y : Value) :
    (set8 W g a b c d e f x y).heap[g]? = some (.cells #[a, b, c, d, e, f, x, y] T (0, 0)) := by
  unfold set8
  simp [World.setCell, Array.getElem?_modify, h]
theorem set8_off (W : World) (g : Nat) (a b c d e f x y : Value) : Off (fun k => k = g) W (set8 W g a b c d e f x y) := by
  unfold set8
  exact Off.set (Off.set (Off.set (Off.set (Off.set (Off.set (Off.set (Off.of_setCell W ⟨g, 0, none⟩ a) (p := ⟨g, 1, none⟩) rfl b) (p := ⟨g, 2, none⟩) rfl c) (p := ⟨g, 3, none⟩) rfl d) (p := ⟨g, 4, none⟩) rfl e) (p := ⟨g, 5, none⟩) rfl f) (p := ⟨g, 6, none⟩) rfl x) (p := ⟨g, 7, none⟩) rfl y
theorem Sx.store {B : Nat} {W0 W : World} {L : List (Nat × Obj)} (h : Sx B W0 W L) (i : Nat) {g : Nat} {v0 v1 v2 v3 v4 v5 v6 v7 : Value} {T : TypeId} (hi : L[i]? = some (g, .cells #[v0, v1, v2, v3, v4, v5, v6, v7] T (0, 0))) (a b c d e f x y : Value) :
    Sx B W0 (set8 W g a b c d e f x y) (L.set i (g, .cells #[a, b, c, d, e, f, x, y] T (0, 0))) := by
  have hil : i < L.length := (List.getElem?_eq_some_iff.1 hi).1
  have ho := set8_off W g a b c d e f x y
  have hBg := (h.has i g _ hi).2
  refine ⟨ho.below h.below h.le (fun j hj e => by omega), Nat.le_trans h.le ho.size, fun j g' o' hj => ?_, fun j k p q hjk hj hk => ?_⟩
  · by_cases e : i = j
    · subst e
      rw [List.getElem?_set_self hil] at hj
      injection hj with hj
      injection hj with e1 e2
      subst e1; subst e2
      exact ⟨set8_heap (h.has i _ _ hi).1 a b c d _ f x y, hBg⟩
    · rw [List.getElem?_set_ne e] at hj
      have h1 := h.has j g' o' hj
      exact ⟨(ho.block g' (h.lt hj) (fun e2 => h.ne i j _ _ e hi hj e2.symm)).trans h1.1, h1.2⟩
  · have key : ∀ (m : Nat) (p : Nat × Obj), (L.set i (g, .cells #[a, b, c, d, e, f, x, y] T (0, 0)))[m]? = some p → ∃ p', L[m]? = some p' ∧ p'.1 = p.1 := by
      intro m p hm
      by_cases e : i = m
      · subst e
        rw [List.getElem?_set_self hil] at hm
        injection hm with hm
        exact ⟨_, hi, by rw [← hm]⟩
      · rw [List.getElem?_set_ne e] at hm
        exact ⟨p, hm, rfl⟩
    obtain ⟨p', hp, e1⟩ := key j p hj
    obtain ⟨q', hq, e2⟩ := key k q hk
    rw [← e1, ← e2]
    exact h.ne j k p' q' hjk hp hq
theorem nd_facts {W : World} {g : Nat} {v0 v1 v2 v3 v4 v5 v6 v7 : Value} {T : TypeId} (h : W.heap[g]? = some (.cells #[v0, v1, v2, v3, v4, v5, v6, v7] T (0, 0))) :
    W.cell? ⟨g, 0, none⟩ = some v0 ∧ W.cell? ⟨g, 1, none⟩ = some v1 ∧ W.cell? ⟨g, 2, none⟩ = some v2 ∧ W.cell? ⟨g, 3, none⟩ = some v3 ∧ W.cell? ⟨g, 4, none⟩ = some v4 ∧ W.cell? ⟨g, 5, none⟩ = some v5 ∧ W.cell? ⟨g, 6, none⟩ = some v6 ∧ W.cell? ⟨g, 7, none⟩ = some v7 ∧
    W.frozen? ⟨g, 0, none⟩ = false ∧ W.frozen? ⟨g, 1, none⟩ = false ∧ W.frozen? ⟨g, 2, none⟩ = false ∧ W.frozen? ⟨g, 3, none⟩ = false ∧ W.frozen? ⟨g, 4, none⟩ = false ∧ W.frozen? ⟨g, 5, none⟩ = false ∧ W.frozen? ⟨g, 6, none⟩ = false ∧ W.frozen? ⟨g, 7, none⟩ = false := by
  simp [World.cell?, World.frozen?, h]

/-- Two clones in two variables. -/
structure Dup (W0 W : World) (d : Nd) (g5 g6 c1 c2 c3 d1 d2 d3 : Nat) : Prop where
  below : Below W0.heap.size W0 W
  one : W.heap[g5]? = some (.cells (ndCells d (some ⟨c1, 0, none⟩) (some ⟨c2, 0, none⟩) (some ⟨c3, 0, none⟩) d.keys.length d.vals.length d.kids.length) 26 (0, 0))
  two : W.heap[g6]? = some (.cells (ndCells d (some ⟨d1, 0, none⟩) (some ⟨d2, 0, none⟩) (some ⟨d3, 0, none⟩) d.keys.length d.vals.length d.kids.length) 26 (0, 0))
  k1 : W.heap[c1]? = some (.cells (strs d.keys).toArray 9 (0, 0))
  k2 : W.heap[c2]? = some (.cells (u64s d.vals).toArray 35 (0, 0))
  k3 : W.heap[c3]? = some (.cells (i64s d.kids).toArray 3 (0, 0))
  e1 : W.heap[d1]? = some (.cells (strs d.keys).toArray 9 (0, 0))
  e2 : W.heap[d2]? = some (.cells (u64s d.vals).toArray 35 (0, 0))
  e3 : W.heap[d3]? = some (.cells (i64s d.kids).toArray 3 (0, 0))
  ne : c1 ≠ g5 ∧ c1 ≠ g6 ∧ c1 ≠ c2 ∧ c1 ≠ c3 ∧ c1 ≠ d1 ∧ c1 ≠ d2 ∧ c1 ≠ d3 ∧ c2 ≠ g5 ∧ c2 ≠ g6 ∧ c2 ≠ c3 ∧ c2 ≠ d1 ∧ c2 ≠ d2 ∧ c2 ≠ d3 ∧ c3 ≠ g5 ∧ c3 ≠ g6 ∧ c3 ≠ d1 ∧ c3 ≠ d2 ∧ c3 ≠ d3
  ge : W0.heap.size ≤ g5 ∧ W0.heap.size ≤ g6 ∧ W0.heap.size ≤ c1 ∧ W0.heap.size ≤ c2 ∧ W0.heap.size ≤ c3 ∧ W0.heap.size ≤ d1 ∧ W0.heap.size ≤ d2 ∧ W0.heap.size ≤ d3
/-- i5, i6: where the variables stand, ic, id: where the rows of the first clone, and of the second, begin. -/
theorem Sx.dup {W0 W : World} {L : List (Nat × Obj)} {d : Nd} {g5 g6 c1 c2 c3 d1 d2 d3 : Nat} (h : Sx W0.heap.size W0 W L) (i5 i6 ic id : Nat)
    (h5 : L[i5]? = some (g5, .cells (ndCells d (some ⟨c1, 0, none⟩) (some ⟨c2, 0, none⟩) (some ⟨c3, 0, none⟩) d.keys.length d.vals.length d.kids.length) 26 (0, 0)))
    (h6 : L[i6]? = some (g6, .cells (ndCells d (some ⟨d1, 0, none⟩) (some ⟨d2, 0, none⟩) (some ⟨d3, 0, none⟩) d.keys.length d.vals.length d.kids.length) 26 (0, 0)))
    (hc1 : L[ic]? = some (c1, .cells (strs d.keys).toArray 9 (0, 0))) (hc2 : L[ic + 1]? = some (c2, .cells (u64s d.vals).toArray 35 (0, 0))) (hc3 : L[ic + 2]? = some (c3, .cells (i64s d.kids).toArray 3 (0, 0)))
    (hd1 : L[id]? = some (d1, .cells (strs d.keys).toArray 9 (0, 0))) (hd2 : L[id + 1]? = some (d2, .cells (u64s d.vals).toArray 35 (0, 0))) (hd3 : L[id + 2]? = some (d3, .cells (i64s d.kids).toArray 3 (0, 0)))
    (n56 : i5 ≠ i6) (n5 : i5 ≠ ic ∧ i5 ≠ ic + 1 ∧ i5 ≠ ic + 2) (n6 : i6 ≠ ic ∧ i6 ≠ ic + 1 ∧ i6 ≠ ic + 2) (ncd : ic + 2 < id ∨ id + 2 < ic) : Dup W0 W d g5 g6 c1 c2 c3 d1 d2 d3 :=
  ⟨h.below, (h.has _ _ _ h5).1, (h.has _ _ _ h6).1, (h.has _ _ _ hc1).1, (h.has _ _ _ hc2).1, (h.has _ _ _ hc3).1, (h.has _ _ _ hd1).1, (h.has _ _ _ hd2).1, (h.has _ _ _ hd3).1,
   ⟨h.ne _ _ _ _ (fun e => n5.1 e.symm) hc1 h5, h.ne _ _ _ _ (fun e => n6.1 e.symm) hc1 h6, h.ne _ _ _ _ (by omega) hc1 hc2, h.ne _ _ _ _ (by omega) hc1 hc3, h.ne _ _ _ _ (by omega) hc1 hd1, h.ne _ _ _ _ (by omega) hc1 hd2, h.ne _ _ _ _ (by omega) hc1 hd3,
    h.ne _ _ _ _ (fun e => n5.2.1 e.symm) hc2 h5, h.ne _ _ _ _ (fun e => n6.2.1 e.symm) hc2 h6, h.ne _ _ _ _ (by omega) hc2 hc3, h.ne _ _ _ _ (by omega) hc2 hd1, h.ne _ _ _ _ (by omega) hc2 hd2, h.ne _ _ _ _ (by omega) hc2 hd3,
    h.ne _ _ _ _ (fun e => n5.2.2 e.symm) hc3 h5, h.ne _ _ _ _ (fun e => n6.2.2 e.symm) hc3 h6, h.ne _ _ _ _ (by omega) hc3 hd1, h.ne _ _ _ _ (by omega) hc3 hd2, h.ne _ _ _ _ (by omega) hc3 hd3⟩,
   (h.has _ _ _ h5).2, (h.has _ _ _ h6).2, (h.has _ _ _ hc1).2, (h.has _ _ _ hc2).2, (h.has _ _ _ hc3).2, (h.has _ _ _ hd1).2, (h.has _ _ _ hd2).2, (h.has _ _ _ hd3).2⟩

theorem Dup.liesC {W0 W V : World} {d : Nd} {g5 g6 c1 c2 c3 d1 d2 d3 : Nat} {A B C : Option Addr} {ca cb cc : Nat} (h : Dup W0 W d g5 g6 c1 c2 c3 d1 d2 d3) (hl : Lies V d A B C ca cb cc) : Lies W d (some ⟨c1, 0, none⟩) (some ⟨c2, 0, none⟩) (some ⟨c3, 0, none⟩) d.keys.length d.vals.length d.kids.length :=
  { hl with
    keys := by have := Rd.new h.k1; rw [strs_length] at this; exact this
    vals := by have := Rd.new h.k2; rw [u64s_length] at this; exact this
    kids := by have := Rd.new h.k3; rw [i64s_length] at this; exact this
    ka := Nat.le_refl _, kb := Nat.le_refl _, kc := Nat.le_refl _ }
theorem liesD {W V : World} {d : Nd} {d1 d2 d3 : Nat} {A B C : Option Addr} {ca cb cc : Nat} (hl : Lies V d A B C ca cb cc)
    (h1 : W.heap[d1]? = some (.cells (strs d.keys).toArray 9 (0, 0))) (h2 : W.heap[d2]? = some (.cells (u64s d.vals).toArray 35 (0, 0))) (h3 : W.heap[d3]? = some (.cells (i64s d.kids).toArray 3 (0, 0))) : Lies W d (some ⟨d1, 0, none⟩) (some ⟨d2, 0, none⟩) (some ⟨d3, 0, none⟩) d.keys.length d.vals.length d.kids.length :=
  { hl with
    keys := by have := Rd.new h1; rw [strs_length] at this; exact this
    vals := by have := Rd.new h2; rw [u64s_length] at this; exact this
    kids := by have := Rd.new h3; rw [i64s_length] at this; exact this
    ka := Nat.le_refl _, kb := Nat.le_refl _, kc := Nat.le_refl _ }
theorem boxed_at {W : World} {g : Nat} {d : Nd} {A B C : Option Addr} {ca cb cc : Nat} {T : TypeId} (h : W.heap[g]? = some (.cells (ndCells d A B C ca cb cc) T (0, 0))) : Boxed W g d A B C ca cb cc := by
  simp [Boxed, World.cell?, h, ndCells]
theorem row_set {w : World} {g j : Nat} {xs : List Value} {T : TypeId} {v : Value} (h : w.heap[g]? = some (.cells xs.toArray T (0, 0))) : (w.setCell ⟨g, j, none⟩ v).heap[g]? = some (.cells (xs.set j v).toArray T (0, 0)) := by
  simp [World.setCell, Array.getElem?_modify, h]
theorem sameB_self (d : Nd) : sameB d d = true := (sameB_iff d d).2 ⟨rfl, rfl, rfl, rfl, rfl, rfl, rfl, rfl⟩

theorem Dup.up {W0 W W' : World} {d : Nd} {g5 g6 c1 c2 c3 d1 d2 d3 : Nat} (h : Dup W0 W d g5 g6 c1 c2 c3 d1 d2 d3) (hb : Below W.heap.size W W') (hle : W0.heap.size ≤ W.heap.size) : Dup W0 W' d g5 g6 c1 c2 c3 d1 d2 d3 := by
  have k := fun (g : Nat) (o : Obj) (e : W.heap[g]? = some o) => (hb.block g (Array.getElem?_eq_some_iff.1 e).1).trans e
  exact ⟨h.below.trans (hb.mono hle), k _ _ h.one, k _ _ h.two, k _ _ h.k1, k _ _ h.k2, k _ _ h.k3, k _ _ h.e1, k _ _ h.e2, k _ _ h.e3, h.ne, h.ge⟩
set_option maxHeartbeats 2000000 in
/-- What stays behind stores into the first clone's rows. -/
theorem Dup.keep {W0 W W' : World} {d : Nd} {g5 g6 c1 c2 c3 d1 d2 d3 : Nat} (h : Dup W0 W d g5 g6 c1 c2 c3 d1 d2 d3) {S : Nat → Prop} (ho : Off S W W') (hs : ∀ k, S k → k = c1 ∨ k = c2 ∨ k = c3) (hle : W0.heap.size ≤ W.heap.size) :
    W'.heap[g5]? = some (.cells (ndCells d (some ⟨c1, 0, none⟩) (some ⟨c2, 0, none⟩) (some ⟨c3, 0, none⟩) d.keys.length d.vals.length d.kids.length) 26 (0, 0)) ∧
    W'.heap[g6]? = some (.cells (ndCells d (some ⟨d1, 0, none⟩) (some ⟨d2, 0, none⟩) (some ⟨d3, 0, none⟩) d.keys.length d.vals.length d.kids.length) 26 (0, 0)) ∧
    W'.heap[d1]? = some (.cells (strs d.keys).toArray 9 (0, 0)) ∧ W'.heap[d2]? = some (.cells (u64s d.vals).toArray 35 (0, 0)) ∧ W'.heap[d3]? = some (.cells (i64s d.kids).toArray 3 (0, 0)) ∧ Below W0.heap.size W0 W' := by
  have k := fun (g : Nat) (o : Obj) (e : W.heap[g]? = some o) (hg : ¬ S g) => (ho.block g (Array.getElem?_eq_some_iff.1 e).1 hg).trans e
  obtain ⟨n1, n2, n3, n4, n5, n6, n7, n8, n9, n10, n11, n12, n13, n14, n15, n16, n17, n18⟩ := h.ne
  obtain ⟨m1, m2, m3, m4, m5, m6, m7, m8⟩ := h.ge
  refine ⟨k _ _ h.one (fun e => ?_), k _ _ h.two (fun e => ?_), k _ _ h.e1 (fun e => ?_), k _ _ h.e2 (fun e => ?_), k _ _ h.e3 (fun e => ?_), ho.below h.below hle (fun j hj e => ?_)⟩
  all_goals
    have := hs _ e
    omega

end Go.Proofs.Ytcoiadncennhpaa
