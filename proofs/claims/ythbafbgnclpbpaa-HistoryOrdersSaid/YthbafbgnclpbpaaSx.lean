/- New blocks and what lies in them. No program. -/
import Derived.Test.YthbafbgnclpbpaaOff
import Derived.Test.YthbafbgnclpbpaaMake2
namespace Go.Proofs.Ythbafbgnclpbpaa
open Go.RowKit

/-- New blocks: what lies in each, and that they are apart. -/
structure Sx (B : Nat) (W0 W : World) (L : List (Nat × Obj)) : Prop where
  below : Below B W0 W
  le : B ≤ W.heap.size
  has : ∀ (i g : Nat) (o : Obj), L[i]? = some (g, o) → W.heap[g]? = some o ∧ B ≤ g
  ne : ∀ (i j : Nat) (p q : Nat × Obj), i ≠ j → L[i]? = some p → L[j]? = some q → p.1 ≠ q.1
theorem Sx.lt {B : Nat} {W0 W : World} {L : List (Nat × Obj)} (h : Sx B W0 W L) {i g : Nat} {o : Obj} (hi : L[i]? = some (g, o)) : g < W.heap.size := (Array.getElem?_eq_some_iff.1 (h.has i g o hi).1).1
theorem Sx.start (W : World) : Sx W.heap.size W W.drew [] := ⟨Below.drew (Below.refl _ _), Nat.le_refl _, fun i g o h => by simp at h, fun i j p q _ h => by simp at h⟩
theorem Sx.up {B : Nat} {W0 W W' : World} {L : List (Nat × Obj)} (h : Sx B W0 W L) (hb : Below W.heap.size W W') (M : List (Nat × Obj)) (hM : ∀ (i g : Nat) (o : Obj), M[i]? = some (g, o) → W'.heap[g]? = some o ∧ W.heap.size ≤ g)
    (hne : ∀ (i j : Nat) (p q : Nat × Obj), i ≠ j → M[i]? = some p → M[j]? = some q → p.1 ≠ q.1) : Sx B W0 W' (L ++ M) := by
  refine ⟨h.below.trans (hb.mono h.le), Nat.le_trans h.le hb.size, fun i g o hi => ?_, fun i j p q hij hi hj => ?_⟩
  · rcases Nat.lt_or_ge i L.length with g1 | g1
    · rw [List.getElem?_append_left g1] at hi
      have h1 := h.has i g o hi
      exact ⟨(hb.block g (h.lt hi)).trans h1.1, h1.2⟩
    · rw [List.getElem?_append_right g1] at hi
      have h1 := hM _ g o hi
      exact ⟨h1.1, Nat.le_trans h.le h1.2⟩
  · rcases Nat.lt_or_ge i L.length with g1 | g1 <;> rcases Nat.lt_or_ge j L.length with g2 | g2
    · rw [List.getElem?_append_left g1] at hi
      rw [List.getElem?_append_left g2] at hj
      exact h.ne i j p q hij hi hj
    · rw [List.getElem?_append_left g1] at hi
      rw [List.getElem?_append_right g2] at hj
      have := h.lt (o := p.2) (g := p.1) hi
      have := (hM _ q.1 q.2 hj).2
      omega
    · rw [List.getElem?_append_right g1] at hi
      rw [List.getElem?_append_left g2] at hj
      have := h.lt (o := q.2) (g := q.1) hj
      have := (hM _ p.1 p.2 hi).2
      omega
    · rw [List.getElem?_append_right g1] at hi
      rw [List.getElem?_append_right g2] at hj
      exact hne _ _ p q (by omega) hi hj
theorem Sx.alloc {B : Nat} {W0 W : World} {L : List (Nat × Obj)} (h : Sx B W0 W L) (o : Obj) : Sx B W0 (W.alloc o) (L ++ [(W.heap.size, o)]) := by
  refine h.up (below_alloc W o) _ (fun i g o' hi => ?_) (fun i j p q hij hi hj => ?_)
  · rcases i with _ | i
    · simp at hi
      obtain ⟨rfl, rfl⟩ := hi
      exact ⟨heap_alloc_new W _, Nat.le_refl _⟩
    · simp at hi
  · rcases i with _ | i
    · rcases j with _ | j
      · exact absurd rfl hij
      · simp at hj
    · simp at hi
theorem Sx.start0 (W : World) : Sx W.heap.size W W [] := ⟨Below.refl _ _, Nat.le_refl _, fun i g o h => by simp at h, fun i j p q _ h => by simp at h⟩
theorem Sx.call {B : Nat} {W0 W W' : World} {L : List (Nat × Obj)} (h : Sx B W0 W L) (hb : Below W.heap.size W W') : Sx B W0 W' L := by
  have := h.up hb [] (fun i g o h => by simp at h) (fun i j p q _ h => by simp at h)
  rwa [List.append_nil] at this
theorem Sx.call1 {B : Nat} {W0 W W' : World} {L : List (Nat × Obj)} {o : Obj} (h : Sx B W0 W L) (hb : Below W.heap.size W W') (hh : W'.heap[W.heap.size]? = some o) : Sx B W0 W' (L ++ [(W.heap.size, o)]) := by
  refine h.up hb _ (fun i g o' hi => ?_) (fun i j p q hij hi hj => ?_)
  · rcases i with _ | i
    · simp at hi
      obtain ⟨rfl, rfl⟩ := hi
      exact ⟨hh, Nat.le_refl _⟩
    · simp at hi
  · rcases i with _ | i
    · rcases j with _ | j
      · exact absurd rfl hij
      · simp at hj
    · simp at hi
theorem Sx.setc {B : Nat} {W0 W : World} {L : List (Nat × Obj)} (h : Sx B W0 W L) (i : Nat) {g : Nat} {cs : List Value} {T : TypeId} (hi : L[i]? = some (g, .cells cs.toArray T (0, 0))) (c : Nat) (v : Value) :
    Sx B W0 (W.setCell ⟨g, c, none⟩ v) (L.set i (g, .cells (cs.set c v).toArray T (0, 0))) := by
  have hil : i < L.length := (List.getElem?_eq_some_iff.1 hi).1
  have ho := Off.of_setCell W ⟨g, c, none⟩ v
  have hBg := (h.has i g _ hi).2
  refine ⟨ho.below h.below h.le (fun j hj e => by simp only [] at e; omega), Nat.le_trans h.le ho.size, fun j g' o' hj => ?_, fun j k p q hjk hj hk => ?_⟩
  · by_cases e : i = j
    · subst e
      rw [List.getElem?_set_self hil] at hj
      injection hj with hj
      injection hj with e1 e2
      subst e1; subst e2
      exact ⟨heap_set (h.has i _ _ hi).1 c v, hBg⟩
    · rw [List.getElem?_set_ne e] at hj
      have h1 := h.has j g' o' hj
      exact ⟨(ho.block g' (h.lt hj) (fun e2 => h.ne i j _ _ e hi hj e2.symm)).trans h1.1, h1.2⟩
  · have key : ∀ (m : Nat) (p : Nat × Obj), (L.set i (g, .cells (cs.set c v).toArray T (0, 0)))[m]? = some p → ∃ p', L[m]? = some p' ∧ p'.1 = p.1 := by
      intro m p hm
      by_cases e : i = m
      · subst e
        rw [List.getElem?_set_self hil] at hm
        injection hm with hm
        exact ⟨_, hi, by rw [← hm]⟩
      · rw [List.getElem?_set_ne e] at hm
        exact ⟨p, hm, rfl⟩
    obtain ⟨p', hp, e1⟩ := key j p hj
    obtain ⟨q', hq, e2⟩ := key k q hk
    rw [← e1, ← e2]
    exact h.ne j k p' q' hjk hp hq
theorem Sx.head {B : Nat} {W0 W : World} {p : Nat × Obj} {L : List (Nat × Obj)} (h : Sx B W0 W (p :: L)) : Sx B W0 W [p] := by
  refine ⟨h.below, h.le, fun i g o hi => ?_, fun i j p q hij hi hj => ?_⟩
  · rcases i with _ | i
    · exact h.has 0 g o hi
    · simp at hi
  · rcases i with _ | i
    · rcases j with _ | j
      · exact absurd rfl hij
      · simp at hj
    · simp at hi

end Go.Proofs.Ythbafbgnclpbpaa
