/- Rows of the call's own beside new blocks: what lies in each, and that all are apart. No program. -/
import Derived.Test.YthbafbgnclpbpaaSx
import Derived.Maps.AppendAt
namespace Go.Proofs.Ythbafbgnclpbpaa
open Go.RowKit

theorem own_off {S : Nat → Prop} {w w' : World} {B : Nat} {e : TypeId} {s n : Nat} {v : Value} {xs : List Value} (h : w.ownsRow B e s v n xs) (hb : Off S w w') (hs : ∀ k, v.ownBlock = some k → ¬ S k) : w'.ownsRow B e s v n xs := by
  refine ⟨h.1, ?_⟩
  rcases h.2 with hn | ⟨g, cap, cur, rfl, hb0, hgg, rest⟩
  · exact .inl hn
  · exact .inr ⟨g, cap, cur, rfl, hb0, (hb.block g (Array.getElem?_eq_some_iff.1 hgg).1 (hs g rfl)).trans hgg, rest⟩
theorem own_less {w : World} {B B' : Nat} {e : TypeId} {s n : Nat} {v : Value} {xs : List Value} (h : w.ownsRow B e s v n xs) (hb : B' ≤ B) : w.ownsRow B' e s v n xs := by
  refine ⟨h.1, ?_⟩
  rcases h.2 with hn | ⟨g, cap, cur, rfl, hbg, rest⟩
  · exact .inl hn
  · exact .inr ⟨g, cap, cur, rfl, Nat.le_trans hb hbg, rest⟩
theorem own_lt {w : World} {B : Nat} {e : TypeId} {s n : Nat} {v : Value} {xs : List Value} (h : w.ownsRow B e s v n xs) {k : Nat} (hk : v.ownBlock = some k) : B ≤ k ∧ k < w.heap.size := by
  rcases h.2 with ⟨rfl, _⟩ | ⟨g, cap, cur, rfl, hbg, hg, _⟩
  · cases hk
  · injection hk with hk
    subst hk
    exact ⟨hbg, (Array.getElem?_eq_some_iff.1 hg).1⟩

/-- A row of the call's own. -/
structure RowT where
  t : TypeId
  s : Nat
  v : Value
  n : Nat
  xs : List Value

/-- New blocks and own rows. -/
structure Ow (B : Nat) (W0 W : World) (L : List (Nat × Obj)) (R : List RowT) : Prop where
  sx : Sx B W0 W L
  own : ∀ (i : Nat) (r : RowT), R[i]? = some r → W.ownsRow B r.t r.s r.v r.n r.xs
  ne : ∀ (i j k : Nat) (r r' : RowT), i ≠ j → R[i]? = some r → R[j]? = some r' → r.v.ownBlock = some k → r'.v.ownBlock ≠ some k
  nl : ∀ (i j k : Nat) (r : RowT) (p : Nat × Obj), R[i]? = some r → r.v.ownBlock = some k → L[j]? = some p → p.1 ≠ k

theorem Ow.start {B : Nat} {W0 W : World} {L : List (Nat × Obj)} (h : Sx B W0 W L) : Ow B W0 W L [] := ⟨h, fun _ _ q => by simp at q, fun _ _ _ _ _ _ q => by simp at q, fun _ _ _ _ _ q => by simp at q⟩
theorem Ow.below {B : Nat} {W0 W : World} {L : List (Nat × Obj)} {R : List RowT} (h : Ow B W0 W L R) : Below B W0 W := h.sx.below
theorem Ow.call {B : Nat} {W0 W W' : World} {L : List (Nat × Obj)} {R : List RowT} (h : Ow B W0 W L R) (hb : Below W.heap.size W W') : Ow B W0 W' L R :=
  ⟨h.sx.call hb, fun i r hi => own_off (h.own i r hi) (Off.of_below hb (fun _ => False)) (fun _ _ q => q), h.ne, h.nl⟩
theorem Ow.drew {B : Nat} {W0 W : World} {L : List (Nat × Obj)} {R : List RowT} (h : Ow B W0 W L R) : Ow B W0 W.drew L R := h.call (Below.drew (Below.refl _ _))
theorem Ow.alloc {B : Nat} {W0 W : World} {L : List (Nat × Obj)} {R : List RowT} (h : Ow B W0 W L R) (o : Obj) : Ow B W0 (W.alloc o) (L ++ [(W.heap.size, o)]) R := by
  refine ⟨h.sx.alloc o, fun i r hi => own_off (h.own i r hi) (Off.of_below (below_alloc W o) (fun _ => False)) (fun _ _ q => q), h.ne, fun i j k r p hi hk hj => ?_⟩
  rcases Nat.lt_or_ge j L.length with g | g
  · rw [List.getElem?_append_left g] at hj
    exact h.nl i j k r p hi hk hj
  · rw [List.getElem?_append_right g] at hj
    have hlt := (own_lt (h.own i r hi) hk).2
    rcases hz : j - L.length with _ | m
    · rw [hz] at hj
      injection hj with hj
      subst hj
      simp only []
      omega
    · rw [hz] at hj
      simp at hj
/-- A row that is made. -/
theorem Ow.row {B : Nat} {W0 W W' : World} {L : List (Nat × Obj)} {R : List RowT} (h : Ow B W0 W L R) (hb : Below W.heap.size W W') {t : TypeId} {s : Nat} {v : Value} {n : Nat} {xs : List Value} (ho : W'.ownsRow W.heap.size t s v n xs) : Ow B W0 W' L (R ++ [⟨t, s, v, n, xs⟩]) := by
  have h1 := h.call hb
  have key : ∀ (i : Nat) (r : RowT), (R ++ [(⟨t, s, v, n, xs⟩ : RowT)])[i]? = some r → (i < R.length ∧ R[i]? = some r) ∨ (i = R.length ∧ r = ⟨t, s, v, n, xs⟩) := by
    intro i r hi
    rcases Nat.lt_or_ge i R.length with g | g
    · rw [List.getElem?_append_left g] at hi
      exact .inl ⟨g, hi⟩
    · rw [List.getElem?_append_right g] at hi
      rcases hz : i - R.length with _ | m
      · rw [hz] at hi
        injection hi with hi
        exact .inr ⟨by omega, hi.symm⟩
      · rw [hz] at hi
        simp at hi
  refine ⟨h1.sx, fun i r hi => ?_, fun i j k r r' hij hi hj hk hk' => ?_, fun i j k r p hi hk hj => ?_⟩
  · rcases key i r hi with ⟨_, e⟩ | ⟨_, rfl⟩
    · exact h1.own i r e
    · exact own_less ho h.sx.le
  · rcases key i r hi with ⟨_, e⟩ | ⟨e0, rfl⟩ <;> rcases key j r' hj with ⟨_, e'⟩ | ⟨e0', rfl⟩
    · exact h.ne i j k r r' hij e e' hk hk'
    · have h2 := (own_lt (h.own i r e) hk).2
      have h3 := (own_lt ho hk').1
      omega
    · have h2 := (own_lt (h.own j r' e') hk').2
      have h3 := (own_lt ho hk).1
      omega
    · omega
  · rcases key i r hi with ⟨_, e⟩ | ⟨_, rfl⟩
    · exact h.nl i j k r p e hk hj
    · have h3 := (own_lt ho hk).1
      have h4 := h.sx.lt (i := j) (g := p.1) (o := p.2) hj
      omega
theorem Ow.nil {B : Nat} {W0 W : World} {L : List (Nat × Obj)} {R : List RowT} (h : Ow B W0 W L R) (t : TypeId) (s : Nat) : Ow B W0 W L (R ++ [⟨t, s, .slice none 0 0, 0, []⟩]) :=
  h.row (Below.refl _ _) (World.ownsRow_nil _ _ _ _)
theorem Ow.setc {B : Nat} {W0 W : World} {L : List (Nat × Obj)} {R : List RowT} (h : Ow B W0 W L R) (i : Nat) {g : Nat} {cs : List Value} {T : TypeId} (hi : L[i]? = some (g, .cells cs.toArray T (0, 0))) (c : Nat) (v : Value) :
    Ow B W0 (W.setCell ⟨g, c, none⟩ v) (L.set i (g, .cells (cs.set c v).toArray T (0, 0))) R := by
  refine ⟨h.sx.setc i hi c v, fun j r hj => own_off (h.own j r hj) (Off.of_setCell W ⟨g, c, none⟩ v) (fun k hk e => h.nl j i k r _ hj hk hi e.symm), h.ne, fun j m k r p hj hk hm => ?_⟩
  by_cases e : i = m
  · subst e
    rw [List.getElem?_set_self (List.getElem?_eq_some_iff.1 hi).1] at hm
    injection hm with hm
    rw [← hm]
    have := h.nl j i k r _ hj hk hi
    exact this
  · rw [List.getElem?_set_ne e] at hm
    exact h.nl j m k r p hj hk hm
/-- An append of one element to an own row. -/
theorem Ow.push {P : Program} {B : Nat} {W0 W : World} {L : List (Nat × Obj)} {R : List RowT} (h : Ow B W0 W L R) (i : Nat) {t : TypeId} {s n : Nat} {v : Value} {xs : List Value} (hi : R[i]? = some ⟨t, s, v, n, xs⟩)
    (sl ty : TypeId) (z : Value) (bytes : Nat) (hu : P.underlying sl = some (.slice t)) (hinfo : (P.info? t).map (fun i => (i.zero, i.size, i.bytes)) = some (some z, s, bytes)) (hzs : z.cells.size = s) (hs0 : 0 < s)
    (us : List Value) (hus : us.length = s) (h1 : ∀ u ∈ us, u.oneCell' = true) (hl : n ≤ 10000) (hby : bytes ≤ 1000) :
    ∃ A' c' W1, (Builtin.append_ #[sl, sl] ty #[v, .slice (some ⟨W.heap.size, 0, none⟩) 1 1]).run P (W.alloc (.cells us.toArray t)) = .ok (.slice A' (n + 1) c') W1 ∧ n + 1 ≤ c' ∧
      Ow B W0 W1 L (R.set i ⟨t, s, .slice A' (n + 1) c', n + 1, xs ++ us⟩) := by
  obtain ⟨inf, hinf, hz, hs, hb⟩ := info_parts hinfo
  have hil : i < R.length := (List.getElem?_eq_some_iff.1 hi).1
  have h2 := h.call (below_alloc W (.cells us.toArray t))
  have hsz : (W.alloc (.cells us.toArray t)).heap.size = W.heap.size + 1 := by simp
  have hmul : (n + 1) * bytes ≤ 10001 * 1000 := Nat.mul_le_mul (by omega) hby
  obtain ⟨v', W1, hrun, ho, hg, _, hor⟩ := run_append_own_at (P := P) (W.alloc (.cells us.toArray t)) B sl ty t inf z s bytes hu hinf hz hs hb hzs hs0 v n xs (h2.own i _ hi) ⟨W.heap.size, 0, none⟩ 1 1 us (by omega)
    (fun j u hju => by rw [Addr.add_lit, Nat.zero_add]; exact new_cell W us.toArray t j u (by simpa using hju)) h1 (by unfold maxLen; omega) (by omega) h2.sx.le
  have hv : ∃ A' c', v' = .slice A' (n + 1) c' ∧ n + 1 ≤ c' := by
    rcases ho.2 with ⟨_, hn⟩ | ⟨g, cap, cur, rfl, _, _, hnc, _⟩
    · omega
    · exact ⟨_, cap, rfl, hnc⟩
  obtain ⟨A', c', rfl, hc⟩ := hv
  have hO := Off.of_grown hg
  have hnew : ∀ k, (Value.slice A' (n + 1) c').ownBlock = some k → v.ownBlock = some k ∨ W.heap.size + 1 ≤ k := by
    intro k hk
    rcases hor with e | e
    · exact .inl (by rw [← e]; exact hk)
    · rw [e] at hk
      injection hk with hk
      exact .inr (by omega)
  have key : ∀ (j : Nat) (r : RowT), (R.set i ⟨t, s, .slice A' (n + 1) c', n + 1, xs ++ us⟩)[j]? = some r → (i = j ∧ r = ⟨t, s, .slice A' (n + 1) c', n + 1, xs ++ us⟩) ∨ (i ≠ j ∧ R[j]? = some r) := by
    intro j r hj
    by_cases e : i = j
    · subst e
      rw [List.getElem?_set_self hil] at hj
      injection hj with hj
      exact .inl ⟨rfl, hj.symm⟩
    · rw [List.getElem?_set_ne e] at hj
      exact .inr ⟨e, hj⟩
  refine ⟨A', c', W1, hrun, hc, ⟨⟨?_, ?_, fun m g o hm => ?_, h.sx.ne⟩, fun j r hj => ?_, fun j m k r r' hjm hj hm hk hk' => ?_, fun j m k r p hj hk hm => ?_⟩⟩
  · exact hO.below h2.sx.below h2.sx.le (fun q hq e => by have := (own_lt (h.own i _ hi) e.symm).1; omega)
  · exact Nat.le_trans h2.sx.le hO.size
  · have h3 := h2.sx.has m g o hm
    exact ⟨(hO.block g (h2.sx.lt hm) (fun e => h.nl i m g _ _ hi e.symm hm rfl)).trans h3.1, h3.2⟩
  · rcases key j r hj with ⟨_, rfl⟩ | ⟨e, hj⟩
    · exact ho
    · exact own_off (h2.own j r hj) hO (fun k hk e2 => h.ne j i k r _ (fun e3 => e e3.symm) hj hi hk e2.symm)
  · rcases key j r hj with ⟨e0, rfl⟩ | ⟨e, hj⟩ <;> rcases key m r' hm with ⟨e0', rfl⟩ | ⟨e', hm⟩
    · omega
    · rcases hnew k hk with g | g
      · exact h.ne i m k _ r' e' hi hm g hk'
      · have := (own_lt (h.own m r' hm) hk').2
        omega
    · rcases hnew k hk' with g | g
      · exact h.ne j i k r _ (fun e3 => e e3.symm) hj hi hk g
      · have := (own_lt (h.own j r hj) hk).2
        omega
    · exact h.ne j m k r r' hjm hj hm hk hk'
  · rcases key j r hj with ⟨_, rfl⟩ | ⟨_, hj⟩
    · rcases hnew k hk with g | g
      · exact h.nl i m k _ p hi g hm
      · have := h.sx.lt (i := m) (g := p.1) (o := p.2) hm
        omega
    · exact h.nl j m k r p hj hk hm

/-- An operation that appends, its run known. -/
theorem oper_append_run {P : Program} {w w' : World} {o : Oper} {a : Act} {K : Act → World → Prop} {Q : Exit → Act → World → Prop} (s x : Operand) (t : TypeId)
    (ho : o.op = .call { callee := .builtin .append, args := #[s, x], argTypes := #[t, t] }) {sv xv v' : Value} (hs : a.eval s = sv) (hx : a.eval x = xv)
    (hrun : (Builtin.append_ #[t, t] o.type #[sv, xv]).run P w = .ok v' w') (h : K (a.put o.dst v') w') : o.wp P a w K Q := by
  unfold Oper.wp execOp
  simp only [ho, resolve, invoke, builtin, Sem.run_bind, Sem.run_pure, Result.andThen_ok, List.map_toArray, List.map_cons, List.map_nil, hs, hx, hrun]
  exact h

end Go.Proofs.Ythbafbgnclpbpaa
