/- Contracts of package pairs: Clone. -/
import Derived.Test.YtggjlnjpokdfpaaPMap3
namespace Go.Proofs.Ytggjlnjpokdfpaa
open Go.RowKit

theorem Sx.pick3 {B : Nat} {W0 W : World} {L : List (Nat × Obj)} (h : Sx B W0 W L) {p q r : Nat × Obj} (x y z : Nat) (h0 : L[x]? = some p) (h1 : L[y]? = some q) (h2 : L[z]? = some r) (hxy : x ≠ y ∧ x ≠ z ∧ y ≠ z) : Sx B W0 W [p, q, r] := by
  have key : ∀ (i : Nat) (s : Nat × Obj), [p, q, r][i]? = some s → ∃ j, L[j]? = some s ∧ ((i = 0 ∧ j = x) ∨ (i = 1 ∧ j = y) ∨ (i = 2 ∧ j = z)) := by
    intro i s hs
    rcases i with _ | _ | _ | i
    · exact ⟨x, by simp at hs; subst hs; exact h0, .inl ⟨rfl, rfl⟩⟩
    · exact ⟨y, by simp at hs; subst hs; exact h1, .inr (.inl ⟨rfl, rfl⟩)⟩
    · exact ⟨z, by simp at hs; subst hs; exact h2, .inr (.inr ⟨rfl, rfl⟩)⟩
    · simp at hs
  refine ⟨h.below, h.le, fun i g o hi => ?_, fun i j s s' hij hi hj => ?_⟩
  · obtain ⟨j, hj, _⟩ := key i _ hi
    exact h.has j g o hj
  · obtain ⟨a, ha, hia⟩ := key i s hi
    obtain ⟨b, hb, hib⟩ := key j s' hj
    exact h.ne a b s s' (by omega) ha hb
/-- A block is written anew. -/
theorem Sx.put {B : Nat} {W0 W W' : World} {L : List (Nat × Obj)} {g : Nat} {o o' : Obj} (h : Sx B W0 W L) (i : Nat) (hi : L[i]? = some (g, o)) (ho : Off (fun k => k = g) W W') (hn : W'.heap[g]? = some o') : Sx B W0 W' (L.set i (g, o')) := by
  have hil : i < L.length := (List.getElem?_eq_some_iff.1 hi).1
  have hBg := (h.has i g o hi).2
  have key : ∀ (m : Nat) (p : Nat × Obj), (L.set i (g, o'))[m]? = some p → ∃ p', L[m]? = some p' ∧ p'.1 = p.1 := by
    intro m p hm
    by_cases e : i = m
    · subst e
      rw [List.getElem?_set_self hil] at hm
      injection hm with hm
      exact ⟨_, hi, by rw [← hm]⟩
    · rw [List.getElem?_set_ne e] at hm
      exact ⟨p, hm, rfl⟩
  refine ⟨ho.below h.below h.le (fun q hq e => by omega), Nat.le_trans h.le ho.size, fun j g' o'' hj => ?_, fun j k p q hjk hj hk => ?_⟩
  · by_cases e : i = j
    · subst e
      rw [List.getElem?_set_self hil] at hj
      injection hj with hj
      injection hj with e1 e2
      subst e1; subst e2
      exact ⟨hn, hBg⟩
    · rw [List.getElem?_set_ne e] at hj
      have h1 := h.has j g' o'' hj
      exact ⟨(ho.block g' (h.lt hj) (fun e2 => h.ne i j _ _ e hi hj e2.symm)).trans h1.1, h1.2⟩
  · obtain ⟨p', hp, e1⟩ := key j p hj
    obtain ⟨q', hq, e2⟩ := key k q hk
    rw [← e1, ← e2]
    exact h.ne j k p' q' hjk hp hq
theorem Off.of_setRow (w : World) (g : Nat) (cs : Array Value) : Off (fun k => k = g) w (w.setRow g cs) := ⟨rfl, rfl, rfl, by simp, fun k _ h => setRow_other w g k cs h⟩
/-- 'copy' of a whole row. -/
theorem run_copy_all {P : Program} {w : World} (dT sT T0 elem : TypeId) (hu : P.underlying dT = some (.slice elem)) (hsz : (P.info? elem).map (·.size) = some 1) (sp : Option Addr) (n sCap g : Nat) (cur cs : List Value) (t : TypeId)
    (hg : w.heap[g]? = some (.cells cur.toArray t (0, 0))) (hc : cur.length = n) (hr : Rd w w.heap.size 1 sp n cs) (h1 : ∀ v ∈ cs, v.oneCell' = true) :
    ∃ w', (Builtin.copy_ #[dT, sT] T0 #[.slice (some ⟨g, 0, none⟩) n n, .slice sp n sCap]).run P w = .ok (.int .i64 n) w' ∧ w'.heap[g]? = some (.cells cs.toArray t (0, 0)) ∧ Off (fun k => k = g) w w' := by
  have hcl := hr.len1
  by_cases h0 : cs.length = 0
  · obtain rfl : cs = [] := List.eq_nil_of_length_eq_zero h0
    obtain rfl : cur = [] := List.eq_nil_of_length_eq_zero (by omega)
    have hn : n = 0 := by omega
    subst hn
    exact ⟨w, run_copy_none (P := P) w dT sT T0 elem (some ⟨g, 0, none⟩) sp 0 0 0 sCap hu hsz (by simp), hg, Off.refl _ _⟩
  · obtain ⟨ad, rfl, hsrc⟩ := hr.src (by omega)
    have hrun := run_copy_row (P := P) w dT sT T0 elem g 0 n n ad n sCap cur.toArray t cs hu hsz hg (by simp [hcl]) hsrc (by simp; omega) h1
    have e : List.take 0 cur.toArray.toList ++ cs ++ List.drop (0 + cs.length) cur.toArray.toList = cs := by
      rw [List.take_zero, List.nil_append, List.drop_of_length_le (by simp; omega), List.append_nil]
    rw [e, hcl] at hrun
    exact ⟨_, hrun, setRow_heap w g cur.toArray cs.toArray t (0, 0) hg, Off.of_setRow _ _ _⟩
/-- An operation that copies, its run known. -/
theorem oper_copy_run {P : Program} {w w' : World} {o : Oper} {a : Act} {K : Act → World → Prop} {Q : Exit → Act → World → Prop} (s x : Operand) (dT sT : TypeId)
    (ho : o.op = .call { callee := .builtin .copy, args := #[s, x], argTypes := #[dT, sT] }) {sv xv v' : Value} (hs : a.eval s = sv) (hx : a.eval x = xv)
    (hrun : (Builtin.copy_ #[dT, sT] o.type #[sv, xv]).run P w = .ok v' w') (h : K (a.put o.dst v') w') : o.wp P a w K Q := by
  unfold Oper.wp execOp
  simp only [ho, resolve, invoke, builtin, Sem.run_bind, Sem.run_pure, Result.andThen_ok, List.map_toArray, List.map_cons, List.map_nil, hs, hx, hrun]
  exact h

set_option maxRecDepth 100000 in
set_option maxHeartbeats 4000000 in
theorem pmclone_any (T : Nat → Prop) (g : Nat) (ks : List ByteArray) (vs : List Int) (w : World) (h : MapAt T w g ks vs) (hl : ks.length ≤ 1000) :
    Calls Try.prog 49 #[.pointer (some ⟨g, 0, none⟩)] w (NewRet ks vs w) := by
  obtain ⟨hv, A, ca, B, cb, hM⟩ := h
  have HM := Lib.hid hM
  have HV := Lib.hid hv
  have HGL := Lib.hid hM.lt
  have hmkS := joinS_make ks.length (by omega)
  have hmkU := joinU_make vs.length (by omega)
  have hl1 : ks.length ≤ 9223372036854775807 := by omega
  have hl2 : vs.length ≤ 9223372036854775807 := by omega
  clear hM hv hl
  go_enter Try.func49, Try.ntmps49
  go_upto_region 3 with fail
  go_cut [3] (fun s3 wx => ∃ b1 b2 g3, s3 = .pointer (some ⟨g3, 0, none⟩) ∧ Hid (Sx w.heap.size w wx [(b1, .cells (zrow ks.length (.string ByteArray.empty)).toArray 9), (b2, .cells (zrow vs.length (.int .u64 0)).toArray 57), (g3, .cells #[.slice (some ⟨b1, 0, none⟩) ks.length ks.length, .slice (some ⟨b2, 0, none⟩) vs.length vs.length] 78)]))
  case first =>
    have hS := Lib.hid (Sx.start w)
    refine wp_region_held_drew (S := fun w' => Below w.heap.size w w') (by kernel_rfl) (Below.drew (Below.refl _ _)) (fun hcur => ?_)
    (try dsimp only at hcur)
    generalize w.drew = X at hS hcur ⊢
    refine wpAnyH_take (i := 0) (v := ?_) rfl (by decide +kernel) (by decide +kernel) (by decide +kernel) (fun _ _ _ h => h) (Or.inl ⟨by rfl, ?hy⟩) hcur ?_
    case hy =>
      intro w1 hSw
      (try dsimp only at hSw)
      obtain ⟨m0, m1, -, -⟩ := pr_facts ((hSw.block g HGL.out).trans HM.out.cell)
      go_simp
      (try with_reducible rfl)
    (try simp only [Act.put, List.getElem_toArray, List.getElem_cons_zero, List.getElem_cons_succ, List.setIfInBounds_toArray, List.set_cons_zero, List.set_cons_succ])
    refine wpAnyH_take (i := 1) (v := ?_) rfl (by decide +kernel) (by decide +kernel) (by decide +kernel) (fun _ _ _ h => h) (Or.inl ⟨by rfl, ?hy⟩) hcur ?_
    case hy =>
      intro w1 hSw
      (try dsimp only at hSw)
      obtain ⟨m0, m1, -, -⟩ := pr_facts ((hSw.block g HGL.out).trans HM.out.cell)
      go_simp
      (try with_reducible rfl)
    (try simp only [Act.put, List.getElem_toArray, List.getElem_cons_zero, List.getElem_cons_succ, List.setIfInBounds_toArray, List.set_cons_zero, List.set_cons_succ])
    refine wpAnyH_take (i := 2) (v := ?_) rfl (by decide +kernel) (by decide +kernel) (by decide +kernel) (fun _ _ _ h => h) (Or.inl ⟨by rfl, ?hy⟩) hcur ?_
    case hy =>
      intro w1 hSw
      (try dsimp only at hSw)
      obtain ⟨m0, m1, -, -⟩ := pr_facts ((hSw.block g HGL.out).trans HM.out.cell)
      go_simp
      (try with_reducible rfl)
    (try simp only [Act.put, List.getElem_toArray, List.getElem_cons_zero, List.getElem_cons_succ, List.setIfInBounds_toArray, List.set_cons_zero, List.set_cons_succ])
    refine wpAnyH_take (i := 3) (v := ?_) rfl (by decide +kernel) (by decide +kernel) (by decide +kernel) (fun _ _ _ h => h) (Or.inl ⟨by rfl, ?hy⟩) hcur ?_
    case hy =>
      intro w1 hSw
      (try dsimp only at hSw)
      obtain ⟨m0, m1, -, -⟩ := pr_facts ((hSw.block g HGL.out).trans HM.out.cell)
      go_simp
      (try with_reducible rfl)
    (try simp only [Act.put, List.getElem_toArray, List.getElem_cons_zero, List.getElem_cons_succ, List.setIfInBounds_toArray, List.set_cons_zero, List.set_cons_succ])
    refine wpAnyH_take (i := 4) (v := ?_) rfl (by decide +kernel) (by decide +kernel) (by decide +kernel) (fun _ _ _ h => h) (Or.inl ⟨by rfl, ?hy⟩) hcur ?_
    case hy =>
      intro w1 hSw
      (try dsimp only at hSw)
      obtain ⟨m0, m1, -, -⟩ := pr_facts ((hSw.block g HGL.out).trans HM.out.cell)
      go_simp
      (try with_reducible rfl)
    (try simp only [Act.put, List.getElem_toArray, List.getElem_cons_zero, List.getElem_cons_succ, List.setIfInBounds_toArray, List.set_cons_zero, List.set_cons_succ])
    refine wpAnyH_take (i := 6) (v := ?_) rfl (by decide +kernel) (by decide +kernel) (by decide +kernel) (fun _ _ _ h => h) (Or.inl ⟨by rfl, ?hy⟩) hcur ?_
    case hy =>
      intro w1 hSw
      (try dsimp only at hSw)
      obtain ⟨m0, m1, -, -⟩ := pr_facts ((hSw.block g HGL.out).trans HM.out.cell)
      go_simp
      (try with_reducible rfl)
    (try simp only [Act.put, List.getElem_toArray, List.getElem_cons_zero, List.getElem_cons_succ, List.setIfInBounds_toArray, List.set_cons_zero, List.set_cons_succ])
    refine wpAnyH_take (i := 7) (v := ?_) rfl (by decide +kernel) (by decide +kernel) (by decide +kernel) (fun _ _ _ h => h) (Or.inl ⟨by rfl, ?hy⟩) hcur ?_
    case hy =>
      intro w1 hSw
      (try dsimp only at hSw)
      obtain ⟨m0, m1, -, -⟩ := pr_facts ((hSw.block g HGL.out).trans HM.out.cell)
      go_simp
      (try with_reducible rfl)
    (try simp only [Act.put, List.getElem_toArray, List.getElem_cons_zero, List.getElem_cons_succ, List.setIfInBounds_toArray, List.set_cons_zero, List.set_cons_succ])
    refine wpAnyH_take (i := 8) (v := ?_) rfl (by decide +kernel) (by decide +kernel) (by decide +kernel) (fun _ _ _ h => h) (Or.inl ⟨by rfl, ?hy⟩) hcur ?_
    case hy =>
      intro w1 hSw
      (try dsimp only at hSw)
      obtain ⟨m0, m1, -, -⟩ := pr_facts ((hSw.block g HGL.out).trans HM.out.cell)
      go_simp
      (try with_reducible rfl)
    (try simp only [Act.put, List.getElem_toArray, List.getElem_cons_zero, List.getElem_cons_succ, List.setIfInBounds_toArray, List.set_cons_zero, List.set_cons_succ])
    refine wpAnyH_take (i := 9) (v := ?_) rfl (by decide +kernel) (by decide +kernel) (by decide +kernel) (fun _ _ _ h => h) (Or.inl ⟨by rfl, ?hy⟩) hcur ?_
    case hy =>
      intro w1 hSw
      (try dsimp only at hSw)
      obtain ⟨m0, m1, -, -⟩ := pr_facts ((hSw.block g HGL.out).trans HM.out.cell)
      go_simp
      (try with_reducible rfl)
    (try simp only [Act.put, List.getElem_toArray, List.getElem_cons_zero, List.getElem_cons_succ, List.setIfInBounds_toArray, List.set_cons_zero, List.set_cons_succ])
    refine wpAnyH_take (i := 10) (v := ?_) rfl (by decide +kernel) (by decide +kernel) (by decide +kernel) (fun _ _ _ h => h) (Or.inl ⟨by rfl, ?hy⟩) hcur ?_
    case hy =>
      intro w1 hSw
      (try dsimp only at hSw)
      obtain ⟨m0, m1, -, -⟩ := pr_facts ((hSw.block g HGL.out).trans HM.out.cell)
      go_simp
      (try with_reducible rfl)
    (try simp only [Act.put, List.getElem_toArray, List.getElem_cons_zero, List.getElem_cons_succ, List.setIfInBounds_toArray, List.set_cons_zero, List.set_cons_succ])
    refine wpAnyH_ready (rs := [5, 11]) (by decide +kernel) (by simp) ?_
    refine AllReadyH.cons rfl (fun K hK => ?_) (AllReadyH.cons rfl (fun K hK => ?_) AllReadyH.nil)
    · go_simp
      replace hS := Lib.hid (hS.out.alloc (.cells (zrow ks.length (.string ByteArray.empty)).toArray 9))
      simp only [List.cons_append, List.nil_append, List.set_cons_zero, List.set_cons_succ] at hS
      refine hK.out _ _ (hS.out.below) (fun hcur2 => ?_)
      clear hK K
      replace hcur := hcur2
      (try dsimp only at hcur)
      clear hcur2
      (try simp only [Act.put, List.getElem_toArray, List.getElem_cons_zero, List.getElem_cons_succ, List.setIfInBounds_toArray, List.set_cons_zero, List.set_cons_succ])
      generalize X.heap.size = b1 at hS ⊢
      generalize X.alloc _ = X at hS hcur ⊢
      refine wpAnyH_ready (rs := [11]) (by decide +kernel) (by simp) ?_
      refine AllReadyH.cons rfl (fun K hK => ?_) AllReadyH.nil
      go_simp
      replace hS := Lib.hid (hS.out.alloc (.cells (zrow vs.length (.int .u64 0)).toArray 57))
      simp only [List.cons_append, List.nil_append, List.set_cons_zero, List.set_cons_succ] at hS
      refine hK.out _ _ (hS.out.below) (fun hcur2 => ?_)
      clear hK K
      replace hcur := hcur2
      (try dsimp only at hcur)
      clear hcur2
      (try simp only [Act.put, List.getElem_toArray, List.getElem_cons_zero, List.getElem_cons_succ, List.setIfInBounds_toArray, List.set_cons_zero, List.set_cons_succ])
      generalize X.heap.size = b2 at hS ⊢
      generalize X.alloc _ = X at hS hcur ⊢
      refine wpAnyH_take (i := 12) (v := ?_) rfl (by decide +kernel) (by decide +kernel) (by decide +kernel) (fun _ _ _ h => h) (Or.inl ⟨by rfl, ?hy⟩) hcur ?_
      case hy =>
        intro w1 hSw
        (try dsimp only at hSw)
        obtain ⟨m0, m1, -, -⟩ := pr_facts ((hSw.block g HGL.out).trans HM.out.cell)
        go_simp
        (try with_reducible rfl)
      (try simp only [Act.put, List.getElem_toArray, List.getElem_cons_zero, List.getElem_cons_succ, List.setIfInBounds_toArray, List.set_cons_zero, List.set_cons_succ])
      refine wpAnyH_ready (rs := [13]) (by decide +kernel) (by simp) ?_
      refine AllReadyH.cons rfl (fun K hK => ?_) AllReadyH.nil
      go_simp
      replace hS := Lib.hid (hS.out.alloc (.cells #[.slice (some ⟨b1, 0, none⟩) ks.length ks.length, .slice (some ⟨b2, 0, none⟩) vs.length vs.length] 78))
      simp only [List.cons_append, List.nil_append, List.set_cons_zero, List.set_cons_succ] at hS
      refine hK.out _ _ (hS.out.below) (fun hcur2 => ?_)
      clear hK K
      replace hcur := hcur2
      (try dsimp only at hcur)
      clear hcur2
      (try simp only [Act.put, List.getElem_toArray, List.getElem_cons_zero, List.getElem_cons_succ, List.setIfInBounds_toArray, List.set_cons_zero, List.set_cons_succ])
      generalize X.heap.size = g3 at hS ⊢
      generalize X.alloc _ = X at hS hcur ⊢
      refine wpAnyH_take (i := 14) (v := ?_) rfl (by decide +kernel) (by decide +kernel) (by decide +kernel) (fun _ _ _ h => h) (Or.inl ⟨by rfl, ?hy⟩) hcur ?_
      case hy =>
        intro w1 hSw
        (try dsimp only at hSw)
        obtain ⟨m0, m1, -, -⟩ := pr_facts ((hSw.block g HGL.out).trans HM.out.cell)
        go_simp
        (try with_reducible rfl)
      (try simp only [Act.put, List.getElem_toArray, List.getElem_cons_zero, List.getElem_cons_succ, List.setIfInBounds_toArray, List.set_cons_zero, List.set_cons_succ])
      refine wpAnyH_done (by decide +kernel) ?_ _
      clear hcur
      have HF := Lib.hid (hS.out.pick3 0 1 2 rfl rfl rfl (by omega))
      clear hS
      go_wp2_with fail
      go_meet
      exact ⟨b1, b2, g3, rfl, HF⟩
    · go_simp
      replace hS := Lib.hid (hS.out.alloc (.cells (zrow vs.length (.int .u64 0)).toArray 57))
      simp only [List.cons_append, List.nil_append, List.set_cons_zero, List.set_cons_succ] at hS
      refine hK.out _ _ (hS.out.below) (fun hcur2 => ?_)
      clear hK K
      replace hcur := hcur2
      (try dsimp only at hcur)
      clear hcur2
      (try simp only [Act.put, List.getElem_toArray, List.getElem_cons_zero, List.getElem_cons_succ, List.setIfInBounds_toArray, List.set_cons_zero, List.set_cons_succ])
      generalize X.heap.size = b2 at hS ⊢
      generalize X.alloc _ = X at hS hcur ⊢
      refine wpAnyH_ready (rs := [5]) (by decide +kernel) (by simp) ?_
      refine AllReadyH.cons rfl (fun K hK => ?_) AllReadyH.nil
      go_simp
      replace hS := Lib.hid (hS.out.alloc (.cells (zrow ks.length (.string ByteArray.empty)).toArray 9))
      simp only [List.cons_append, List.nil_append, List.set_cons_zero, List.set_cons_succ] at hS
      refine hK.out _ _ (hS.out.below) (fun hcur2 => ?_)
      clear hK K
      replace hcur := hcur2
      (try dsimp only at hcur)
      clear hcur2
      (try simp only [Act.put, List.getElem_toArray, List.getElem_cons_zero, List.getElem_cons_succ, List.setIfInBounds_toArray, List.set_cons_zero, List.set_cons_succ])
      generalize X.heap.size = b1 at hS ⊢
      generalize X.alloc _ = X at hS hcur ⊢
      refine wpAnyH_take (i := 12) (v := ?_) rfl (by decide +kernel) (by decide +kernel) (by decide +kernel) (fun _ _ _ h => h) (Or.inl ⟨by rfl, ?hy⟩) hcur ?_
      case hy =>
        intro w1 hSw
        (try dsimp only at hSw)
        obtain ⟨m0, m1, -, -⟩ := pr_facts ((hSw.block g HGL.out).trans HM.out.cell)
        go_simp
        (try with_reducible rfl)
      (try simp only [Act.put, List.getElem_toArray, List.getElem_cons_zero, List.getElem_cons_succ, List.setIfInBounds_toArray, List.set_cons_zero, List.set_cons_succ])
      refine wpAnyH_ready (rs := [13]) (by decide +kernel) (by simp) ?_
      refine AllReadyH.cons rfl (fun K hK => ?_) AllReadyH.nil
      go_simp
      replace hS := Lib.hid (hS.out.alloc (.cells #[.slice (some ⟨b1, 0, none⟩) ks.length ks.length, .slice (some ⟨b2, 0, none⟩) vs.length vs.length] 78))
      simp only [List.cons_append, List.nil_append, List.set_cons_zero, List.set_cons_succ] at hS
      refine hK.out _ _ (hS.out.below) (fun hcur2 => ?_)
      clear hK K
      replace hcur := hcur2
      (try dsimp only at hcur)
      clear hcur2
      (try simp only [Act.put, List.getElem_toArray, List.getElem_cons_zero, List.getElem_cons_succ, List.setIfInBounds_toArray, List.set_cons_zero, List.set_cons_succ])
      generalize X.heap.size = g3 at hS ⊢
      generalize X.alloc _ = X at hS hcur ⊢
      refine wpAnyH_take (i := 14) (v := ?_) rfl (by decide +kernel) (by decide +kernel) (by decide +kernel) (fun _ _ _ h => h) (Or.inl ⟨by rfl, ?hy⟩) hcur ?_
      case hy =>
        intro w1 hSw
        (try dsimp only at hSw)
        obtain ⟨m0, m1, -, -⟩ := pr_facts ((hSw.block g HGL.out).trans HM.out.cell)
        go_simp
        (try with_reducible rfl)
      (try simp only [Act.put, List.getElem_toArray, List.getElem_cons_zero, List.getElem_cons_succ, List.setIfInBounds_toArray, List.set_cons_zero, List.set_cons_succ])
      refine wpAnyH_done (by decide +kernel) ?_ _
      clear hcur
      have HF := Lib.hid (hS.out.pick3 1 0 2 rfl rfl rfl (by omega))
      clear hS
      go_wp2_with fail
      go_meet
      exact ⟨b1, b2, g3, rfl, HF⟩
  case rest =>
    obtain ⟨b1, b2, g3, rfl, hS⟩ := hcut
    clear hmkS hmkU
    go_upto_region 4 with fail
    generalize wc = W at hS ⊢
    have hd := Below.drew (Below.refl W.heap.size W)
    have HWB := Lib.hid (And.intro hS.out.below (And.intro hS.out.le (And.intro (hS.out.has 0 _ _ rfl).2 (And.intro (hS.out.lt (i := 2) rfl) (And.intro (show g3 ≠ b1 from hS.out.ne 2 0 _ _ (by omega) rfl rfl) (hS.out.has 2 _ _ rfl).1)))))
    refine wp_region_held_drew (S := fun w' => Off (fun k => k = b1) W w') (by kernel_rfl) (Off.of_below hd _) (fun hcur => ?_)
    (try dsimp only at hcur)
    replace hS := Lib.hid (hS.out.call hd)
    have hcur0 := Off.of_below hd (fun k => k = b1)
    clear hd
    generalize W.drew = X at hS hcur hcur0 ⊢
    refine wpAnyH_take (i := 0) (v := ?_) rfl (by decide +kernel) (by decide +kernel) (by decide +kernel) (fun _ _ _ h => h) (Or.inl ⟨by rfl, ?hy⟩) hcur ?_
    case hy =>
      intro w1 hSw
      (try dsimp only at hSw)
      have hbw := hSw.below HWB.out.1 HWB.out.2.1 (fun q hq e => by have := HWB.out.2.2.1; omega)
      obtain ⟨m0, m1, -, -⟩ := pr_facts ((hbw.block g HGL.out).trans HM.out.cell)
      obtain ⟨c0, c1, -, -⟩ := pr_facts ((hSw.block g3 HWB.out.2.2.2.1 HWB.out.2.2.2.2.1).trans HWB.out.2.2.2.2.2)
      clear hbw
      go_simp
      (try with_reducible rfl)
    (try simp only [Act.put, List.getElem_toArray, List.getElem_cons_zero, List.getElem_cons_succ, List.setIfInBounds_toArray, List.set_cons_zero, List.set_cons_succ])
    refine wpAnyH_take (i := 1) (v := ?_) rfl (by decide +kernel) (by decide +kernel) (by decide +kernel) (fun _ _ _ h => h) (Or.inl ⟨by rfl, ?hy⟩) hcur ?_
    case hy =>
      intro w1 hSw
      (try dsimp only at hSw)
      have hbw := hSw.below HWB.out.1 HWB.out.2.1 (fun q hq e => by have := HWB.out.2.2.1; omega)
      obtain ⟨m0, m1, -, -⟩ := pr_facts ((hbw.block g HGL.out).trans HM.out.cell)
      obtain ⟨c0, c1, -, -⟩ := pr_facts ((hSw.block g3 HWB.out.2.2.2.1 HWB.out.2.2.2.2.1).trans HWB.out.2.2.2.2.2)
      clear hbw
      go_simp
      (try with_reducible rfl)
    (try simp only [Act.put, List.getElem_toArray, List.getElem_cons_zero, List.getElem_cons_succ, List.setIfInBounds_toArray, List.set_cons_zero, List.set_cons_succ])
    refine wpAnyH_take (i := 2) (v := ?_) rfl (by decide +kernel) (by decide +kernel) (by decide +kernel) (fun _ _ _ h => h) (Or.inl ⟨by rfl, ?hy⟩) hcur ?_
    case hy =>
      intro w1 hSw
      (try dsimp only at hSw)
      have hbw := hSw.below HWB.out.1 HWB.out.2.1 (fun q hq e => by have := HWB.out.2.2.1; omega)
      obtain ⟨m0, m1, -, -⟩ := pr_facts ((hbw.block g HGL.out).trans HM.out.cell)
      obtain ⟨c0, c1, -, -⟩ := pr_facts ((hSw.block g3 HWB.out.2.2.2.1 HWB.out.2.2.2.2.1).trans HWB.out.2.2.2.2.2)
      clear hbw
      go_simp
      (try with_reducible rfl)
    (try simp only [Act.put, List.getElem_toArray, List.getElem_cons_zero, List.getElem_cons_succ, List.setIfInBounds_toArray, List.set_cons_zero, List.set_cons_succ])
    refine wpAnyH_take (i := 3) (v := ?_) rfl (by decide +kernel) (by decide +kernel) (by decide +kernel) (fun _ _ _ h => h) (Or.inl ⟨by rfl, ?hy⟩) hcur ?_
    case hy =>
      intro w1 hSw
      (try dsimp only at hSw)
      have hbw := hSw.below HWB.out.1 HWB.out.2.1 (fun q hq e => by have := HWB.out.2.2.1; omega)
      obtain ⟨m0, m1, -, -⟩ := pr_facts ((hbw.block g HGL.out).trans HM.out.cell)
      obtain ⟨c0, c1, -, -⟩ := pr_facts ((hSw.block g3 HWB.out.2.2.2.1 HWB.out.2.2.2.2.1).trans HWB.out.2.2.2.2.2)
      clear hbw
      go_simp
      (try with_reducible rfl)
    (try simp only [Act.put, List.getElem_toArray, List.getElem_cons_zero, List.getElem_cons_succ, List.setIfInBounds_toArray, List.set_cons_zero, List.set_cons_succ])
    refine wpAnyH_take (i := 4) (v := ?_) rfl (by decide +kernel) (by decide +kernel) (by decide +kernel) (fun _ _ _ h => h) (Or.inl ⟨by rfl, ?hy⟩) hcur ?_
    case hy =>
      intro w1 hSw
      (try dsimp only at hSw)
      have hbw := hSw.below HWB.out.1 HWB.out.2.1 (fun q hq e => by have := HWB.out.2.2.1; omega)
      obtain ⟨m0, m1, -, -⟩ := pr_facts ((hbw.block g HGL.out).trans HM.out.cell)
      obtain ⟨c0, c1, -, -⟩ := pr_facts ((hSw.block g3 HWB.out.2.2.2.1 HWB.out.2.2.2.2.1).trans HWB.out.2.2.2.2.2)
      clear hbw
      go_simp
      (try with_reducible rfl)
    (try simp only [Act.put, List.getElem_toArray, List.getElem_cons_zero, List.getElem_cons_succ, List.setIfInBounds_toArray, List.set_cons_zero, List.set_cons_succ])
    refine wpAnyH_take (i := 5) (v := ?_) rfl (by decide +kernel) (by decide +kernel) (by decide +kernel) (fun _ _ _ h => h) (Or.inl ⟨by rfl, ?hy⟩) hcur ?_
    case hy =>
      intro w1 hSw
      (try dsimp only at hSw)
      have hbw := hSw.below HWB.out.1 HWB.out.2.1 (fun q hq e => by have := HWB.out.2.2.1; omega)
      obtain ⟨m0, m1, -, -⟩ := pr_facts ((hbw.block g HGL.out).trans HM.out.cell)
      obtain ⟨c0, c1, -, -⟩ := pr_facts ((hSw.block g3 HWB.out.2.2.2.1 HWB.out.2.2.2.2.1).trans HWB.out.2.2.2.2.2)
      clear hbw
      go_simp
      (try with_reducible rfl)
    (try simp only [Act.put, List.getElem_toArray, List.getElem_cons_zero, List.getElem_cons_succ, List.setIfInBounds_toArray, List.set_cons_zero, List.set_cons_succ])
    refine wpAnyH_take (i := 6) (v := ?_) rfl (by decide +kernel) (by decide +kernel) (by decide +kernel) (fun _ _ _ h => h) (Or.inl ⟨by rfl, ?hy⟩) hcur ?_
    case hy =>
      intro w1 hSw
      (try dsimp only at hSw)
      have hbw := hSw.below HWB.out.1 HWB.out.2.1 (fun q hq e => by have := HWB.out.2.2.1; omega)
      obtain ⟨m0, m1, -, -⟩ := pr_facts ((hbw.block g HGL.out).trans HM.out.cell)
      obtain ⟨c0, c1, -, -⟩ := pr_facts ((hSw.block g3 HWB.out.2.2.2.1 HWB.out.2.2.2.2.1).trans HWB.out.2.2.2.2.2)
      clear hbw
      go_simp
      (try with_reducible rfl)
    (try simp only [Act.put, List.getElem_toArray, List.getElem_cons_zero, List.getElem_cons_succ, List.setIfInBounds_toArray, List.set_cons_zero, List.set_cons_succ])
    refine wpAnyH_take (i := 7) (v := ?_) rfl (by decide +kernel) (by decide +kernel) (by decide +kernel) (fun _ _ _ h => h) (Or.inl ⟨by rfl, ?hy⟩) hcur ?_
    case hy =>
      intro w1 hSw
      (try dsimp only at hSw)
      have hbw := hSw.below HWB.out.1 HWB.out.2.1 (fun q hq e => by have := HWB.out.2.2.1; omega)
      obtain ⟨m0, m1, -, -⟩ := pr_facts ((hbw.block g HGL.out).trans HM.out.cell)
      obtain ⟨c0, c1, -, -⟩ := pr_facts ((hSw.block g3 HWB.out.2.2.2.1 HWB.out.2.2.2.2.1).trans HWB.out.2.2.2.2.2)
      clear hbw
      go_simp
      (try with_reducible rfl)
    (try simp only [Act.put, List.getElem_toArray, List.getElem_cons_zero, List.getElem_cons_succ, List.setIfInBounds_toArray, List.set_cons_zero, List.set_cons_succ])
    refine wpAnyH_ready (rs := [8]) (by decide +kernel) (by simp) ?_
    refine AllReadyH.cons rfl (fun K hK => ?_) AllReadyH.nil
    obtain ⟨w7, hrun, hnew, hoff⟩ := run_copy_all (P := Try.prog) (w := X) 34 34 3 9 (by kernel_rfl) joinS_size A ks.length ca b1 (zrow ks.length (.string ByteArray.empty)) (strs ks) 9 (hS.out.has 0 _ _ rfl).1 (zrow_length _ _) (HM.out.up hS.out.below).keys (strs_one _)
    (try rw [if_pos (by rfl)])
    refine oper_copy_run (.tmp 23) (.tmp 27) 34 34 rfl rfl rfl hrun ?_
    have hoff2 := hcur0.trans hoff (fun _ _ q => q)
    replace hS := Lib.hid (hS.out.put 0 rfl hoff hnew)
    simp only [List.cons_append, List.nil_append, List.set_cons_zero, List.set_cons_succ] at hS
    clear hrun hnew hoff HWB hcur0
    refine hK.out _ _ (hoff2) (fun hcur2 => ?_)
    clear hK K
    replace hcur := hcur2
    (try dsimp only at hcur)
    clear hcur2
    (try simp only [Act.put, List.getElem_toArray, List.getElem_cons_zero, List.getElem_cons_succ, List.setIfInBounds_toArray, List.set_cons_zero, List.set_cons_succ])
    refine wpAnyH_done (by decide +kernel) ?_ _
    clear hoff2 hcur
    go_upto_region 5 with fail
    generalize w7 = W at hS ⊢
    have hd := Below.drew (Below.refl W.heap.size W)
    have HWB := Lib.hid (And.intro hS.out.below (And.intro hS.out.le (And.intro (hS.out.has 1 _ _ rfl).2 (And.intro (hS.out.lt (i := 2) rfl) (And.intro (show g3 ≠ b2 from hS.out.ne 2 1 _ _ (by omega) rfl rfl) (hS.out.has 2 _ _ rfl).1)))))
    refine wp_region_held_drew (S := fun w' => Off (fun k => k = b2) W w') (by kernel_rfl) (Off.of_below hd _) (fun hcur => ?_)
    (try dsimp only at hcur)
    replace hS := Lib.hid (hS.out.call hd)
    have hcur0 := Off.of_below hd (fun k => k = b2)
    clear hd
    generalize W.drew = X at hS hcur hcur0 ⊢
    refine wpAnyH_take (i := 0) (v := ?_) rfl (by decide +kernel) (by decide +kernel) (by decide +kernel) (fun _ _ _ h => h) (Or.inl ⟨by rfl, ?hy⟩) hcur ?_
    case hy =>
      intro w1 hSw
      (try dsimp only at hSw)
      have hbw := hSw.below HWB.out.1 HWB.out.2.1 (fun q hq e => by have := HWB.out.2.2.1; omega)
      obtain ⟨m0, m1, -, -⟩ := pr_facts ((hbw.block g HGL.out).trans HM.out.cell)
      obtain ⟨c0, c1, -, -⟩ := pr_facts ((hSw.block g3 HWB.out.2.2.2.1 HWB.out.2.2.2.2.1).trans HWB.out.2.2.2.2.2)
      clear hbw
      go_simp
      (try with_reducible rfl)
    (try simp only [Act.put, List.getElem_toArray, List.getElem_cons_zero, List.getElem_cons_succ, List.setIfInBounds_toArray, List.set_cons_zero, List.set_cons_succ])
    refine wpAnyH_take (i := 1) (v := ?_) rfl (by decide +kernel) (by decide +kernel) (by decide +kernel) (fun _ _ _ h => h) (Or.inl ⟨by rfl, ?hy⟩) hcur ?_
    case hy =>
      intro w1 hSw
      (try dsimp only at hSw)
      have hbw := hSw.below HWB.out.1 HWB.out.2.1 (fun q hq e => by have := HWB.out.2.2.1; omega)
      obtain ⟨m0, m1, -, -⟩ := pr_facts ((hbw.block g HGL.out).trans HM.out.cell)
      obtain ⟨c0, c1, -, -⟩ := pr_facts ((hSw.block g3 HWB.out.2.2.2.1 HWB.out.2.2.2.2.1).trans HWB.out.2.2.2.2.2)
      clear hbw
      go_simp
      (try with_reducible rfl)
    (try simp only [Act.put, List.getElem_toArray, List.getElem_cons_zero, List.getElem_cons_succ, List.setIfInBounds_toArray, List.set_cons_zero, List.set_cons_succ])
    refine wpAnyH_take (i := 2) (v := ?_) rfl (by decide +kernel) (by decide +kernel) (by decide +kernel) (fun _ _ _ h => h) (Or.inl ⟨by rfl, ?hy⟩) hcur ?_
    case hy =>
      intro w1 hSw
      (try dsimp only at hSw)
      have hbw := hSw.below HWB.out.1 HWB.out.2.1 (fun q hq e => by have := HWB.out.2.2.1; omega)
      obtain ⟨m0, m1, -, -⟩ := pr_facts ((hbw.block g HGL.out).trans HM.out.cell)
      obtain ⟨c0, c1, -, -⟩ := pr_facts ((hSw.block g3 HWB.out.2.2.2.1 HWB.out.2.2.2.2.1).trans HWB.out.2.2.2.2.2)
      clear hbw
      go_simp
      (try with_reducible rfl)
    (try simp only [Act.put, List.getElem_toArray, List.getElem_cons_zero, List.getElem_cons_succ, List.setIfInBounds_toArray, List.set_cons_zero, List.set_cons_succ])
    refine wpAnyH_take (i := 3) (v := ?_) rfl (by decide +kernel) (by decide +kernel) (by decide +kernel) (fun _ _ _ h => h) (Or.inl ⟨by rfl, ?hy⟩) hcur ?_
    case hy =>
      intro w1 hSw
      (try dsimp only at hSw)
      have hbw := hSw.below HWB.out.1 HWB.out.2.1 (fun q hq e => by have := HWB.out.2.2.1; omega)
      obtain ⟨m0, m1, -, -⟩ := pr_facts ((hbw.block g HGL.out).trans HM.out.cell)
      obtain ⟨c0, c1, -, -⟩ := pr_facts ((hSw.block g3 HWB.out.2.2.2.1 HWB.out.2.2.2.2.1).trans HWB.out.2.2.2.2.2)
      clear hbw
      go_simp
      (try with_reducible rfl)
    (try simp only [Act.put, List.getElem_toArray, List.getElem_cons_zero, List.getElem_cons_succ, List.setIfInBounds_toArray, List.set_cons_zero, List.set_cons_succ])
    refine wpAnyH_take (i := 4) (v := ?_) rfl (by decide +kernel) (by decide +kernel) (by decide +kernel) (fun _ _ _ h => h) (Or.inl ⟨by rfl, ?hy⟩) hcur ?_
    case hy =>
      intro w1 hSw
      (try dsimp only at hSw)
      have hbw := hSw.below HWB.out.1 HWB.out.2.1 (fun q hq e => by have := HWB.out.2.2.1; omega)
      obtain ⟨m0, m1, -, -⟩ := pr_facts ((hbw.block g HGL.out).trans HM.out.cell)
      obtain ⟨c0, c1, -, -⟩ := pr_facts ((hSw.block g3 HWB.out.2.2.2.1 HWB.out.2.2.2.2.1).trans HWB.out.2.2.2.2.2)
      clear hbw
      go_simp
      (try with_reducible rfl)
    (try simp only [Act.put, List.getElem_toArray, List.getElem_cons_zero, List.getElem_cons_succ, List.setIfInBounds_toArray, List.set_cons_zero, List.set_cons_succ])
    refine wpAnyH_take (i := 5) (v := ?_) rfl (by decide +kernel) (by decide +kernel) (by decide +kernel) (fun _ _ _ h => h) (Or.inl ⟨by rfl, ?hy⟩) hcur ?_
    case hy =>
      intro w1 hSw
      (try dsimp only at hSw)
      have hbw := hSw.below HWB.out.1 HWB.out.2.1 (fun q hq e => by have := HWB.out.2.2.1; omega)
      obtain ⟨m0, m1, -, -⟩ := pr_facts ((hbw.block g HGL.out).trans HM.out.cell)
      obtain ⟨c0, c1, -, -⟩ := pr_facts ((hSw.block g3 HWB.out.2.2.2.1 HWB.out.2.2.2.2.1).trans HWB.out.2.2.2.2.2)
      clear hbw
      go_simp
      (try with_reducible rfl)
    (try simp only [Act.put, List.getElem_toArray, List.getElem_cons_zero, List.getElem_cons_succ, List.setIfInBounds_toArray, List.set_cons_zero, List.set_cons_succ])
    refine wpAnyH_take (i := 6) (v := ?_) rfl (by decide +kernel) (by decide +kernel) (by decide +kernel) (fun _ _ _ h => h) (Or.inl ⟨by rfl, ?hy⟩) hcur ?_
    case hy =>
      intro w1 hSw
      (try dsimp only at hSw)
      have hbw := hSw.below HWB.out.1 HWB.out.2.1 (fun q hq e => by have := HWB.out.2.2.1; omega)
      obtain ⟨m0, m1, -, -⟩ := pr_facts ((hbw.block g HGL.out).trans HM.out.cell)
      obtain ⟨c0, c1, -, -⟩ := pr_facts ((hSw.block g3 HWB.out.2.2.2.1 HWB.out.2.2.2.2.1).trans HWB.out.2.2.2.2.2)
      clear hbw
      go_simp
      (try with_reducible rfl)
    (try simp only [Act.put, List.getElem_toArray, List.getElem_cons_zero, List.getElem_cons_succ, List.setIfInBounds_toArray, List.set_cons_zero, List.set_cons_succ])
    refine wpAnyH_take (i := 7) (v := ?_) rfl (by decide +kernel) (by decide +kernel) (by decide +kernel) (fun _ _ _ h => h) (Or.inl ⟨by rfl, ?hy⟩) hcur ?_
    case hy =>
      intro w1 hSw
      (try dsimp only at hSw)
      have hbw := hSw.below HWB.out.1 HWB.out.2.1 (fun q hq e => by have := HWB.out.2.2.1; omega)
      obtain ⟨m0, m1, -, -⟩ := pr_facts ((hbw.block g HGL.out).trans HM.out.cell)
      obtain ⟨c0, c1, -, -⟩ := pr_facts ((hSw.block g3 HWB.out.2.2.2.1 HWB.out.2.2.2.2.1).trans HWB.out.2.2.2.2.2)
      clear hbw
      go_simp
      (try with_reducible rfl)
    (try simp only [Act.put, List.getElem_toArray, List.getElem_cons_zero, List.getElem_cons_succ, List.setIfInBounds_toArray, List.set_cons_zero, List.set_cons_succ])
    refine wpAnyH_ready (rs := [8]) (by decide +kernel) (by simp) ?_
    refine AllReadyH.cons rfl (fun K hK => ?_) AllReadyH.nil
    obtain ⟨w7, hrun, hnew, hoff⟩ := run_copy_all (P := Try.prog) (w := X) 76 76 3 57 (by kernel_rfl) joinU_size B vs.length cb b2 (zrow vs.length (.int .u64 0)) (u64s vs) 57 (hS.out.has 1 _ _ rfl).1 (zrow_length _ _) (HM.out.up hS.out.below).vals (u64s_one _)
    (try rw [if_pos (by rfl)])
    refine oper_copy_run (.tmp 32) (.tmp 36) 76 76 rfl rfl rfl hrun ?_
    have hoff2 := hcur0.trans hoff (fun _ _ q => q)
    replace hS := Lib.hid (hS.out.put 1 rfl hoff hnew)
    simp only [List.cons_append, List.nil_append, List.set_cons_zero, List.set_cons_succ] at hS
    clear hrun hnew hoff HWB hcur0
    refine hK.out _ _ (hoff2) (fun hcur2 => ?_)
    clear hK K
    replace hcur := hcur2
    (try dsimp only at hcur)
    clear hcur2
    (try simp only [Act.put, List.getElem_toArray, List.getElem_cons_zero, List.getElem_cons_succ, List.setIfInBounds_toArray, List.set_cons_zero, List.set_cons_succ])
    refine wpAnyH_done (by decide +kernel) ?_ _
    clear hoff2 hcur
    have hk := Rd.new (hS.out.has 0 _ _ rfl).1
    rw [strs_length] at hk
    have hvr := Rd.new (hS.out.has 1 _ _ rfl).1
    rw [u64s_length] at hvr
    have hnb1 : b1 ≠ g3 := hS.out.ne 0 2 _ _ (by omega) rfl rfl
    have hnb2 : b2 ≠ g3 := hS.out.ne 1 2 _ _ (by omega) rfl rfl
    have HFI := Lib.hid (show w.heap.size ≤ g3 ∧ MapAt (fun q => q < w.heap.size) _ g3 ks vs ∧ Below w.heap.size w _ from
      ⟨(hS.out.has 2 _ _ rfl).2, ⟨HV.out, some ⟨b1, 0, none⟩, ks.length, some ⟨b2, 0, none⟩, vs.length,
        { cell := (hS.out.has 2 _ _ rfl).1, keys := hk, vals := hvr, fit := HM.out.fit, ka := Nat.le_refl _, kb := Nat.le_refl _
          na := fun a e => by injection e with e; subst e; exact ⟨hnb1, Nat.not_lt.2 (hS.out.has 0 _ _ rfl).2⟩
          nb := fun a e => by injection e with e; subst e; exact ⟨hnb2, Nat.not_lt.2 (hS.out.has 1 _ _ rfl).2⟩
          nt := Nat.not_lt.2 (hS.out.has 2 _ _ rfl).2
          la := fun a e => by injection e with e; subst e; exact hS.out.lt (i := 0) rfl
          lb := fun a e => by injection e with e; subst e; exact hS.out.lt (i := 1) rfl }⟩, hS.out.below⟩)
    clear hk hvr hnb1 hnb2
    go_wp2_with fail
    go_ret
    exact ⟨g3, rfl, HFI.out⟩
theorem pmclone_nil (w : World) : Calls Try.prog 49 #[.pointer none] w (Ret (.pointer none) w) := by
  go_enter Try.func49, Try.ntmps49
  go_wp2_with fail
  go_ret
  exact ⟨rfl, Below.refl _ _⟩

end Go.Proofs.Ytggjlnjpokdfpaa
