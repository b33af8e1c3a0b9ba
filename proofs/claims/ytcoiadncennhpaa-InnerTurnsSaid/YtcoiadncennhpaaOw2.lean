/- Own rows: one cell of a row is written; a row that is a clone. -/
import Derived.Test.YtcoiadncennhpaaOw
import Derived.Test.YtcoiadncennhpaaClone
namespace Go.Proofs.Ytcoiadncennhpaa
open Go.RowKit

/-- A cell of an own row is written. -/
theorem Ow.setr {B : Nat} {W0 W : World} {L : List (Nat × Obj)} {R : List RowT} (h : Ow B W0 W L R) (i : Nat) {t : TypeId} {g n c : Nat} {xs : List Value} (hi : R[i]? = some ⟨t, 1, .slice (some ⟨g, 0, none⟩) n c, n, xs⟩) (j : Nat) (hj : j < n) (v : Value) :
    Ow B W0 (W.setCell ⟨g, j, none⟩ v) L (R.set i ⟨t, 1, .slice (some ⟨g, 0, none⟩) n c, n, xs.set j v⟩) := by
  have hil : i < R.length := (List.getElem?_eq_some_iff.1 hi).1
  have hO : Off (fun k => k = g) W (W.setCell ⟨g, j, none⟩ v) := Off.of_setCell W ⟨g, j, none⟩ v
  have hgb := own_lt (h.own i _ hi) (show (Value.slice (some ⟨g, 0, none⟩) n c).ownBlock = some g from rfl)
  have key : ∀ (q : Nat) (r : RowT), (R.set i ⟨t, 1, .slice (some ⟨g, 0, none⟩) n c, n, xs.set j v⟩)[q]? = some r → (i = q ∧ r = ⟨t, 1, .slice (some ⟨g, 0, none⟩) n c, n, xs.set j v⟩) ∨ (i ≠ q ∧ R[q]? = some r) := by
    intro q r hq
    by_cases e : i = q
    · subst e
      rw [List.getElem?_set_self hil] at hq
      injection hq with hq
      exact .inl ⟨rfl, hq.symm⟩
    · rw [List.getElem?_set_ne e] at hq
      exact .inr ⟨e, hq⟩
  refine ⟨⟨?_, ?_, fun m g' o hm => ?_, h.sx.ne⟩, fun q r hq => ?_, fun q m k r r' hqm hq hm hk hk' => ?_, fun q m k r p hq hk hm => ?_⟩
  · exact hO.below h.sx.below h.sx.le (fun q hq e => by omega)
  · exact Nat.le_trans h.sx.le hO.size
  · have h3 := h.sx.has m g' o hm
    exact ⟨(hO.block g' (h.sx.lt hm) (fun e => h.nl i m g _ _ hi rfl hm e)).trans h3.1, h3.2⟩
  · rcases key q r hq with ⟨_, rfl⟩ | ⟨e, hq⟩
    · have ho := h.own i _ hi
      refine ⟨by simp only [List.length_set]; exact ho.1, .inr ?_⟩
      rcases ho.2 with ⟨hv, _⟩ | ⟨g', cap, cur, hv, hb, hg, hnc, hcm, hcs, hct⟩
      · cases hv
      · simp only [] at hv
        injection hv with hv1 hv2 hv3
        injection hv1 with hv1
        injection hv1 with hv1
        subst hv1; subst hv3
        refine ⟨g, c, (cur.toList.set j v).toArray, rfl, hb, ?_, hnc, hcm, by simpa using hcs, ?_⟩
        · exact heap_set (cs := cur.toList) (by simpa using hg) j v
        · simp only [] at hct ⊢
          rw [← hct, List.take_set]
    · exact own_off (h.own q r hq) hO (fun k hk e2 => h.ne q i k r _ (fun e3 => e e3.symm) hq hi hk (by rw [e2]; rfl))
  · rcases key q r hq with ⟨e0, rfl⟩ | ⟨e, hq⟩ <;> rcases key m r' hm with ⟨e0', rfl⟩ | ⟨e', hm⟩
    · omega
    · exact h.ne i m k _ r' e' hi hm hk hk'
    · exact h.ne q i k r _ (fun e3 => e e3.symm) hq hi hk hk'
    · exact h.ne q m k r r' hqm hq hm hk hk'
  · rcases key q r hq with ⟨_, rfl⟩ | ⟨_, hq⟩
    · exact h.nl i m k _ p hi hk hm
    · exact h.nl q m k r p hq hk hm

end Go.Proofs.Ytcoiadncennhpaa
