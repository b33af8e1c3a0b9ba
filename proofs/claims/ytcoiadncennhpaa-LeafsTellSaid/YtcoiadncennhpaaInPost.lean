/- Contracts of package inner: Post. -/
import Derived.Test.YtcoiadncennhpaaInner
namespace Go.Proofs.Ytcoiadncennhpaa
open Go.RowKit

theorem Sx.start0 (W : World) : Sx W.heap.size W W [] := ⟨Below.refl _ _, Nat.le_refl _, fun i g o h => by simp at h, fun i j p q _ h => by simp at h⟩
theorem Sx.call {B : Nat} {W0 W W' : World} {L : List (Nat × Obj)} (h : Sx B W0 W L) (hb : Below W.heap.size W W') : Sx B W0 W' L := by
  have := h.up hb [] (fun i g o h => by simp at h) (fun i j p q _ h => by simp at h)
  rwa [List.append_nil] at this
theorem Sx.call1 {B : Nat} {W0 W W' : World} {L : List (Nat × Obj)} {o : Obj} (h : Sx B W0 W L) (hb : Below W.heap.size W W') (hh : W'.heap[W.heap.size]? = some o) : Sx B W0 W' (L ++ [(W.heap.size, o)]) := by
  refine h.up hb _ (fun i g o' hi => ?_) (fun i j p q hij hi hj => ?_)
  · rcases i with _ | i
    · simp at hi
      obtain ⟨rfl, rfl⟩ := hi
      exact ⟨hh, Nat.le_refl _⟩
    · simp at hi
  · rcases i with _ | i
    · rcases j with _ | j
      · exact absurd rfl hij
      · simp at hj
    · simp at hi
theorem Sx.setc {B : Nat} {W0 W : World} {L : List (Nat × Obj)} (h : Sx B W0 W L) (i : Nat) {g : Nat} {cs : List Value} {T : TypeId} (hi : L[i]? = some (g, .cells cs.toArray T (0, 0))) (c : Nat) (v : Value) :
    Sx B W0 (W.setCell ⟨g, c, none⟩ v) (L.set i (g, .cells (cs.set c v).toArray T (0, 0))) := by
  have hil : i < L.length := (List.getElem?_eq_some_iff.1 hi).1
  have ho := Off.of_setCell W ⟨g, c, none⟩ v
  have hBg := (h.has i g _ hi).2
  refine ⟨ho.below h.below h.le (fun j hj e => by simp only [] at e; omega), Nat.le_trans h.le ho.size, fun j g' o' hj => ?_, fun j k p q hjk hj hk => ?_⟩
  · by_cases e : i = j
    · subst e
      rw [List.getElem?_set_self hil] at hj
      injection hj with hj
      injection hj with e1 e2
      subst e1; subst e2
      exact ⟨heap_set (h.has i _ _ hi).1 c v, hBg⟩
    · rw [List.getElem?_set_ne e] at hj
      have h1 := h.has j g' o' hj
      exact ⟨(ho.block g' (h.lt hj) (fun e2 => h.ne i j _ _ e hi hj e2.symm)).trans h1.1, h1.2⟩
  · have key : ∀ (m : Nat) (p : Nat × Obj), (L.set i (g, .cells (cs.set c v).toArray T (0, 0)))[m]? = some p → ∃ p', L[m]? = some p' ∧ p'.1 = p.1 := by
      intro m p hm
      by_cases e : i = m
      · subst e
        rw [List.getElem?_set_self hil] at hm
        injection hm with hm
        exact ⟨_, hi, by rw [← hm]⟩
      · rw [List.getElem?_set_ne e] at hm
        exact ⟨p, hm, rfl⟩
    obtain ⟨p', hp, e1⟩ := key j p hj
    obtain ⟨q', hq, e2⟩ := key k q hk
    rw [← e1, ← e2]
    exact h.ne j k p' q' hjk hp hq
theorem alloc_size (w : World) (o : Obj) : (w.alloc o).heap.size = w.heap.size + 1 := by simp
theorem Sx.start2 (w : World) (a b : Obj) : Sx w.heap.size w ((w.alloc a).alloc b) [(w.heap.size, a), (w.heap.size + 1, b)] := by
  have := ((Sx.start0 w).alloc a).alloc b
  rw [alloc_size] at this
  exact this
theorem Sx.start4 (w : World) (a b c d : Obj) : Sx w.heap.size w ((((w.alloc a).alloc b).alloc c).alloc d) [(w.heap.size, a), (w.heap.size + 1, b), (w.heap.size + 2, c), (w.heap.size + 3, d)] := by
  have := ((((Sx.start0 w).alloc a).alloc b).alloc c).alloc d
  simp only [alloc_size] at this
  exact this
theorem one_facts {W : World} {g : Nat} {v : Value} {T : TypeId} (h : W.heap[g]? = some (.cells #[v] T (0, 0))) : W.cell? ⟨g, 0, none⟩ = some v := by simp [World.cell?, h]

/-- A node, and whether there is one, are handed back. -/
def NRet (o : Bool × Nd) (w : World) (e : Ending) (w' : World) : Prop :=
  ∃ A B C ca cb cc, e = .returned (.tuple #[.agg (ndCells o.2 A B C ca cb cc), .bool o.1]) ∧ Lies w' o.2 A B C ca cb cc ∧ Below w.heap.size w w'

set_option maxRecDepth 100000 in
set_option maxHeartbeats 2000000 in
theorem postmay_any (d : Nd) (low : ByteArray) (kid : Int) (hs mt : Bool) (A B C : Option Addr) (ca cb cc g0 g1 g2 g3 g4 : Nat) (W : World) (hl : Lies W d A B C ca cb cc) (hk : low.size ≤ maxLen)
    (c1 : W.cell? ⟨g1, 0, none⟩ = some (.string low)) (c2 : W.cell? ⟨g2, 0, none⟩ = some (.int .i64 kid)) (c3 : W.cell? ⟨g3, 0, none⟩ = some (.bool hs)) (c4 : W.cell? ⟨g4, 0, none⟩ = some (.bool mt)) (hb : Boxed W g0 d A B C ca cb cc)
    (hlt : g0 < W.heap.size ∧ g1 < W.heap.size ∧ g2 < W.heap.size ∧ g3 < W.heap.size ∧ g4 < W.heap.size) :
    Calls Try.prog 107 #[.pointer (some ⟨g1, 0, none⟩), .pointer (some ⟨g2, 0, none⟩), .pointer (some ⟨g3, 0, none⟩), .pointer (some ⟨g4, 0, none⟩), .pointer (some ⟨g0, 0, none⟩)] W (Ret (.bool (goodB low && (cellB kid && (!hs && (!mt && insB d low))))) W) := by
  have HKc := Lib.hid (fun W => check_any low W hk)
  have HCe := Lib.hid (fun W => incell_any kid W)
  have HCo := Lib.hid (fun W hW => covers_any d A B C ca cb cc low W hW hk)
  have hgc : chk low = if goodB low = true then 0 else 2 := by
    cases hg : goodB low
    · exact chk_bad hg
    · exact chk_good hg
  rw [hgc] at HKc
  clear hgc
  generalize goodB low = gb at HKc ⊢
  generalize cellB kid = cl at HCe ⊢
  generalize insB d low = ib at HCo ⊢
  have HR := Lib.hid (Below.refl W.heap.size W)
  have HL := Lib.hid hl
  have HLT := Lib.hid hlt
  have HX := Lib.hid (And.intro c1 (And.intro c2 (And.intro c3 (And.intro c4 hb))))
  clear hl hlt c1 c2 c3 c4 hb
  obtain ⟨level, nlow, high, last, next, keys, vals, kids⟩ := d
  simp only [ndCells] at HCo
  go_enter Try.func107, Try.ntmps107
  go_upto_region 1 with fail
  have c1 := (HR.out.cell (p := ⟨g1, 0, none⟩) HLT.out.2.1).trans HX.out.1
  have c2 := (HR.out.cell (p := ⟨g2, 0, none⟩) HLT.out.2.2.1).trans HX.out.2.1
  have c3 := (HR.out.cell (p := ⟨g3, 0, none⟩) HLT.out.2.2.2.1).trans HX.out.2.2.1
  have c4 := (HR.out.cell (p := ⟨g4, 0, none⟩) HLT.out.2.2.2.2).trans HX.out.2.2.2.1
  obtain ⟨x0, x1, x2, x3, x4, x5, x6, x7⟩ := HX.out.2.2.2.2.up HR.out HLT.out.1
  simp only [] at x0 x1 x2 x3 x4 x5 x6 x7
  cases gb
  · simp only [if_false, Bool.false_eq_true] at HKc
    go_wp2_with fail
    refine (HKc.out _).mono ?_
    rintro e wn ⟨rfl, hbn⟩
    clear c1 c2 c3 c4 x0 x1 x2 x3 x4 x5 x6 x7
    replace HR := Lib.hid (below_of HR.out hbn)
    clear hbn
    have c1 := (HR.out.cell (p := ⟨g1, 0, none⟩) HLT.out.2.1).trans HX.out.1
    have c2 := (HR.out.cell (p := ⟨g2, 0, none⟩) HLT.out.2.2.1).trans HX.out.2.1
    have c3 := (HR.out.cell (p := ⟨g3, 0, none⟩) HLT.out.2.2.2.1).trans HX.out.2.2.1
    have c4 := (HR.out.cell (p := ⟨g4, 0, none⟩) HLT.out.2.2.2.2).trans HX.out.2.2.2.1
    obtain ⟨x0, x1, x2, x3, x4, x5, x6, x7⟩ := HX.out.2.2.2.2.up HR.out HLT.out.1
    simp only [] at x0 x1 x2 x3 x4 x5 x6 x7
    go_wp2_with fail
    go_ret
    exact ⟨rfl, HR.out⟩
  · simp only [if_true] at HKc
    go_wp2_with fail
    refine (HKc.out _).mono ?_
    rintro e wn ⟨rfl, hbn⟩
    clear c1 c2 c3 c4 x0 x1 x2 x3 x4 x5 x6 x7
    replace HR := Lib.hid (below_of HR.out hbn)
    clear hbn
    have c1 := (HR.out.cell (p := ⟨g1, 0, none⟩) HLT.out.2.1).trans HX.out.1
    have c2 := (HR.out.cell (p := ⟨g2, 0, none⟩) HLT.out.2.2.1).trans HX.out.2.1
    have c3 := (HR.out.cell (p := ⟨g3, 0, none⟩) HLT.out.2.2.2.1).trans HX.out.2.2.1
    have c4 := (HR.out.cell (p := ⟨g4, 0, none⟩) HLT.out.2.2.2.2).trans HX.out.2.2.2.1
    obtain ⟨x0, x1, x2, x3, x4, x5, x6, x7⟩ := HX.out.2.2.2.2.up HR.out HLT.out.1
    simp only [] at x0 x1 x2 x3 x4 x5 x6 x7
    go_wp2_with fail
    refine (HCe.out _).mono ?_
    rintro e wn ⟨rfl, hbn⟩
    clear c1 c2 c3 c4 x0 x1 x2 x3 x4 x5 x6 x7
    replace HR := Lib.hid (below_of HR.out hbn)
    clear hbn
    have c1 := (HR.out.cell (p := ⟨g1, 0, none⟩) HLT.out.2.1).trans HX.out.1
    have c2 := (HR.out.cell (p := ⟨g2, 0, none⟩) HLT.out.2.2.1).trans HX.out.2.1
    have c3 := (HR.out.cell (p := ⟨g3, 0, none⟩) HLT.out.2.2.2.1).trans HX.out.2.2.1
    have c4 := (HR.out.cell (p := ⟨g4, 0, none⟩) HLT.out.2.2.2.2).trans HX.out.2.2.2.1
    obtain ⟨x0, x1, x2, x3, x4, x5, x6, x7⟩ := HX.out.2.2.2.2.up HR.out HLT.out.1
    simp only [] at x0 x1 x2 x3 x4 x5 x6 x7
    cases cl
    · go_wp2_with fail
      go_ret
      exact ⟨rfl, HR.out⟩
    · cases hs
      · cases mt
        · go_wp2_with fail
          refine (HCo.out _ (HL.out.up HR.out)).mono ?_
          rintro e wn ⟨rfl, hbn⟩
          clear c1 c2 c3 c4 x0 x1 x2 x3 x4 x5 x6 x7
          replace HR := Lib.hid (below_of HR.out hbn)
          clear hbn
          have c1 := (HR.out.cell (p := ⟨g1, 0, none⟩) HLT.out.2.1).trans HX.out.1
          have c2 := (HR.out.cell (p := ⟨g2, 0, none⟩) HLT.out.2.2.1).trans HX.out.2.1
          have c3 := (HR.out.cell (p := ⟨g3, 0, none⟩) HLT.out.2.2.2.1).trans HX.out.2.2.1
          have c4 := (HR.out.cell (p := ⟨g4, 0, none⟩) HLT.out.2.2.2.2).trans HX.out.2.2.2.1
          obtain ⟨x0, x1, x2, x3, x4, x5, x6, x7⟩ := HX.out.2.2.2.2.up HR.out HLT.out.1
          simp only [] at x0 x1 x2 x3 x4 x5 x6 x7
          go_wp2_with fail
          go_ret
          exact ⟨rfl, HR.out⟩
        · go_wp2_with fail
          go_ret
          exact ⟨rfl, HR.out⟩
      · go_wp2_with fail
        go_ret
        exact ⟨rfl, HR.out⟩

end Go.Proofs.Ytcoiadncennhpaa
