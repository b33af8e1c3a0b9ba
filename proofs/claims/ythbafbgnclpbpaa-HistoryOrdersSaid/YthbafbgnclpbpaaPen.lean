/- Contracts of package sip: the pen. -/
import Derived.Test.YthbafbgnclpbpaaProg
import Derived.Test.YthbafbgnclpbpaaOff
import Derived.Test.YthbafbgnclpbpaaPlDig
import Derived.Test.YthbafbgnclpbpaaClone
namespace Go.Proofs.Ythbafbgnclpbpaa
open Go.RowKit

/-- A pen with bytes: its variable is block bp, its row block r. -/
def PenAt (w : World) (bp : Nat) (r : Option Nat) (l : List Nat) : Prop :=
  ∃ A c, (Value.slice A l.length c).ownBlock = r ∧ w.heap[bp]? = some (.cells #[.slice A l.length c] 40 (0, 0)) ∧ w.ownsRow 0 5 1 (.slice A l.length c) l.length (u8s l) ∧ r ≠ some bp
def penS (bp : Nat) (r : Option Nat) (k : Nat) : Prop := k = bp ∨ some k = r
/-- From one state of a pen to another. -/
def PenRel (w : World) (bp : Nat) (r : Option Nat) (w' : World) (r' : Option Nat) (l' : List Nat) : Prop :=
  PenAt w' bp r' l' ∧ Off (penS bp r) w w' ∧ (r' = r ∨ ∃ k, r' = some k ∧ w.heap.size ≤ k)
/-- What a call of the pen leaves. -/
def PenTo (w : World) (bp : Nat) (r : Option Nat) (l' : List Nat) (e : Ending) (w' : World) : Prop := e = .returned (.tuple #[]) ∧ ∃ r', PenRel w bp r w' r' l'

theorem PenAt.lt {w : World} {bp : Nat} {r : Option Nat} {l : List Nat} (h : PenAt w bp r l) : bp < w.heap.size ∧ ∀ k, r = some k → k < w.heap.size := by
  obtain ⟨A, c, rfl, hb, ho, _⟩ := h
  exact ⟨(Array.getElem?_eq_some_iff.1 hb).1, fun k hk => (ho.lt k hk).2⟩
theorem PenRel.refl {w : World} {bp : Nat} {r : Option Nat} {l : List Nat} (h : PenAt w bp r l) : PenRel w bp r w r l := ⟨h, Off.refl _ _, .inl rfl⟩
theorem PenRel.trans {a b c : World} {bp : Nat} {r r1 r2 : Option Nat} {l1 l2 : List Nat} (h : PenRel a bp r b r1 l1) (k : PenRel b bp r1 c r2 l2) : PenRel a bp r c r2 l2 := by
  refine ⟨k.1, h.2.1.trans k.2.1 (fun j hj hs => ?_), ?_⟩
  · rcases hs with rfl | hs
    · exact .inl rfl
    · rcases h.2.2 with e | ⟨q, e, hq⟩
      · exact .inr (hs.trans e)
      · rw [e] at hs; injection hs with hs; omega
  · rcases k.2.2 with e | ⟨q, e, hq⟩
    · rw [e]; exact h.2.2
    · exact .inr ⟨q, e, Nat.le_trans h.2.1.size hq⟩
/-- A pen stands where nothing of it is turned. -/
theorem PenAt.off {S : Nat → Prop} {w w' : World} {bp : Nat} {r : Option Nat} {l : List Nat} (h : PenAt w bp r l) (hb : Off S w w') (hs : ∀ k, k < w.heap.size → S k → ¬ penS bp r k) : PenAt w' bp r l := by
  have hlt := h.lt
  obtain ⟨A, c, rfl, hbp, ho, hne⟩ := h
  refine ⟨A, c, rfl, (hb.block bp hlt.1 (fun q => hs _ hlt.1 q (.inl rfl))).trans hbp, ?_, hne⟩
  refine ⟨ho.1, ?_⟩
  rcases ho.2 with hn | ⟨g, cap, cur, hv, hb0, hgg, rest⟩
  · exact .inl hn
  · rw [hv] at hs
    exact .inr ⟨g, cap, cur, hv, hb0, (hb.block g (Array.getElem?_eq_some_iff.1 hgg).1 (fun q => hs _ (Array.getElem?_eq_some_iff.1 hgg).1 q (.inr rfl))).trans hgg, rest⟩
theorem PenAt.below {w w' : World} {bp : Nat} {r : Option Nat} {l : List Nat} (h : PenAt w bp r l) (hb : Below w.heap.size w w') : PenAt w' bp r l := h.off (Off.of_below hb (fun _ => False)) (fun _ _ q => q.elim)
theorem PenRel.of_below {a b c : World} {bp : Nat} {r r2 : Option Nat} {l2 : List Nat} (hb : Below a.heap.size a b) (k : PenRel b bp r c r2 l2) : PenRel a bp r c r2 l2 := by
  refine ⟨k.1, (Off.of_below hb (penS bp r)).trans k.2.1 (fun j _ hs => hs), ?_⟩
  rcases k.2.2 with e | ⟨q, e, hq⟩
  · exact .inl e
  · exact .inr ⟨q, e, Nat.le_trans hb.size hq⟩
theorem PenRel.then_below {a b c : World} {bp : Nat} {r r2 : Option Nat} {l2 : List Nat} (k : PenRel a bp r b r2 l2) (hb : Below b.heap.size b c) : PenRel a bp r c r2 l2 :=
  ⟨k.1.below hb, k.2.1.trans (Off.of_below hb (fun _ => False)) (fun _ _ q => q.elim), k.2.2⟩
/-- A pen of the call's own: what was there ahead is as it was. -/
theorem PenRel.keeps {B : Nat} {a b c : World} {bp : Nat} {r r2 : Option Nat} {l2 : List Nat} (h : Below B a b) (k : PenRel b bp r c r2 l2) (hB : B ≤ b.heap.size) (hbp : B ≤ bp) (hr : ∀ q, r = some q → B ≤ q) :
    Below B a c ∧ ∀ q, r2 = some q → B ≤ q := by
  refine ⟨k.2.1.below h hB ?_, fun q hq => ?_⟩
  · rintro j hj (rfl | hs)
    · omega
    · have := hr j hs.symm; omega
  · rcases k.2.2 with e | ⟨p, e, hp⟩
    · exact hr q (e ▸ hq)
    · rw [e] at hq; injection hq with hq; omega

/-- The store behind an append. -/
theorem pen_set {w w0 w1 : World} {bp : Nat} {v v' : Value} {l l' : List Nat} (hv' : ∃ A c, v' = .slice A l'.length c) (hbp : w.heap[bp]? = some (.cells #[v] 40 (0, 0))) (ho : w.ownsRow 0 5 1 v l.length (u8s l)) (hne : v.ownBlock ≠ some bp)
    (hw0 : Below w.heap.size w w0) (h1 : w1.ownsRow 0 5 1 v' l'.length (u8s l')) (hg : w0.grownBy w1 v.ownBlock) (hat : v'.ownBlock = v.ownBlock ∨ v'.ownBlock = some w0.heap.size) :
    w1.cell? ⟨bp, 0, none⟩ = some v ∧ w1.frozen? ⟨bp, 0, none⟩ = false ∧ PenRel w bp v.ownBlock (w1.setCell ⟨bp, 0, none⟩ v') v'.ownBlock l' := by
  have hlt : bp < w.heap.size := (Array.getElem?_eq_some_iff.1 hbp).1
  have hlt0 : bp < w0.heap.size := Nat.lt_of_lt_of_le hlt hw0.size
  have h1bp : w1.heap[bp]? = some (.cells #[v] 40 (0, 0)) := (hg.block bp hlt0 (fun e => hne e.symm)).trans ((hw0.block bp hlt).trans hbp)
  have hne' : v'.ownBlock ≠ some bp := by
    rcases hat with e | e
    · rw [e]; exact hne
    · rw [e]; intro h; injection h with h; omega
  obtain ⟨A, c, rfl⟩ := hv'
  refine ⟨by simp [World.cell?, h1bp], by simp [World.frozen?, h1bp], ⟨⟨A, c, rfl, ?_, ?_, hne'⟩, ?_, ?_⟩⟩
  · simp [World.setCell, Array.getElem?_modify, h1bp]
  · exact h1.kept (Off.of_setCell w1 ⟨bp, 0, none⟩ _).grown (.inr hne')
  · refine ((Off.of_below hw0 (penS bp v.ownBlock)).trans (Off.of_grown hg) (fun j _ hs => .inr hs)).trans (Off.of_setCell w1 ⟨bp, 0, none⟩ _) (fun j _ hs => .inl hs)
  · rcases hat with e | e
    · exact .inl e
    · exact .inr ⟨_, e, hw0.size⟩

theorem pen_info : (Try.prog.info? 5).map (fun i => (i.zero, i.size, i.bytes)) = some (some (.int .u8 0), 1, 1) := by kernel_rfl

/-- One byte is appended. -/
theorem pen_push {w : World} {bp : Nat} {v : Value} {l : List Nat} (hbp : w.heap[bp]? = some (.cells #[v] 40 (0, 0))) (ho : w.ownsRow 0 5 1 v l.length (u8s l)) (hne : v.ownBlock ≠ some bp) (hl : l.length ≤ 1000000) (x : Nat) (xv : Int) (hxv : xv = (x : Int)) (ty : TypeId) :
    ∃ A' c' w1, (Builtin.append_ #[38, 38] ty #[v, .slice (some ⟨w.heap.size, 0, none⟩) 1 1]).run Try.prog (w.alloc (.cells #[.int .u8 xv] 5)) = .ok (.slice A' (l.length + 1) c') w1 ∧
      w1.cell? ⟨bp, 0, none⟩ = some v ∧ w1.frozen? ⟨bp, 0, none⟩ = false ∧ PenRel w bp v.ownBlock (w1.setCell ⟨bp, 0, none⟩ (.slice A' (l.length + 1) c')) (Value.slice A' (l.length + 1) c').ownBlock (l ++ [x]) := by
  subst hxv
  obtain ⟨i, hi, hz, hs, hb⟩ := info_parts pen_info
  obtain ⟨v', w1, hrun, h2, h3, _, h5⟩ := run_append_own_at (P := Try.prog) (w.alloc (.cells #[.int .u8 (x : Int)] 5)) 0 38 ty 5 i (.int .u8 0) 1 1 Try.underlying38 hi hz hs hb rfl (by omega) v l.length (u8s l) (ho.alloc _)
    ⟨w.heap.size, 0, none⟩ 1 1 [.int .u8 (x : Int)] rfl (cell_one_new w _ _) (by intro u hu; simp at hu; subst hu; rfl) (by unfold maxLen; omega) (by omega) (Nat.zero_le _)
  have h2' : w1.ownsRow 0 5 1 v' (l ++ [x]).length (u8s (l ++ [x])) := by rw [u8s_append, List.length_append]; exact h2
  obtain ⟨A', c', rfl, _⟩ := owns_slice h2'
  have h := pen_set ⟨A', c', rfl⟩ hbp ho hne (below_alloc _ _) h2' h3 h5
  rw [List.length_append] at hrun h
  exact ⟨A', c', w1, hrun, h⟩

/-- A text is appended. -/
theorem pen_pushs {w : World} {bp : Nat} {v : Value} {l : List Nat} (hbp : w.heap[bp]? = some (.cells #[v] 40 (0, 0))) (ho : w.ownsRow 0 5 1 v l.length (u8s l)) (hne : v.ownBlock ≠ some bp) (s : ByteArray) (hl : l.length + s.size ≤ 1000000) (ty : TypeId) :
    ∃ A' c' w1, (Builtin.append_ #[38, 9] ty #[v, .string s]).run Try.prog w = .ok (.slice A' (l.length + (tb s).length) c') w1 ∧
      w1.cell? ⟨bp, 0, none⟩ = some v ∧ w1.frozen? ⟨bp, 0, none⟩ = false ∧ PenRel w bp v.ownBlock (w1.setCell ⟨bp, 0, none⟩ (.slice A' (l.length + (tb s).length) c')) (Value.slice A' (l.length + (tb s).length) c').ownBlock (l ++ tb s) := by
  obtain ⟨i, hi, hz, hs, hb⟩ := info_parts pen_info
  obtain ⟨v', w1, hrun, h2, h3, h5⟩ := run_append_str_at (P := Try.prog) w 38 9 ty 5 i Try.underlying38 Try.underlying9 hi hz hs hb v l.length (u8s l) ho s (by unfold maxLen; omega) (by omega)
  have e : Lib.strCells s = u8s (tb s) := by simp [Lib.strCells, u8s, tb]
  have h2' : w1.ownsRow 0 5 1 v' (l ++ tb s).length (u8s (l ++ tb s)) := by rw [u8s_append, List.length_append, tb_length, ← e]; exact h2
  obtain ⟨A', c', rfl, _⟩ := owns_slice h2'
  have h := pen_set ⟨A', c', rfl⟩ hbp ho hne (Below.refl _ _) h2' h3 h5
  rw [List.length_append] at hrun h
  exact ⟨A', c', w1, hrun, h⟩

end Go.Proofs.Ythbafbgnclpbpaa
