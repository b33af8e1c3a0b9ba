/- Rows of numbers that lie apart: add, cut, set, part, join make new ones; rows of rows. -/
import Derived.Test.YtggjlnjpokdfpaaSortedRows
import Derived.Test.YtggjlnjpokdfpaaOwC
namespace Go.Proofs.Ytggjlnjpokdfpaa
open Go.RowKit

/-- A row of numbers at or above a place. -/
structure RdB (W : World) (B : Nat) (A : Option Addr) (m : Nat) (zs : List Int) : Prop where
  rd : RdI W A m zs
  ge : 0 < m → ∀ a, A = some a → B ≤ a.block
  le : m ≤ 1000
theorem RdB.up {W W' : World} {B : Nat} {A : Option Addr} {m : Nat} {zs : List Int} (h : RdB W B A m zs) (hb : Below W.heap.size W W') : RdB W' B A m zs := ⟨h.rd.up hb, h.ge, h.le⟩
theorem RdB.mono {W : World} {B B' : Nat} {A : Option Addr} {m : Nat} {zs : List Int} (h : RdB W B A m zs) (hb : B' ≤ B) : RdB W B' A m zs := ⟨h.rd, fun h0 a e => Nat.le_trans hb (h.ge h0 a e), h.le⟩
theorem rd_offB {W W' : World} {B n : Nat} {A : Option Addr} {xs : List Value} (h : Rd W W.heap.size 1 A n xs) (ge : 0 < n → ∀ a, A = some a → B ≤ a.block) (ho : Off (fun k => k < B) W W') : Rd W' W'.heap.size 1 A n xs := by
  refine ⟨h.1, fun h0 => ?_⟩
  obtain ⟨b, off, rfl, hb, hc⟩ := h.2 h0
  have hB := ge h0 _ rfl
  simp only [] at hB
  exact ⟨b, off, rfl, Nat.lt_of_lt_of_le hb ho.size, fun j u hu => (ho.cell (p := ⟨b, off + j, none⟩) hb (by simp only []; omega)).trans (hc j u hu)⟩
theorem RdB.off {W W' : World} {B : Nat} {A : Option Addr} {m : Nat} {zs : List Int} (h : RdB W B A m zs) (ho : Off (fun k => k < B) W W') : RdB W' B A m zs := ⟨rd_offB h.rd h.ge ho, h.ge, h.le⟩
theorem RdB.nil (W : World) (B : Nat) (A : Option Addr) : RdB W B A 0 [] := ⟨Rd.nil _ _ _ _, fun h => absurd h (Nat.lt_irrefl 0), by omega⟩
theorem RdB.of_new {w w' : World} {g n : Nat} {zs : List Int} {E : TypeId} (h : w'.heap[g]? = some (.cells (i64s zs).toArray E (0, 0))) (hn : zs.length = n) (hg : w.heap.size ≤ g) (hl : n ≤ 1000) : RdB w' w.heap.size (some ⟨g, 0, none⟩) n zs := by
  subst hn
  have := Rd.new h
  rw [i64s_length] at this
  exact ⟨this, fun _ a e => by injection e with e; subst e; exact hg, hl⟩
/-- A row that is made, and whether. -/
def SRet (w : World) (e : Ending) (w' : World) : Prop := ∃ A m c zs b, e = .returned (.tuple #[.slice A m c, .bool b]) ∧ RdB w' w.heap.size A m zs ∧ Below w.heap.size w w'
theorem addI_b (A : Option Addr) (n ca : Nat) (i y : Int) (zs : List Int) (w : World) (h : RdI w A n zs) (hn : n ≤ 100) (hca : n ≤ ca) : Calls Try.prog 35 #[.slice A n ca, .int .i64 i, .int .i64 y] w (SRet w) := by
  by_cases hi : 0 ≤ i ∧ i ≤ n
  · refine (addI_yes A n ca i y (i64s zs) w h (i64s_one zs) (by omega) hca hi.1 hi.2).mono ?_
    rintro e w' ⟨rfl, hh, hb⟩
    rw [i64s_ins] at hh
    exact ⟨_, _, _, _, _, rfl, RdB.of_new hh (by rw [ins_length _ _ _ (by rw [h.len]; omega), h.len]) (Nat.le_refl _) (by omega), hb⟩
  · refine (addI_no A n ca i y w (by omega)).mono ?_
    rintro e w' ⟨rfl, hb⟩
    exact ⟨_, _, _, _, _, rfl, RdB.nil _ _ _, hb⟩
theorem cutI_b (A : Option Addr) (n ca : Nat) (i : Int) (zs : List Int) (w : World) (h : RdI w A n zs) (hn : n ≤ 100) (hca : n ≤ ca) : Calls Try.prog 36 #[.slice A n ca, .int .i64 i] w (SRet w) := by
  by_cases hi : 0 ≤ i ∧ i < n
  · refine (cutI_yes A n ca i (i64s zs) w h (i64s_one zs) (by omega) hca hi.1 hi.2).mono ?_
    rintro e w' ⟨rfl, hh, hb⟩
    rw [i64s_erase] at hh
    exact ⟨_, _, _, _, _, rfl, RdB.of_new hh (by rw [List.length_eraseIdx_of_lt (by rw [h.len]; omega), h.len]) (Nat.le_refl _) (by omega), hb⟩
  · refine (cutI_no A n ca i w (by omega)).mono ?_
    rintro e w' ⟨rfl, hb⟩
    exact ⟨_, _, _, _, _, rfl, RdB.nil _ _ _, hb⟩
theorem setI_b (A : Option Addr) (n ca : Nat) (i y : Int) (zs : List Int) (w : World) (h : RdI w A n zs) (hn : n ≤ 100) : Calls Try.prog 37 #[.slice A n ca, .int .i64 i, .int .i64 y] w (SRet w) := by
  by_cases hi : 0 ≤ i ∧ i < n
  · refine (setI_yes A n ca i y (i64s zs) w h (i64s_one zs) (by omega) hi.1 hi.2).mono ?_
    rintro e w' ⟨rfl, hh, hb⟩
    rw [i64s_set] at hh
    exact ⟨_, _, _, _, _, rfl, RdB.of_new hh (by rw [List.length_set, h.len]) (Nat.le_refl _) (by omega), hb⟩
  · refine (setI_no A n ca i y w (by omega)).mono ?_
    rintro e w' ⟨rfl, hb⟩
    exact ⟨_, _, _, _, _, rfl, RdB.nil _ _ _, hb⟩
theorem partI_b (A : Option Addr) (n ca : Nat) (i j : Int) (zs : List Int) (w : World) (h : RdI w A n zs) (hn : n ≤ 100) (hca : n ≤ ca) : Calls Try.prog 38 #[.slice A n ca, .int .i64 i, .int .i64 j] w
    (fun e w' => ∃ A' m c zs', e = .returned (.slice A' m c) ∧ RdB w' w.heap.size A' m zs' ∧ Below w.heap.size w w') := by
  refine (partI_any A n ca i j (i64s zs) w h (i64s_one zs) (by omega) hca).mono ?_
  rintro e w' ⟨A', rfl, hh, hb⟩
  rw [i64s_part] at hh ⊢
  have hl := part_length zs i j
  have hle : (part zs i j).length ≤ 100 := by rw [hl, h.len]; unfold pc; omega
  refine ⟨_, _, _, part zs i j, rfl, ?_, hb⟩
  rw [i64s_length]
  by_cases h0 : 0 < (part zs i j).length
  · obtain ⟨rfl, hx⟩ := hh (by rw [i64s_length]; exact h0)
    exact RdB.of_new hx rfl (Nat.le_refl _) (by omega)
  · obtain h0 : part zs i j = [] := List.eq_nil_of_length_eq_zero (by omega)
    rw [h0]
    exact RdB.nil _ _ _
theorem joinI_b (A : Option Addr) (n ca : Nat) (zs : List Int) (w : World) (h : RdI w A n zs) (hn : n ≤ 100) : Calls Try.prog 39 #[.slice A n ca, .slice none 0 0] w
    (fun e w' => ∃ A', e = .returned (.slice A' n n) ∧ RdB w' w.heap.size A' n zs ∧ Below w.heap.size w w') := by
  refine (joinI_any A none n ca 0 0 (i64s zs) [] w h (Rd.nil _ _ _ _) (i64s_one zs) (by simp) (by omega) (by omega)).mono ?_
  rintro e w' ⟨rfl, hh, hb⟩
  rw [List.append_nil] at hh
  exact ⟨_, rfl, RdB.of_new hh h.len (Nat.le_refl _) (by omega), hb⟩

theorem own_up {w w' : World} {B : Nat} {e : TypeId} {s n : Nat} {v : Value} {xs : List Value} (h : w.ownsRow B e s v n xs) (hb : Below w.heap.size w w') : w'.ownsRow B e s v n xs :=
  own_off h (Off.of_below hb (fun _ => False)) (fun _ _ q => q)
theorem own_lt' {w : World} {B n c : Nat} {e : TypeId} {A : Option Addr} {xs : List Value} (h : w.ownsRow B e 1 (.slice A n c) n xs) : ∀ a, A = some a → B ≤ a.block := by
  rintro a rfl
  exact (own_lt (k := a.block) h rfl).1

/-- Slices of numbers, each of which reads. -/
def Reads (W : World) (B : Nat) (L : List (Value × List Int)) : Prop := ∀ (i : Nat) (p : Value × List Int), L[i]? = some p → ∃ A m c, p.1 = .slice A m c ∧ RdB W B A m p.2
theorem Reads.up {W W' : World} {B : Nat} {L : List (Value × List Int)} (h : Reads W B L) (hb : Below W.heap.size W W') : Reads W' B L := fun i p hi => by
  obtain ⟨A, m, c, e, hr⟩ := h i p hi
  exact ⟨A, m, c, e, hr.up hb⟩
theorem Reads.off {W W' : World} {B : Nat} {L : List (Value × List Int)} (h : Reads W B L) (ho : Off (fun k => k < B) W W') : Reads W' B L := fun i p hi => by
  obtain ⟨A, m, c, e, hr⟩ := h i p hi
  exact ⟨A, m, c, e, hr.off ho⟩
theorem Reads.nil (W : World) (B : Nat) : Reads W B [] := fun i p q => by simp at q
theorem Reads.cons {W : World} {B : Nat} {L : List (Value × List Int)} {A : Option Addr} {m c : Nat} {zs : List Int} (h : RdB W B A m zs) (hl : Reads W B L) : Reads W B ((.slice A m c, zs) :: L) := fun i p q => by
  rcases i with _ | i
  · simp at q
    subst q
    exact ⟨A, m, c, rfl, h⟩
  · simp at q
    exact hl i p q
/-- Rows of the call's own for them. -/
def ownR (L : List (Value × List Int)) : List RowT := L.map fun p => ⟨3, 1, p.1, p.2.length, i64s p.2⟩
theorem ownR_snoc (L : List (Value × List Int)) (p : Value × List Int) : ownR (L ++ [p]) = ownR L ++ [⟨3, 1, p.1, p.2.length, i64s p.2⟩] := by simp [ownR]
theorem rows_info : (Try.prog.info? 44).map (fun i => (i.zero, i.size, i.bytes)) = some (some (.slice none 0 0), 1, 24) := by kernel_rfl

/-- The numbers of a row that is turned. -/
def OwnInts (lo hi : Nat) (W : World) (A : Option Addr) (n : Nat) : Prop :=
  0 < n → ∃ g cur, A = some ⟨g, 0, none⟩ ∧ lo ≤ g ∧ g < hi ∧ W.heap[g]? = some (.cells (List.toArray cur) 3 (0, 0)) ∧ ∀ k, k < n → ∃ z, cur[k]? = some (.int .i64 z)
theorem own_ints {W : World} {A : Option Addr} {n c : Nat} {zs : List Int} {B hi : Nat} (h : W.ownsRow B 3 1 (.slice A n c) n (i64s zs)) (hl : ∀ k, (Value.slice A n c).ownBlock = some k → k < hi) : OwnInts B hi W A n := by
  intro h0
  have hz := h.1
  rw [i64s_length] at hz
  rcases h.2 with ⟨_, e⟩ | ⟨g, cap, cur, e, hbg, hg, hnc, _, hcs, htk⟩
  · omega
  · have hlt := hl g (by rw [e]; rfl)
    injection e with e1 e2 e3
    subst e1
    refine ⟨g, cur.toList, rfl, hbg, hlt, by simpa using hg, fun k hk => ⟨zs[k]'(by omega), ?_⟩⟩
    have h2 := i64s_at zs k (by omega)
    rw [← htk, List.getElem?_take] at h2
    split at h2
    · exact h2
    · cases h2
theorem OwnInts.set {lo hi : Nat} {W : World} {g n k : Nat} {z : Int} (h : OwnInts lo hi W (some ⟨g, 0, none⟩) n) (hk : k < n) : OwnInts lo hi (W.setCell ⟨g, k, none⟩ (.int .i64 z)) (some ⟨g, 0, none⟩) n := by
  intro h0
  obtain ⟨g', cur, e, h1, h2, h3, h4⟩ := h h0
  injection e with e
  injection e with e
  subst e
  refine ⟨g, cur.set k (.int .i64 z), rfl, h1, h2, heap_set h3 k _, fun q hq => ?_⟩
  obtain ⟨z', hz'⟩ := h4 q hq
  have hql : q < cur.length := (List.getElem?_eq_some_iff.1 hz').1
  by_cases e : k = q
  · subst e
    exact ⟨z, List.getElem?_set_self hql⟩
  · exact ⟨z', by rw [List.getElem?_set_ne e]; exact hz'⟩
/-- Two rows of slices, of which those at the same place read alike. -/
def Twins (W : World) (B : Nat) (L M : List (Value × List Int)) : Prop :=
  ∀ (i : Nat) (p q : Value × List Int), L[i]? = some p → M[i]? = some q → ∃ A m c A' c' z, p.1 = .slice A m c ∧ q.1 = .slice A' m c' ∧ RdB W B A m z ∧ RdB W B A' m z
theorem Twins.off {W W' : World} {B : Nat} {L M : List (Value × List Int)} (h : Twins W B L M) (ho : Off (fun k => k < B) W W') : Twins W' B L M := fun i p q hp hq => by
  obtain ⟨A, m, c, A', c', z, e1, e2, h1, h2⟩ := h i p q hp hq
  exact ⟨A, m, c, A', c', z, e1, e2, h1.off ho, h2.off ho⟩
theorem Twins.up {W W' : World} {B : Nat} {L M : List (Value × List Int)} (h : Twins W B L M) (hb : Below W.heap.size W W') : Twins W' B L M := h.off (Off.of_below hb _)
theorem twins_of {W' : World} {B B1 : Nat} {L M : List (Value × List Int)} {W0 : World} {R0 : RowT} (hL : Reads W' B L) (ho : Ow B1 W0 W' [] (R0 :: ownR M)) (hB : B ≤ B1) (he : M.map Prod.snd = L.map Prod.snd) : Twins W' B L M := by
  intro i p q hp hq
  obtain ⟨A, m, c, e1, hr⟩ := hL i p hp
  have hpq : q.2 = p.2 := by
    have h1 : (M.map Prod.snd)[i]? = some q.2 := by rw [List.getElem?_map, hq]; rfl
    rw [he, List.getElem?_map, hp] at h1
    exact (Option.some.inj h1).symm
  have hown := ho.own (i + 1) ⟨3, 1, q.1, q.2.length, i64s q.2⟩ (by rw [List.getElem?_cons_succ]; unfold ownR; rw [List.getElem?_map, hq]; rfl)
  simp only [] at hown
  obtain ⟨A', c', e2, _⟩ := owns_slice hown
  rw [e2] at hown
  have hlen : q.2.length = m := by rw [hpq]; exact hr.rd.len
  rw [hlen] at hown e2
  refine ⟨A, m, c, A', c', p.2, e1, e2, hr, ?_, fun _ a e => Nat.le_trans hB (own_lt' hown a e), hr.le⟩
  rw [← hpq]
  exact Rd.of_own hown

end Go.Proofs.Ytggjlnjpokdfpaa
