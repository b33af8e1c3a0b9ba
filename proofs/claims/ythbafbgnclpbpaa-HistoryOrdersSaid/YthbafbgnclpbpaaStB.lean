/- Rows that a stable sort turns. -/
import Derived.Test.YthbafbgnclpbpaaStPlA
import Derived.Test.YthbafbgnclpbpaaOff
import Derived.Test.YthbafbgnclpbpaaMake2
namespace Go.Proofs.Ythbafbgnclpbpaa
open Go.RowKit

/-- n elements of s cells stand in block g: place k holds element p k; no other block has turned. -/
structure StR (W0 w : World) (g : Nat) (T : TypeId) (s n cap : Nat) (en : Nat → List Value) (p : Nat → Nat) : Prop where
  off : Off (fun k => k = g) W0 w
  gl : g < W0.heap.size
  blk : ∃ cs : List Value, w.heap[g]? = some (.cells cs.toArray T (0, 0)) ∧ cs.length = cap * s ∧ ∀ k, k < n → ∀ q v, (en (p k))[q]? = some v → cs[k * s + q]? = some v
  le : n ≤ cap
section
variable {W0 w w1 : World} {g s n cap : Nat} {T : TypeId} {en : Nat → List Value} {p : Nat → Nat}
theorem StR.up (h : StR W0 w g T s n cap en p) (hb : Below w.heap.size w w1) : StR W0 w1 g T s n cap en p := by
  obtain ⟨cs, h1, h2⟩ := h.blk
  exact ⟨h.off.trans (Off.of_below hb (fun _ => False)) (fun _ _ q => q.elim), h.gl, ⟨cs, (hb.block g (Nat.lt_of_lt_of_le h.gl h.off.size)).trans h1, h2⟩, h.le⟩
theorem StR.lt (h : StR W0 w g T s n cap en p) : g < w.heap.size := Nat.lt_of_lt_of_le h.gl h.off.size
theorem StR.drew (h : StR W0 w g T s n cap en p) : StR W0 w.drew g T s n cap en p := h.up (Below.drew (Below.refl _ _))
theorem StR.to {p' : Nat → Nat} (h : StR W0 w g T s n cap en p) (e : p = p') : StR W0 w g T s n cap en p' := e ▸ h
end

/-- The cells of an int. -/
def enI (E : Nat → Int) (x : Nat) : List Value := [.int .i64 (E x)]
theorem StR.int {W0 w : World} {g n cap : Nat} {T : TypeId} {E : Nat → Int} {p : Nat → Nat} (h : StR W0 w g T 1 n cap (enI E) p) {k : Nat} (hk : k < n) : w.cell? ⟨g, k, none⟩ = some (.int .i64 (E (p k))) ∧ w.frozen? ⟨g, k, none⟩ = false := by
  obtain ⟨cs, h1, h2, h3⟩ := h.blk
  have h4 := h3 k hk 0 _ rfl
  rw [Nat.mul_one, Nat.add_zero] at h4
  refine ⟨?_, heap_frozen h1 k⟩
  rw [cell_of_row w g k _ _ _ h1]
  simpa using h4
theorem StR.swap1 {W0 w : World} {g n cap : Nat} {T : TypeId} {E : Nat → Int} {p : Nat → Nat} (h : StR W0 w g T 1 n cap (enI E) p) {i j : Nat} (hi : i < n) (hj : j < n) :
    StR W0 ((w.setCell ⟨g, i, none⟩ (.int .i64 (E (p j)))).setCell ⟨g, j, none⟩ (.int .i64 (E (p i)))) g T 1 n cap (enI E) (swp p i j) := by
  obtain ⟨cs, h1, h2, h3⟩ := h.blk
  have hle := h.le
  refine ⟨(h.off.trans (Off.of_setCell w ⟨g, i, none⟩ _) (fun _ _ e => e)).trans (Off.of_setCell _ ⟨g, j, none⟩ _) (fun _ _ e => e), h.gl, ⟨_, heap_set (heap_set h1 i _) j _, by simp [h2], fun k hk q v hv => ?_⟩, h.le⟩
  rcases q with _ | q
  · have hk3 := h3 k hk 0 _ rfl
    simp only [enI, List.getElem?_cons_zero, Option.some.injEq, Nat.mul_one, Nat.add_zero] at hv hk3 ⊢
    subst hv
    unfold swp
    by_cases e2 : k = j
    · subst e2
      rw [List.getElem?_set_self (by simp [h2]; omega)]
      by_cases e1 : k = i
      · subst e1; rw [if_pos rfl]
      · rw [if_neg e1, if_pos rfl]
    · rw [List.getElem?_set_ne (fun e => e2 e.symm)]
      by_cases e1 : k = i
      · subst e1
        rw [List.getElem?_set_self (by omega), if_pos rfl]
      · rw [List.getElem?_set_ne (fun e => e1 e.symm), if_neg e1, if_neg e2]
        exact hk3
  · simp [enI] at hv

set_option maxHeartbeats 4000000 in
theorem swaprange_int (W0 : World) (g n cap : Nat) (E : Nat → Int) (p : Nat → Nat) (a b m : Nat) (fn : Value) (w : World) (h : StR W0 w g 3 1 n cap (enI E) p) (ha : a + m ≤ b) (hb : b + m ≤ n) (hn : n ≤ 1000) :
    Calls Try.prog 118 #[.slice (some ⟨g, 0, none⟩) n cap, .int .i64 a, .int .i64 b, .int .i64 m, fn] w (fun e w' => e = .returned (.tuple #[]) ∧ StR W0 w' g 3 1 n cap (enI E) (swapR p a b m)) := by
  have HS0 := Lib.hid (h.to (swapR_zero p a b).symm)
  clear h
  go_enter Try.func118, Try.ntmps118
  go_wp2_with fail
  go_loopw [10] (fun i wr => ∃ j : Nat, i = .int .i64 j ∧ Hid (j ≤ m) ∧ Hid (StR W0 wr g 3 1 n cap (enI E) (swapR p a b j))) (fun i _ => m - (intOf i).toNat)
  case atStart => exact ⟨0, rfl, Nat.zero_le _, HS0.out⟩
  case round =>
    obtain ⟨j, rfl, HJ, HS⟩ := hrel
    clear HS0
    by_cases hlt : j < m
    · have hw1 : wrap64 ((a : Int) + (j : Int)) = ((a + j : Nat) : Int) := by unfold wrap64; omega
      have hw2 : wrap64 ((b : Int) + (j : Int)) = ((b + j : Nat) : Int) := by unfold wrap64; omega
      have hi1 : a + j < n := by omega
      have hi2 : b + j < n := by omega
      obtain ⟨x1, f1⟩ := HS.out.int hi1
      obtain ⟨x2, f2⟩ := HS.out.int hi2
      go_upto_region 3 with fail
      go_region
      have HN := Lib.hid ((HS.out.swap1 hi1 hi2).drew.to (swapR_succ p a b j (by omega)))
      clear x1 x2 f1 f2
      generalize World.drew _ = w9 at HN ⊢
      go_wp2_with fail
      go_roundw
      case rel => exact ⟨j + 1, by go_num, hlt, HN.out⟩
      case measure => simp [intOf]; omega
    · obtain rfl : j = m := by have := HJ.out; omega
      go_wp2_with fail
      go_end0
      exact ⟨rfl, HS.out⟩

end Go.Proofs.Ythbafbgnclpbpaa

namespace Go.Proofs.Ythbafbgnclpbpaa
open Go.RowKit

/-- An event. -/
structure EvD where
  step : Int
  thread : Int
  kind : Int
  okind : Int
  okey : ByteArray
  oupto : ByteArray
  oval : Nat
  olimit : Int
  code : Int
  akey : ByteArray
  aval : Nat
  pa : Option Addr
  pn : Nat
  pc : Nat
def evCells (x : EvD) : List Value := [.int .i64 x.step, .int .i64 x.thread, .int .i64 x.kind, .int .i64 x.okind, .string x.okey, .string x.oupto, .int .u64 (x.oval : Int), .int .i64 x.olimit, .int .i64 x.code, .string x.akey, .int .u64 (x.aval : Int), .slice x.pa x.pn x.pc]
def enE (E : Nat → EvD) (x : Nat) : List Value := evCells (E x)
def elE (E : Nat → EvD) (x : Nat) : Value := .agg (evCells (E x)).toArray

/-- Cells are written one behind the other. -/
def setL (w : World) (g : Nat) : Nat → List Value → World
  | _, [] => w
  | o, v :: vs => setL (w.setCell ⟨g, o, none⟩ v) g (o + 1) vs
def putL : List Value → Nat → List Value → List Value
  | cs, _, [] => cs
  | cs, o, v :: vs => putL (cs.set o v) (o + 1) vs
theorem putL_len : ∀ (vs cs : List Value) (o : Nat), (putL cs o vs).length = cs.length
  | [], _, _ => rfl
  | v :: vs, cs, o => by rw [putL, putL_len vs]; simp
theorem putL_off : ∀ (vs cs : List Value) (o k : Nat), (k < o ∨ o + vs.length ≤ k) → (putL cs o vs)[k]? = cs[k]?
  | [], _, _, _, _ => rfl
  | v :: vs, cs, o, k, h => by
    simp only [List.length_cons] at h
    rw [putL, putL_off vs _ _ _ (by omega), List.getElem?_set_ne (by omega)]
theorem putL_in : ∀ (vs cs : List Value) (o q : Nat), o + vs.length ≤ cs.length → q < vs.length → (putL cs o vs)[o + q]? = vs[q]?
  | [], _, _, _, _, h => absurd h (Nat.not_lt_zero _)
  | v :: vs, cs, o, 0, h, _ => by
    simp only [List.length_cons] at h
    rw [putL, putL_off vs _ _ _ (by omega), Nat.add_zero, List.getElem?_set_self (by omega)]
    rfl
  | v :: vs, cs, o, q + 1, h, hq => by
    simp only [List.length_cons] at h hq
    rw [putL, show o + (q + 1) = (o + 1) + q from by omega, putL_in vs _ _ _ (by simp; omega) (by omega)]
    rfl
theorem setL_off (g : Nat) : ∀ (vs : List Value) (w : World) (o : Nat), Off (fun k => k = g) w (setL w g o vs)
  | [], w, _ => Off.refl _ _
  | v :: vs, w, o => (Off.of_setCell w ⟨g, o, none⟩ v).trans (setL_off g vs _ _) (fun _ _ e => e)
theorem setL_heap (g : Nat) (T : TypeId) : ∀ (vs cs : List Value) (w : World) (o : Nat), w.heap[g]? = some (.cells cs.toArray T (0, 0)) → (setL w g o vs).heap[g]? = some (.cells (putL cs o vs).toArray T (0, 0))
  | [], _, _, _, h => h
  | v :: vs, cs, w, o, h => by
    rw [setL, putL]
    exact setL_heap g T vs _ _ _ (heap_set h o v)

/-- An element is put at a place. -/
def upd (p : Nat → Nat) (i x : Nat) : Nat → Nat := fun k => if k = i then x else p k
theorem upd_self (p : Nat → Nat) (i x : Nat) : upd p i x i = x := if_pos rfl
theorem upd_ne (p : Nat → Nat) {i x k : Nat} (h : k ≠ i) : upd p i x k = p k := if_neg h
theorem upd_swp (p : Nat → Nat) (i j : Nat) : upd (upd p i (p j)) j (p i) = swp p i j := by
  unfold upd swp
  funext k
  (try dsimp only)
  by_cases h1 : k = j
  · by_cases h2 : k = i
    · rw [if_pos h1, if_pos h2, ← h1, ← h2]
    · rw [if_pos h1, if_neg h2, if_pos h1]
  · by_cases h2 : k = i
    · rw [if_neg h1, if_pos h2, if_pos h2]
    · rw [if_neg h1, if_neg h2, if_neg h2, if_neg h1]
theorem StR.put {W0 w : World} {g s n cap : Nat} {T : TypeId} {en : Nat → List Value} {p : Nat → Nat} (h : StR W0 w g T s n cap en p) (he : ∀ x, (en x).length = s) {i : Nat} (hi : i < n) (x : Nat) :
    StR W0 (setL w g (i * s) (en x)) g T s n cap en (upd p i x) := by
  obtain ⟨cs, h1, h2, h3⟩ := h.blk
  have hle := h.le
  have hlen : ∀ k, k < n → k * s + s ≤ cs.length := fun k hk => by
    have h5 : (k + 1) * s ≤ cap * s := Nat.mul_le_mul_right s (by omega)
    rw [Nat.add_mul] at h5
    omega
  have hfar : ∀ k l, k < l → k * s + s ≤ l * s := fun k l hk => by
    have h5 : (k + 1) * s ≤ l * s := Nat.mul_le_mul_right s (by omega)
    rw [Nat.add_mul] at h5
    omega
  refine ⟨h.off.trans (setL_off g _ w _) (fun _ _ e => e), h.gl, ⟨_, setL_heap g T _ _ _ _ h1, by rw [putL_len, h2], fun k hk q v hv => ?_⟩, h.le⟩
  have hq : q < s := by
    have := (List.getElem?_eq_some_iff.1 hv).1
    rwa [he] at this
  by_cases e1 : k = i
  · subst e1
    rw [upd_self] at hv
    rw [putL_in _ _ _ _ (by rw [he]; exact hlen k hk) (by rw [he]; exact hq)]
    exact hv
  · rw [upd_ne p e1] at hv
    rw [putL_off _ _ _ _ (by
      rw [he]
      rcases Nat.lt_or_ge k i with g1 | g1
      · have := hfar k i g1; omega
      · have := hfar i k (by omega); omega)]
    exact h3 k hk q v hv

theorem StR.cellE {W0 w : World} {g n cap : Nat} {T : TypeId} {E : Nat → EvD} {p : Nat → Nat} (h : StR W0 w g T 12 n cap (enE E) p) {k : Nat} (hk : k < n) {q : Nat} {v : Value} (hv : (evCells (E (p k)))[q]? = some v) : w.cell? ⟨g, k * 12 + q, none⟩ = some v ∧ w.frozen? ⟨g, k * 12 + q, none⟩ = false := by
  obtain ⟨cs, h1, h2, h3⟩ := h.blk
  refine ⟨?_, heap_frozen h1 _⟩
  rw [cell_of_row w g _ _ _ _ h1]
  simpa using h3 k hk q v hv

theorem exec_loadE {W0 w : World} {g n cap : Nat} {T : TypeId} {E : Nat → EvD} {p : Nat → Nat} (h : StR W0 w g T 12 n cap (enE E) p) {k x o : Nat} (hk : k < n) (e : p k = x) {ev : Operand → Value} {t : Operand} {oo : Oper} (ho : oo.op = .load 93 t) (hv : ev t = .pointer (some ⟨g, o, none⟩)) (hoo : o = k * 12) :
    (execOp ev oo).run Try.prog w = .ok (.value (elE E x)) w := by
  subst hoo
  subst e
  have x0 := (h.cellE hk (q := 0) rfl).1
  have x1 := (h.cellE hk (q := 1) rfl).1
  have x2 := (h.cellE hk (q := 2) rfl).1
  have x3 := (h.cellE hk (q := 3) rfl).1
  have x4 := (h.cellE hk (q := 4) rfl).1
  have x5 := (h.cellE hk (q := 5) rfl).1
  have x6 := (h.cellE hk (q := 6) rfl).1
  have x7 := (h.cellE hk (q := 7) rfl).1
  have x8 := (h.cellE hk (q := 8) rfl).1
  have x9 := (h.cellE hk (q := 9) rfl).1
  have x10 := (h.cellE hk (q := 10) rfl).1
  have x11 := (h.cellE hk (q := 11) rfl).1
  rw [Nat.add_zero] at x0
  generalize k * 12 = o at *
  unfold execOp
  rw [ho]
  simp only [hv]
  go_simp
  rfl

theorem exec_storeE {W0 w : World} {g n cap : Nat} {T : TypeId} {E : Nat → EvD} {p : Nat → Nat} (h : StR W0 w g T 12 n cap (enE E) p) {k x o : Nat} (hk : k < n) {ev : Operand → Value} {t u : Operand} {oo : Oper} (ho : oo.op = .store 93 t u) (hv : ev t = .pointer (some ⟨g, o, none⟩)) (hu : ev u = elE E x) (hoo : o = k * 12) :
    (execOp ev oo).run Try.prog w = .ok .skip (setL w g (k * 12) (enE E x)) := by
  subst hoo
  obtain ⟨x0, y0⟩ := h.cellE hk (q := 0) rfl
  obtain ⟨x1, y1⟩ := h.cellE hk (q := 1) rfl
  obtain ⟨x2, y2⟩ := h.cellE hk (q := 2) rfl
  obtain ⟨x3, y3⟩ := h.cellE hk (q := 3) rfl
  obtain ⟨x4, y4⟩ := h.cellE hk (q := 4) rfl
  obtain ⟨x5, y5⟩ := h.cellE hk (q := 5) rfl
  obtain ⟨x6, y6⟩ := h.cellE hk (q := 6) rfl
  obtain ⟨x7, y7⟩ := h.cellE hk (q := 7) rfl
  obtain ⟨x8, y8⟩ := h.cellE hk (q := 8) rfl
  obtain ⟨x9, y9⟩ := h.cellE hk (q := 9) rfl
  obtain ⟨x10, y10⟩ := h.cellE hk (q := 10) rfl
  obtain ⟨x11, y11⟩ := h.cellE hk (q := 11) rfl
  rw [Nat.add_zero] at x0 y0
  generalize k * 12 = o at *
  unfold execOp
  rw [ho]
  simp only [hv, hu, elE, evCells]
  go_simp
  rfl

theorem oper_value {P : Program} {w : World} {o : Oper} {a : Act} {K : Act → World → Prop} {Q : Exit → Act → World → Prop} {v : Value} (h : (execOp a.eval o).run P w = .ok (.value v) w) (hk : K (a.put o.dst v) w) : Oper.wp P o a w K Q := by
  unfold Oper.wp
  rw [h]
  exact hk
theorem oper_skip {P : Program} {w w' : World} {o : Oper} {a : Act} {K : Act → World → Prop} {Q : Exit → Act → World → Prop} (h : (execOp a.eval o).run P w = .ok .skip w') (hk : K (a.put o.dst undef) w') : Oper.wp P o a w K Q := by
  unfold Oper.wp
  rw [h]
  exact hk
def elI (E : Nat → Int) (x : Nat) : Value := .int .i64 (E x)
theorem enI_len (E : Nat → Int) (x : Nat) : (enI E x).length = 1 := rfl
theorem exec_loadI {W0 w : World} {g n cap : Nat} {T : TypeId} {E : Nat → Int} {p : Nat → Nat} (h : StR W0 w g T 1 n cap (enI E) p) {k x o : Nat} (hk : k < n) (e : p k = x) {ev : Operand → Value} {t : Operand} {oo : Oper} (ho : oo.op = .load 3 t) (hv : ev t = .pointer (some ⟨g, o, none⟩)) (hoo : o = k * 1) :
    (execOp ev oo).run Try.prog w = .ok (.value (elI E x)) w := by
  obtain rfl : o = k := by omega
  clear hoo
  subst e
  have x0 := (h.int hk).1
  unfold execOp
  rw [ho]
  simp only [hv]
  go_simp
  rfl
theorem exec_storeI {W0 w : World} {g n cap : Nat} {T : TypeId} {E : Nat → Int} {p : Nat → Nat} (h : StR W0 w g T 1 n cap (enI E) p) {k x o : Nat} (hk : k < n) {ev : Operand → Value} {t u : Operand} {oo : Oper} (ho : oo.op = .store 3 t u) (hv : ev t = .pointer (some ⟨g, o, none⟩)) (hu : ev u = elI E x) (hoo : o = k * 1) :
    (execOp ev oo).run Try.prog w = .ok .skip (setL w g (k * 1) (enI E x)) := by
  obtain rfl : o = k := by omega
  clear hoo
  obtain ⟨x0, y0⟩ := h.int hk
  unfold execOp
  rw [ho]
  simp only [hv, hu, elI]
  go_simp
  rfl
/-- What a comparison answers: of two elements, the first of which came from behind the other's place. -/
def CmpTo (W0 : World) (g N : Nat) (key : Nat → Int) (call : Nat → Nat → World → (Ending → World → Prop) → Prop) : Prop :=
  ∀ (x y : Nat) (W : World), y < x → x < N → Off (fun k => k = g) W0 W → call x y W (fun e w' => ∃ v : Int, e = .returned (.int .i64 v) ∧ (v < 0 ↔ lx key x y) ∧ Below W.heap.size W w')
theorem cut_after {R G : World → Prop} {M : Prop} (main : (∀ W2, R W2 → G W2) → M) (tail : ∀ W2, R W2 → G W2) : M := main tail
theorem enE_len (E : Nat → EvD) (x : Nat) : (enE E x).length = 12 := rfl

end Go.Proofs.Ythbafbgnclpbpaa

namespace Go.Proofs.Ythbafbgnclpbpaa
open Go.RowKit

set_option maxHeartbeats 4000000 in
theorem rotate_int (W0 : World) (g n cap : Nat) (E : Nat → Int) (p : Nat → Nat) (a m b : Nat) (fn : Value) (w : World) (h : StR W0 w g 3 1 n cap (enI E) p) (ha : a < m) (hm : m < b) (hb : b ≤ n) (hn : n ≤ 1000) :
    Calls Try.prog 116 #[.slice (some ⟨g, 0, none⟩) n cap, .int .i64 a, .int .i64 m, .int .i64 b, fn] w (fun e w' => e = .returned (.tuple #[]) ∧ StR W0 w' g 3 1 n cap (enI E) (rotF p a m b)) := by
  have HS0 := Lib.hid h
  have HR0 := Lib.hid (show rotF p (m - (m - a)) m (m + (b - m)) = rotF p a m b by rw [show m - (m - a) = a from by omega, show m + (b - m) = b from by omega])
  obtain ⟨i0, hi0⟩ : ∃ i0 : Nat, i0 = m - a := ⟨_, rfl⟩
  obtain ⟨j0, hj0⟩ : ∃ j0 : Nat, j0 = b - m := ⟨_, rfl⟩
  have hw1 : (m : Int) - (a : Int) = (i0 : Int) := by omega
  have hw2 : (b : Int) - (m : Int) = (j0 : Int) := by omega
  rw [← hi0, ← hj0] at HR0
  have HI0 := Lib.hid (show 1 ≤ i0 ∧ 1 ≤ j0 ∧ i0 ≤ m - a ∧ j0 ≤ b - m by omega)
  clear h hi0 hj0
  go_enter Try.func116, Try.ntmps116
  go_wp2_with fail
  go_loopw [10, 11] (fun vi vj wr => ∃ (i j : Nat) (q : Nat → Nat), vi = .int .i64 i ∧ vj = .int .i64 j ∧ Hid (1 ≤ i ∧ 1 ≤ j ∧ i ≤ m - a ∧ j ≤ b - m) ∧ Hid (rotF q (m - i) m (m + j) = rotF p a m b) ∧ Hid (StR W0 wr g 3 1 n cap (enI E) q)) (fun vi vj _ => (intOf vi).toNat + (intOf vj).toNat)
  case atStart => exact ⟨i0, j0, p, rfl, rfl, HI0.out, HR0.out, HS0.out⟩
  case round =>
    obtain ⟨i, j, q, rfl, rfl, HJ, HR, HS⟩ := hrel
    clear HS0 HR0 hw1 hw2 HI0
    have hj1 := HJ.out.1
    have hj2 := HJ.out.2.1
    have hj3 := HJ.out.2.2.1
    have hj4 := HJ.out.2.2.2
    obtain ⟨x, hx⟩ : ∃ x : Nat, x = m - i := ⟨_, rfl⟩
    have hw3 : (m : Int) - (i : Int) = (x : Int) := by omega
    have HX := Lib.hid (show x + i = m by omega)
    rw [← hx] at HR
    clear hx
    by_cases h1 : i = j
    · subst h1
      have HC := Lib.hid (fun W hW => swaprange_int W0 g n cap E q x m i fn W hW (by have := HX.out; omega) (by omega) hn)
      go_wp2_with fail
      refine (HC.out _ HS.out).mono ?_
      rintro e w2 ⟨rfl, h2⟩
      have HN := Lib.hid (h2.to ((show swapR q x m i = rotF q x m (m + i) by have := rot_end q m i (by omega); rw [show m - i = x from by have := HX.out; omega] at this; exact this.symm).trans HR.out))
      clear h2
      go_wp2_with fail
      go_end0
      exact ⟨rfl, HN.out⟩
    · have h1i : ¬ (i : Int) = (j : Int) := by omega
      have h1b : ((i : Int) != (j : Int)) = true := by simpa using h1i
      by_cases h2 : j < i
      · have HC := Lib.hid (fun W hW => swaprange_int W0 g n cap E q x m j fn W hW (by have := HX.out; omega) (by omega) hn)
        obtain ⟨y, hy⟩ : ∃ y : Nat, y = i - j := ⟨_, rfl⟩
        have hw4 : (i : Int) - (j : Int) = (y : Int) := by omega
        have HY := Lib.hid (show y + j = i by omega)
        have HRL := Lib.hid (show rotF (swapR q x m j) (m - y) m (m + j) = rotF p a m b by
          have h9 := rot_left q m i j (by omega) h2
          have h8 := HX.out
          rw [show m - i = x from by omega, show x + j = m - y from by omega] at h9
          exact h9.trans HR.out)
        clear hy
        go_wp2_with fail
        refine (HC.out _ HS.out).mono ?_
        rintro e w2 ⟨rfl, h3⟩
        have HN := Lib.hid h3
        clear h3
        go_wp2_with fail
        go_roundw
        case rel => exact ⟨y, j, _, rfl, rfl, ⟨by have := HY.out; omega, hj2, by have := HY.out; omega, hj4⟩, HRL.out, HN.out⟩
        case measure => simp [intOf]; have := HY.out; omega
      · obtain ⟨y, hy⟩ : ∃ y : Nat, y = j - i := ⟨_, rfl⟩
        obtain ⟨z, hz⟩ : ∃ z : Nat, z = m + y := ⟨_, rfl⟩
        have hw4 : (j : Int) - (i : Int) = (y : Int) := by omega
        have hw6 : (m : Int) + (j : Int) - (i : Int) = (z : Int) := by omega
        have HY := Lib.hid (show y + i = j ∧ z = m + y by omega)
        have HC := Lib.hid (fun W hW => swaprange_int W0 g n cap E q x z i fn W hW (by have := HX.out; omega) (by omega) hn)
        have HRL := Lib.hid (show rotF (swapR q x z i) (m - i) m (m + y) = rotF p a m b by
          have h9 := rot_right q m i j (by omega) (by omega)
          have h8 := HX.out
          rw [show m - i = x from by omega, show m + j - i = z from by omega] at h9
          rw [show m - i = x from by omega, show m + y = z from by omega]
          exact h9.trans HR.out)
        clear hy hz
        go_wp2_with fail
        refine (HC.out _ HS.out).mono ?_
        rintro e w2 ⟨rfl, h3⟩
        have HN := Lib.hid h3
        clear h3
        go_wp2_with fail
        go_roundw
        case rel => exact ⟨i, y, _, rfl, rfl, ⟨hj1, by have := HY.out; omega, hj3, by have := HY.out; omega⟩, HRL.out, HN.out⟩
        case measure => simp [intOf]; have := HY.out; omega

end Go.Proofs.Ythbafbgnclpbpaa

namespace Go.Proofs.Ythbafbgnclpbpaa
open Go.RowKit

/-- The comparison by the calls' numbers. -/
abbrev ordFn (bp : Nat) : Value := .func (Fn.func 101) #[] #[.pointer (some ⟨bp, 0, none⟩)]
def CmpI (W0 : World) (g N bp : Nat) (E : Nat → Int) (key : Nat → Int) : Prop :=
  CmpTo W0 g N key (fun x y W Q => Calls Try.prog 101 #[elI E x, elI E y, .pointer (some ⟨bp, 0, none⟩)] W Q)

set_option maxRecDepth 100000 in
set_option maxHeartbeats 4000000 in
theorem insertion_int (W0 : World) (g n cap N bp : Nat) (E : Nat → Int) (key : Nat → Int) (p : Nat → Nat) (a b : Nat) (w : World) (hc : CmpI W0 g N bp E key) (h : StR W0 w g 3 1 n cap (enI E) p) (hab : a ≤ b) (hb : b ≤ n) (hn : n ≤ 1000) (hN : ∀ k, k < n → p k < N) (hinc : Inc p a b) :
    Calls Try.prog 112 #[.slice (some ⟨g, 0, none⟩) n cap, .int .i64 a, .int .i64 b, ordFn bp] w (fun e w' => e = .returned (.tuple #[]) ∧ ∃ p', StR W0 w' g 3 1 n cap (enI E) p' ∧ PermOn a b p p' ∧ Srt key p' a b) := by
  have HC := Lib.hid hc
  have HN := Lib.hid hN
  have HI := Lib.hid hinc
  have HS0 := Lib.hid h
  clear hc hN hinc h
  go_enter Try.func112, Try.ntmps112
  go_wp2_with fail
  go_loopw [8, 9] (fun vi _ wr => ∃ (i : Nat) (p1 : Nat → Nat), vi = .int .i64 i ∧ Hid (a + 1 ≤ i) ∧ Hid ((i ≤ b ∧ PermOn a i p p1 ∧ Srt key p1 a i) ∨ (b ≤ a ∧ p1 = p)) ∧ Hid (StR W0 wr g 3 1 n cap (enI E) p1)) (fun vi _ _ => b - (intOf vi).toNat)
  case atStart => exact ⟨a + 1, p, by go_num, Nat.le_refl _, (by
    rcases Nat.lt_or_ge a b with q | q
    · exact .inl ⟨q, PermOn.refl _ _ _, fun i j h1 h2 h3 => by omega⟩
    · exact .inr ⟨q, rfl⟩), HS0.out⟩
  case round =>
    obtain ⟨i, p1, rfl, HA, HP, HS⟩ := hrel
    clear HS0
    have hai := HA.out
    by_cases hlt : i < b
    · have hpp : PermOn a i p p1 ∧ Srt key p1 a i := by
        rcases HP.out with q | q
        · exact q.2
        · omega
      have HG := Lib.hid (show ∀ k, a ≤ k → k < i → p1 k < p1 i from fun k h1 h2 => by
        obtain ⟨x, hx1, hx2, ex⟩ := hpp.1.into h1 h2
        rw [ex, hpp.1.off (.inr (Nat.le_refl _))]
        exact HI.out x i hx1 (by omega) hlt)
      have HQ := Lib.hid hpp
      have HT0 := Lib.hid (HS.out.to (rot_nil p1 i (i + 1) (by omega)).symm)
      have HXN := Lib.hid (show p1 i < N by rw [hpp.1.off (.inr (Nat.le_refl _))]; exact HN.out i (by omega))
      clear hpp HP HS
      go_wp2_with fail
      go_loopw [9] (fun vj wr => ∃ j : Nat, vj = .int .i64 j ∧ Hid (a ≤ j ∧ j ≤ i) ∧ Hid (∀ k, j ≤ k → k < i → lx key (p1 i) (p1 k)) ∧ Hid (StR W0 wr g 3 1 n cap (enI E) (rotF p1 j i (i + 1)))) (fun vj _ => (intOf vj).toNat)
      case atStart => exact ⟨i, rfl, ⟨by omega, Nat.le_refl _⟩, fun k h1 h2 => by omega, HT0.out⟩
      case round =>
        obtain ⟨j, rfl, HJ, HU, HS⟩ := hrel
        clear HT0
        generalize wr = W at HS ⊢
        have hj1 := HJ.out.1
        have hj2 := HJ.out.2
        have HD := Lib.hid (fun (q : a < j → ¬ lx key (p1 i) (p1 (j - 1))) => ins_srt HQ.out.2 HG.out hj1 hj2 HU.out q)
        have HPM := Lib.hid (show PermOn a (i + 1) p (rotF p1 j i (i + 1)) from (HQ.out.1.mono (Nat.le_refl _) (by omega)).trans ((rot_perm p1 hj2 (by omega)).mono hj1 (Nat.le_refl _)))
        by_cases h1 : a < j
        · obtain ⟨jd, hjd⟩ : ∃ jd, j = jd + 1 := ⟨j - 1, by omega⟩
          have hi1 : j < n := by omega
          have hi2 : jd < n := by omega
          have h1b : decide ((a : Int) < (j : Int)) = true := decide_eq_true (by omega)
          have hsub : (j : Int) - 1 = (jd : Int) := by omega
          have hwj : IntKind.i64.wrap (jd : Int) = (jd : Int) := by rw [IntKind.wrap_i64]; omega
          have hjn : (jd : Int) < (n : Int) := by omega
          have e1 : rotF p1 j i (i + 1) j = p1 i := by rw [rot_lo p1 (Nat.le_refl _) (by omega), show j + (i - j) = i from by omega]
          have e2 : rotF p1 j i (i + 1) jd = p1 jd := by rw [rot_off p1 hj2 (by omega) (.inl (by omega))]
          have HE1 := Lib.hid e1
          have HE2 := Lib.hid e2
          clear e1 e2
          have HCc := Lib.hid (fun W hW => HC.out (p1 i) (p1 jd) W (HG.out jd (by omega) (by omega)) HXN.out hW)
          have HJD := Lib.hid (show j = jd + 1 ∧ a ≤ jd ∧ jd < i by omega)
          have HRD := Lib.hid (show swp (rotF p1 j i (i + 1)) j jd = rotF p1 jd i (i + 1) by rw [hjd]; exact rot_down p1 jd i (by omega))
          clear hjd
          go_upto_region 4 with fail
          refine wp_region_held_drew (S := fun w' => Below W.heap.size W w') (by kernel_rfl) (Below.drew (Below.refl _ _)) (fun hcur => ?_)
          replace hcur : Below W.heap.size W W.drew := hcur
          refine wpAnyH_take (i := 0) (v := ?_) rfl (by decide +kernel) (by decide +kernel) (by decide +kernel) (fun _ _ _ h => h) (Or.inl ⟨by rfl, ?hy⟩) hcur ?_
          case hy =>
            intro w1 hSw
            go_simp
            (try with_reducible rfl)
          (try simp only [Act.put, List.getElem_toArray, List.getElem_cons_zero, List.getElem_cons_succ, List.setIfInBounds_toArray, List.set_cons_zero, List.set_cons_succ])
          refine wpAnyH_take (i := 1) (v := ?_) rfl (by decide +kernel) (by decide +kernel) (by decide +kernel) (fun _ _ _ h => h) (Or.inl ⟨by rfl, ?hy⟩) hcur ?_
          case hy =>
            intro w1 hSw
            go_simp
            (try with_reducible rfl)
          (try simp only [Act.put, List.getElem_toArray, List.getElem_cons_zero, List.getElem_cons_succ, List.setIfInBounds_toArray, List.set_cons_zero, List.set_cons_succ])
          refine wpAnyH_take (i := 2) (v := ?_) rfl (by decide +kernel) (by decide +kernel) (by decide +kernel) (fun _ _ _ h => h) (Or.inl ⟨by rfl, ?hy⟩) hcur ?_
          case hy =>
            intro w1 hSw
            go_simp
            (try with_reducible rfl)
          (try simp only [Act.put, List.getElem_toArray, List.getElem_cons_zero, List.getElem_cons_succ, List.setIfInBounds_toArray, List.set_cons_zero, List.set_cons_succ])
          refine wpAnyH_take (i := 3) (v := ?_) rfl (by decide +kernel) (by decide +kernel) (by decide +kernel) (fun _ _ _ h => h) (Or.inl ⟨by rfl, ?hy⟩) hcur ?_
          case hy =>
            intro w1 hSw
            go_simp
            (try with_reducible rfl)
          (try simp only [Act.put, List.getElem_toArray, List.getElem_cons_zero, List.getElem_cons_succ, List.setIfInBounds_toArray, List.set_cons_zero, List.set_cons_succ])
          refine wpAnyH_take (i := 4) (v := ?_) rfl (by decide +kernel) (by decide +kernel) (by decide +kernel) (fun _ _ _ h => h) (Or.inl ⟨by rfl, ?hy⟩) hcur ?_
          case hy =>
            intro w1 hSw
            go_simp
            (try with_reducible rfl)
          (try simp only [Act.put, List.getElem_toArray, List.getElem_cons_zero, List.getElem_cons_succ, List.setIfInBounds_toArray, List.set_cons_zero, List.set_cons_succ])
          refine wpAnyH_take (i := 5) (v := ?_) rfl (by decide +kernel) (by decide +kernel) (by decide +kernel) (fun _ _ _ h => h) (Or.inl ⟨by rfl, ?hy⟩) hcur ?_
          case hy =>
            intro w1 hSw
            go_simp
            (try with_reducible rfl)
          (try simp only [Act.put, List.getElem_toArray, List.getElem_cons_zero, List.getElem_cons_succ, List.setIfInBounds_toArray, List.set_cons_zero, List.set_cons_succ])
          refine wpAnyH_take (i := 6) (v := ?_) rfl (by decide +kernel) (by decide +kernel) (by decide +kernel) (fun _ _ _ h => h) (Or.inl ⟨by rfl, ?hy⟩) hcur ?_
          case hy =>
            intro w1 hSw
            go_simp
            (try with_reducible rfl)
          (try simp only [Act.put, List.getElem_toArray, List.getElem_cons_zero, List.getElem_cons_succ, List.setIfInBounds_toArray, List.set_cons_zero, List.set_cons_succ])
          refine wpAnyH_take (i := 7) (v := ?_) rfl (by decide +kernel) (by decide +kernel) (by decide +kernel) (fun _ _ _ h => h) (Or.inl ⟨by rfl, ?hy⟩) hcur ?_
          case hy =>
            intro w1 hSw
            go_simp
            (try with_reducible rfl)
          (try simp only [Act.put, List.getElem_toArray, List.getElem_cons_zero, List.getElem_cons_succ, List.setIfInBounds_toArray, List.set_cons_zero, List.set_cons_succ])
          refine wpAnyH_take (i := 8) (v := elI E (p1 i)) rfl (by decide +kernel) (by decide +kernel) (by decide +kernel) (fun _ _ _ h => h) (Or.inl ⟨by rfl, ?hy⟩) hcur ?_
          case hy =>
            intro w1 hSw
            replace hSw : Below W.heap.size W w1 := hSw
            exact exec_loadI (HS.out.up hSw) hi1 HE1.out rfl rfl (by omega)
          (try simp only [Act.put, List.getElem_toArray, List.getElem_cons_zero, List.getElem_cons_succ, List.setIfInBounds_toArray, List.set_cons_zero, List.set_cons_succ])
          refine wpAnyH_take (i := 9) (v := ?_) rfl (by decide +kernel) (by decide +kernel) (by decide +kernel) (fun _ _ _ h => h) (Or.inl ⟨by rfl, ?hy⟩) hcur ?_
          case hy =>
            intro w1 hSw
            go_simp
            (try with_reducible rfl)
          (try simp only [Act.put, List.getElem_toArray, List.getElem_cons_zero, List.getElem_cons_succ, List.setIfInBounds_toArray, List.set_cons_zero, List.set_cons_succ])
          refine wpAnyH_take (i := 10) (v := ?_) rfl (by decide +kernel) (by decide +kernel) (by decide +kernel) (fun _ _ _ h => h) (Or.inl ⟨by rfl, ?hy⟩) hcur ?_
          case hy =>
            intro w1 hSw
            go_simp
            (try with_reducible rfl)
          (try simp only [Act.put, List.getElem_toArray, List.getElem_cons_zero, List.getElem_cons_succ, List.setIfInBounds_toArray, List.set_cons_zero, List.set_cons_succ])
          refine wpAnyH_take (i := 11) (v := ?_) rfl (by decide +kernel) (by decide +kernel) (by decide +kernel) (fun _ _ _ h => h) (Or.inl ⟨by rfl, ?hy⟩) hcur ?_
          case hy =>
            intro w1 hSw
            go_simp
            (try with_reducible rfl)
          (try simp only [Act.put, List.getElem_toArray, List.getElem_cons_zero, List.getElem_cons_succ, List.setIfInBounds_toArray, List.set_cons_zero, List.set_cons_succ])
          refine wpAnyH_take (i := 12) (v := ?_) rfl (by decide +kernel) (by decide +kernel) (by decide +kernel) (fun _ _ _ h => h) (Or.inl ⟨by rfl, ?hy⟩) hcur ?_
          case hy =>
            intro w1 hSw
            go_simp
            (try with_reducible rfl)
          (try simp only [Act.put, List.getElem_toArray, List.getElem_cons_zero, List.getElem_cons_succ, List.setIfInBounds_toArray, List.set_cons_zero, List.set_cons_succ])
          refine wpAnyH_take (i := 13) (v := elI E (p1 jd)) rfl (by decide +kernel) (by decide +kernel) (by decide +kernel) (fun _ _ _ h => h) (Or.inl ⟨by rfl, ?hy⟩) hcur ?_
          case hy =>
            intro w1 hSw
            replace hSw : Below W.heap.size W w1 := hSw
            exact exec_loadI (HS.out.up hSw) hi2 HE2.out rfl rfl (by omega)
          (try simp only [Act.put, List.getElem_toArray, List.getElem_cons_zero, List.getElem_cons_succ, List.setIfInBounds_toArray, List.set_cons_zero, List.set_cons_succ])
          refine wpAnyH_ready (rs := [14]) (by decide +kernel) (by simp) ?_
          refine AllReadyH.cons rfl (fun K hK => ?_) AllReadyH.nil
          go_simp
          refine (HCc.out _ (HS.out.up hcur).off).mono ?_
          rintro e wn ⟨v, rfl, hv, hbn⟩
          have HV := Lib.hid hv
          go_wp2_with fail
          refine hK.out _ _ (below_of hcur hbn) (fun _ => ?_)
          clear hK K hv
          replace hcur := below_of hcur hbn
          clear hbn
          (try simp only [Act.put, List.getElem_toArray, List.getElem_cons_zero, List.getElem_cons_succ, List.setIfInBounds_toArray, List.set_cons_zero, List.set_cons_succ])
          by_cases hv0 : v < 0
          · have hvb : decide (v < 0) = true := decide_eq_true hv0
            refine wpAnyH_take (i := 15) (v := ?_) rfl (by decide +kernel) (by decide +kernel) (by decide +kernel) (fun _ _ _ h => h) (Or.inl ⟨by rfl, ?hy⟩) hcur ?_
            case hy =>
              intro w1 hSw
              go_simp
              (try with_reducible rfl)
            (try simp only [Act.put, List.getElem_toArray, List.getElem_cons_zero, List.getElem_cons_succ, List.setIfInBounds_toArray, List.set_cons_zero, List.set_cons_succ])
            refine wpAnyH_take (i := 16) (v := ?_) rfl (by decide +kernel) (by decide +kernel) (by decide +kernel) (fun _ _ _ h => h) (Or.inl ⟨by rfl, ?hy⟩) hcur ?_
            case hy =>
              intro w1 hSw
              go_simp
              (try with_reducible rfl)
            (try simp only [Act.put, List.getElem_toArray, List.getElem_cons_zero, List.getElem_cons_succ, List.setIfInBounds_toArray, List.set_cons_zero, List.set_cons_succ])
            refine wpAnyH_done (by decide +kernel) ?_ _
            have HV0 := Lib.hid (HV.out.1 hv0)
            replace HS := Lib.hid (HS.out.up hcur)
            clear HV hv0 hvb hcur
            go_upto_region 6 with fail
            apply cut_after (R := fun W2 => StR W0 W2 g 3 1 n cap (enI E) (swp (rotF p1 j i (i + 1)) j jd))
            case main =>
              intro HG
              refine wp_region_held_drew (S := fun _ => True) (by kernel_rfl) trivial (fun hcur => ?_)
              refine wpAnyH_take (i := 0) (v := ?_) rfl (by decide +kernel) (by decide +kernel) (by decide +kernel) (fun _ _ _ h => h) (Or.inl ⟨by rfl, ?hy⟩) hcur ?_
              case hy =>
                intro w1 hSw
                go_simp
                (try with_reducible rfl)
              (try simp only [Act.put, List.getElem_toArray, List.getElem_cons_zero, List.getElem_cons_succ, List.setIfInBounds_toArray, List.set_cons_zero, List.set_cons_succ])
              refine wpAnyH_take (i := 1) (v := ?_) rfl (by decide +kernel) (by decide +kernel) (by decide +kernel) (fun _ _ _ h => h) (Or.inl ⟨by rfl, ?hy⟩) hcur ?_
              case hy =>
                intro w1 hSw
                go_simp
                (try with_reducible rfl)
              (try simp only [Act.put, List.getElem_toArray, List.getElem_cons_zero, List.getElem_cons_succ, List.setIfInBounds_toArray, List.set_cons_zero, List.set_cons_succ])
              refine wpAnyH_take (i := 2) (v := ?_) rfl (by decide +kernel) (by decide +kernel) (by decide +kernel) (fun _ _ _ h => h) (Or.inl ⟨by rfl, ?hy⟩) hcur ?_
              case hy =>
                intro w1 hSw
                go_simp
                (try with_reducible rfl)
              (try simp only [Act.put, List.getElem_toArray, List.getElem_cons_zero, List.getElem_cons_succ, List.setIfInBounds_toArray, List.set_cons_zero, List.set_cons_succ])
              refine wpAnyH_take (i := 3) (v := ?_) rfl (by decide +kernel) (by decide +kernel) (by decide +kernel) (fun _ _ _ h => h) (Or.inl ⟨by rfl, ?hy⟩) hcur ?_
              case hy =>
                intro w1 hSw
                go_simp
                (try with_reducible rfl)
              (try simp only [Act.put, List.getElem_toArray, List.getElem_cons_zero, List.getElem_cons_succ, List.setIfInBounds_toArray, List.set_cons_zero, List.set_cons_succ])
              refine wpAnyH_take (i := 4) (v := ?_) rfl (by decide +kernel) (by decide +kernel) (by decide +kernel) (fun _ _ _ h => h) (Or.inl ⟨by rfl, ?hy⟩) hcur ?_
              case hy =>
                intro w1 hSw
                go_simp
                (try with_reducible rfl)
              (try simp only [Act.put, List.getElem_toArray, List.getElem_cons_zero, List.getElem_cons_succ, List.setIfInBounds_toArray, List.set_cons_zero, List.set_cons_succ])
              refine wpAnyH_take (i := 5) (v := ?_) rfl (by decide +kernel) (by decide +kernel) (by decide +kernel) (fun _ _ _ h => h) (Or.inl ⟨by rfl, ?hy⟩) hcur ?_
              case hy =>
                intro w1 hSw
                go_simp
                (try with_reducible rfl)
              (try simp only [Act.put, List.getElem_toArray, List.getElem_cons_zero, List.getElem_cons_succ, List.setIfInBounds_toArray, List.set_cons_zero, List.set_cons_succ])
              refine wpAnyH_take (i := 6) (v := ?_) rfl (by decide +kernel) (by decide +kernel) (by decide +kernel) (fun _ _ _ h => h) (Or.inl ⟨by rfl, ?hy⟩) hcur ?_
              case hy =>
                intro w1 hSw
                go_simp
                (try with_reducible rfl)
              (try simp only [Act.put, List.getElem_toArray, List.getElem_cons_zero, List.getElem_cons_succ, List.setIfInBounds_toArray, List.set_cons_zero, List.set_cons_succ])
              refine wpAnyH_take (i := 7) (v := ?_) rfl (by decide +kernel) (by decide +kernel) (by decide +kernel) (fun _ _ _ h => h) (Or.inl ⟨by rfl, ?hy⟩) hcur ?_
              case hy =>
                intro w1 hSw
                go_simp
                (try with_reducible rfl)
              (try simp only [Act.put, List.getElem_toArray, List.getElem_cons_zero, List.getElem_cons_succ, List.setIfInBounds_toArray, List.set_cons_zero, List.set_cons_succ])
              refine wpAnyH_take (i := 8) (v := ?_) rfl (by decide +kernel) (by decide +kernel) (by decide +kernel) (fun _ _ _ h => h) (Or.inl ⟨by rfl, ?hy⟩) hcur ?_
              case hy =>
                intro w1 hSw
                go_simp
                (try with_reducible rfl)
              (try simp only [Act.put, List.getElem_toArray, List.getElem_cons_zero, List.getElem_cons_succ, List.setIfInBounds_toArray, List.set_cons_zero, List.set_cons_succ])
              refine wpAnyH_take (i := 10) (v := ?_) rfl (by decide +kernel) (by decide +kernel) (by decide +kernel) (fun _ _ _ h => h) (Or.inl ⟨by rfl, ?hy⟩) hcur ?_
              case hy =>
                intro w1 hSw
                go_simp
                (try with_reducible rfl)
              (try simp only [Act.put, List.getElem_toArray, List.getElem_cons_zero, List.getElem_cons_succ, List.setIfInBounds_toArray, List.set_cons_zero, List.set_cons_succ])
              refine wpAnyH_take (i := 11) (v := ?_) rfl (by decide +kernel) (by decide +kernel) (by decide +kernel) (fun _ _ _ h => h) (Or.inl ⟨by rfl, ?hy⟩) hcur ?_
              case hy =>
                intro w1 hSw
                go_simp
                (try with_reducible rfl)
              (try simp only [Act.put, List.getElem_toArray, List.getElem_cons_zero, List.getElem_cons_succ, List.setIfInBounds_toArray, List.set_cons_zero, List.set_cons_succ])
              refine wpAnyH_take (i := 12) (v := ?_) rfl (by decide +kernel) (by decide +kernel) (by decide +kernel) (fun _ _ _ h => h) (Or.inl ⟨by rfl, ?hy⟩) hcur ?_
              case hy =>
                intro w1 hSw
                go_simp
                (try with_reducible rfl)
              (try simp only [Act.put, List.getElem_toArray, List.getElem_cons_zero, List.getElem_cons_succ, List.setIfInBounds_toArray, List.set_cons_zero, List.set_cons_succ])
              refine wpAnyH_ready (rs := [9, 13]) (by decide +kernel) (by simp) ?_
              refine AllReadyH.cons rfl (fun K hK => ?_) (AllReadyH.cons rfl (fun K hK => ?_) AllReadyH.nil)
              · rw [if_pos (by rfl)]
                refine oper_value (exec_loadI HS.out.drew hi2 rfl rfl rfl (by omega)) ?_
                refine hK.out _ _ trivial (fun _ => ?_)
                clear hK K
                (try simp only [Act.put, List.getElem_toArray, List.getElem_cons_zero, List.getElem_cons_succ, List.setIfInBounds_toArray, List.set_cons_zero, List.set_cons_succ])
                refine wpAnyH_ready (rs := [13]) (by decide +kernel) (by simp) ?_
                refine AllReadyH.cons rfl (fun K hK => ?_) AllReadyH.nil
                rw [if_pos (by rfl)]
                refine oper_value (exec_loadI HS.out.drew hi1 rfl rfl rfl (by omega)) ?_
                refine hK.out _ _ trivial (fun _ => ?_)
                clear hK K
                (try simp only [Act.put, List.getElem_toArray, List.getElem_cons_zero, List.getElem_cons_succ, List.setIfInBounds_toArray, List.set_cons_zero, List.set_cons_succ])
                refine wpAnyH_take (i := 14) (v := ?_) rfl (by decide +kernel) (by decide +kernel) (by decide +kernel) (fun _ _ _ h => h) (Or.inl ⟨by rfl, ?hy⟩) hcur ?_
                case hy =>
                  intro w1 hSw
                  go_simp
                  (try with_reducible rfl)
                (try simp only [Act.put, List.getElem_toArray, List.getElem_cons_zero, List.getElem_cons_succ, List.setIfInBounds_toArray, List.set_cons_zero, List.set_cons_succ])
                have HT := Lib.hid (HS.out.drew.put (enI_len E) hi1 (rotF p1 j i (i + 1) jd))
                refine wpAnyH_ready (rs := [15]) (by decide +kernel) (by simp) ?_
                refine AllReadyH.cons rfl (fun K hK => ?_) AllReadyH.nil
                rw [if_pos (by rfl)]
                refine oper_skip (exec_storeI HS.out.drew hi1 rfl rfl rfl (by omega)) ?_
                refine hK.out _ _ trivial (fun _ => ?_)
                clear hK K
                (try simp only [Act.put, List.getElem_toArray, List.getElem_cons_zero, List.getElem_cons_succ, List.setIfInBounds_toArray, List.set_cons_zero, List.set_cons_succ])
                generalize setL _ _ _ _ = W1 at HT ⊢
                refine wpAnyH_take (i := 16) (v := ?_) rfl (by decide +kernel) (by decide +kernel) (by decide +kernel) (fun _ _ _ h => h) (Or.inl ⟨by rfl, ?hy⟩) hcur ?_
                case hy =>
                  intro w1 hSw
                  go_simp
                  (try with_reducible rfl)
                (try simp only [Act.put, List.getElem_toArray, List.getElem_cons_zero, List.getElem_cons_succ, List.setIfInBounds_toArray, List.set_cons_zero, List.set_cons_succ])
                have HT2 := Lib.hid ((HT.out.put (enI_len E) hi2 (rotF p1 j i (i + 1) j)).to (upd_swp _ _ _))
                refine wpAnyH_ready (rs := [17]) (by decide +kernel) (by simp) ?_
                refine AllReadyH.cons rfl (fun K hK => ?_) AllReadyH.nil
                rw [if_pos (by rfl)]
                refine oper_skip (exec_storeI HT.out hi2 rfl rfl rfl (by omega)) ?_
                refine hK.out _ _ trivial (fun _ => ?_)
                clear hK K
                (try simp only [Act.put, List.getElem_toArray, List.getElem_cons_zero, List.getElem_cons_succ, List.setIfInBounds_toArray, List.set_cons_zero, List.set_cons_succ])
                generalize setL _ _ _ _ = W2 at HT2 ⊢
                refine wpAnyH_done (by decide +kernel) ?_ _
                exact HG _ HT2.out
              · rw [if_pos (by rfl)]
                refine oper_value (exec_loadI HS.out.drew hi1 rfl rfl rfl (by omega)) ?_
                refine hK.out _ _ trivial (fun _ => ?_)
                clear hK K
                (try simp only [Act.put, List.getElem_toArray, List.getElem_cons_zero, List.getElem_cons_succ, List.setIfInBounds_toArray, List.set_cons_zero, List.set_cons_succ])
                refine wpAnyH_ready (rs := [9]) (by decide +kernel) (by simp) ?_
                refine AllReadyH.cons rfl (fun K hK => ?_) AllReadyH.nil
                rw [if_pos (by rfl)]
                refine oper_value (exec_loadI HS.out.drew hi2 rfl rfl rfl (by omega)) ?_
                refine hK.out _ _ trivial (fun _ => ?_)
                clear hK K
                (try simp only [Act.put, List.getElem_toArray, List.getElem_cons_zero, List.getElem_cons_succ, List.setIfInBounds_toArray, List.set_cons_zero, List.set_cons_succ])
                refine wpAnyH_take (i := 14) (v := ?_) rfl (by decide +kernel) (by decide +kernel) (by decide +kernel) (fun _ _ _ h => h) (Or.inl ⟨by rfl, ?hy⟩) hcur ?_
                case hy =>
                  intro w1 hSw
                  go_simp
                  (try with_reducible rfl)
                (try simp only [Act.put, List.getElem_toArray, List.getElem_cons_zero, List.getElem_cons_succ, List.setIfInBounds_toArray, List.set_cons_zero, List.set_cons_succ])
                have HT := Lib.hid (HS.out.drew.put (enI_len E) hi1 (rotF p1 j i (i + 1) jd))
                refine wpAnyH_ready (rs := [15]) (by decide +kernel) (by simp) ?_
                refine AllReadyH.cons rfl (fun K hK => ?_) AllReadyH.nil
                rw [if_pos (by rfl)]
                refine oper_skip (exec_storeI HS.out.drew hi1 rfl rfl rfl (by omega)) ?_
                refine hK.out _ _ trivial (fun _ => ?_)
                clear hK K
                (try simp only [Act.put, List.getElem_toArray, List.getElem_cons_zero, List.getElem_cons_succ, List.setIfInBounds_toArray, List.set_cons_zero, List.set_cons_succ])
                generalize setL _ _ _ _ = W1 at HT ⊢
                refine wpAnyH_take (i := 16) (v := ?_) rfl (by decide +kernel) (by decide +kernel) (by decide +kernel) (fun _ _ _ h => h) (Or.inl ⟨by rfl, ?hy⟩) hcur ?_
                case hy =>
                  intro w1 hSw
                  go_simp
                  (try with_reducible rfl)
                (try simp only [Act.put, List.getElem_toArray, List.getElem_cons_zero, List.getElem_cons_succ, List.setIfInBounds_toArray, List.set_cons_zero, List.set_cons_succ])
                have HT2 := Lib.hid ((HT.out.put (enI_len E) hi2 (rotF p1 j i (i + 1) j)).to (upd_swp _ _ _))
                refine wpAnyH_ready (rs := [17]) (by decide +kernel) (by simp) ?_
                refine AllReadyH.cons rfl (fun K hK => ?_) AllReadyH.nil
                rw [if_pos (by rfl)]
                refine oper_skip (exec_storeI HT.out hi2 rfl rfl rfl (by omega)) ?_
                refine hK.out _ _ trivial (fun _ => ?_)
                clear hK K
                (try simp only [Act.put, List.getElem_toArray, List.getElem_cons_zero, List.getElem_cons_succ, List.setIfInBounds_toArray, List.set_cons_zero, List.set_cons_succ])
                generalize setL _ _ _ _ = W2 at HT2 ⊢
                refine wpAnyH_done (by decide +kernel) ?_ _
                exact HG _ HT2.out
            case tail =>
              intro w9 h9
              have HNX := Lib.hid (h9.to HRD.out)
              clear h9
              go_wp2_with fail
              go_roundw
              case rel => exact ⟨jd, by go_num, ⟨HJD.out.2.1, by have := HJD.out; omega⟩, (fun k g1 g2 => by
                by_cases e : k = jd
                · rw [e]; exact HV0.out
                · exact HU.out k (by have := HJD.out; omega) g2), HNX.out⟩
              case measure => simp [intOf]; have := HJD.out; omega
          · have hvb : decide (v < 0) = false := decide_eq_false hv0
            refine wpAnyH_take (i := 15) (v := ?_) rfl (by decide +kernel) (by decide +kernel) (by decide +kernel) (fun _ _ _ h => h) (Or.inl ⟨by rfl, ?hy⟩) hcur ?_
            case hy =>
              intro w1 hSw
              go_simp
              (try with_reducible rfl)
            (try simp only [Act.put, List.getElem_toArray, List.getElem_cons_zero, List.getElem_cons_succ, List.setIfInBounds_toArray, List.set_cons_zero, List.set_cons_succ])
            refine wpAnyH_take (i := 16) (v := ?_) rfl (by decide +kernel) (by decide +kernel) (by decide +kernel) (fun _ _ _ h => h) (Or.inl ⟨by rfl, ?hy⟩) hcur ?_
            case hy =>
              intro w1 hSw
              go_simp
              (try with_reducible rfl)
            (try simp only [Act.put, List.getElem_toArray, List.getElem_cons_zero, List.getElem_cons_succ, List.setIfInBounds_toArray, List.set_cons_zero, List.set_cons_succ])
            refine wpAnyH_done (by decide +kernel) ?_ _
            have HSR := Lib.hid (HD.out (fun _ q => hv0 (HV.out.2 (by rw [show j - 1 = jd from by have := HJD.out; omega] at q; exact q))))
            replace HS := Lib.hid (HS.out.up hcur)
            clear HV hv0 hvb hcur
            go_wp2_with fail
            go_roundw
            case rel => exact ⟨i + 1, _, by go_num, Nat.le_succ_of_le HA.out, .inl ⟨hlt, HPM.out, HSR.out⟩, HS.out⟩
            case measure => simp [intOf]; omega
        · obtain rfl : j = a := by omega
          have h1b : decide ((j : Int) < (j : Int)) = false := decide_eq_false (by omega)
          have HSR := Lib.hid (HD.out (fun q => absurd q (Nat.lt_irrefl _)))
          go_upto_region 4 with fail
          refine wp_region_held_drew (S := fun w' => Below W.heap.size W w') (by kernel_rfl) (Below.drew (Below.refl _ _)) (fun hcur => ?_)
          replace hcur : Below W.heap.size W W.drew := hcur
          refine wpAnyH_take (i := 0) (v := ?_) rfl (by decide +kernel) (by decide +kernel) (by decide +kernel) (fun _ _ _ h => h) (Or.inl ⟨by rfl, ?hy⟩) hcur ?_
          case hy =>
            intro w1 hSw
            go_simp
            (try with_reducible rfl)
          (try simp only [Act.put, List.getElem_toArray, List.getElem_cons_zero, List.getElem_cons_succ, List.setIfInBounds_toArray, List.set_cons_zero, List.set_cons_succ])
          refine wpAnyH_take (i := 1) (v := ?_) rfl (by decide +kernel) (by decide +kernel) (by decide +kernel) (fun _ _ _ h => h) (Or.inl ⟨by rfl, ?hy⟩) hcur ?_
          case hy =>
            intro w1 hSw
            go_simp
            (try with_reducible rfl)
          (try simp only [Act.put, List.getElem_toArray, List.getElem_cons_zero, List.getElem_cons_succ, List.setIfInBounds_toArray, List.set_cons_zero, List.set_cons_succ])
          refine wpAnyH_take (i := 2) (v := ?_) rfl (by decide +kernel) (by decide +kernel) (by decide +kernel) (fun _ _ _ h => h) (Or.inl ⟨by rfl, ?hy⟩) hcur ?_
          case hy =>
            intro w1 hSw
            go_simp
            (try with_reducible rfl)
          (try simp only [Act.put, List.getElem_toArray, List.getElem_cons_zero, List.getElem_cons_succ, List.setIfInBounds_toArray, List.set_cons_zero, List.set_cons_succ])
          refine wpAnyH_take (i := 3) (v := ?_) rfl (by decide +kernel) (by decide +kernel) (by decide +kernel) (fun _ _ _ h => h) (Or.inl ⟨by rfl, ?hy⟩) hcur ?_
          case hy =>
            intro w1 hSw
            go_simp
            (try with_reducible rfl)
          (try simp only [Act.put, List.getElem_toArray, List.getElem_cons_zero, List.getElem_cons_succ, List.setIfInBounds_toArray, List.set_cons_zero, List.set_cons_succ])
          refine wpAnyH_take (i := 4) rfl (by decide +kernel) (by decide +kernel) (by decide +kernel) (fun _ _ _ h => h) (Or.inr ⟨by rfl, rfl⟩) hcur ?_
          (try simp only [Act.put, List.getElem_toArray, List.getElem_cons_zero, List.getElem_cons_succ, List.setIfInBounds_toArray, List.set_cons_zero, List.set_cons_succ])
          refine wpAnyH_take (i := 5) rfl (by decide +kernel) (by decide +kernel) (by decide +kernel) (fun _ _ _ h => h) (Or.inr ⟨by rfl, rfl⟩) hcur ?_
          (try simp only [Act.put, List.getElem_toArray, List.getElem_cons_zero, List.getElem_cons_succ, List.setIfInBounds_toArray, List.set_cons_zero, List.set_cons_succ])
          refine wpAnyH_take (i := 6) rfl (by decide +kernel) (by decide +kernel) (by decide +kernel) (fun _ _ _ h => h) (Or.inr ⟨by rfl, rfl⟩) hcur ?_
          (try simp only [Act.put, List.getElem_toArray, List.getElem_cons_zero, List.getElem_cons_succ, List.setIfInBounds_toArray, List.set_cons_zero, List.set_cons_succ])
          refine wpAnyH_take (i := 7) rfl (by decide +kernel) (by decide +kernel) (by decide +kernel) (fun _ _ _ h => h) (Or.inr ⟨by rfl, rfl⟩) hcur ?_
          (try simp only [Act.put, List.getElem_toArray, List.getElem_cons_zero, List.getElem_cons_succ, List.setIfInBounds_toArray, List.set_cons_zero, List.set_cons_succ])
          refine wpAnyH_take (i := 8) rfl (by decide +kernel) (by decide +kernel) (by decide +kernel) (fun _ _ _ h => h) (Or.inr ⟨by rfl, rfl⟩) hcur ?_
          (try simp only [Act.put, List.getElem_toArray, List.getElem_cons_zero, List.getElem_cons_succ, List.setIfInBounds_toArray, List.set_cons_zero, List.set_cons_succ])
          refine wpAnyH_take (i := 9) rfl (by decide +kernel) (by decide +kernel) (by decide +kernel) (fun _ _ _ h => h) (Or.inr ⟨by rfl, rfl⟩) hcur ?_
          (try simp only [Act.put, List.getElem_toArray, List.getElem_cons_zero, List.getElem_cons_succ, List.setIfInBounds_toArray, List.set_cons_zero, List.set_cons_succ])
          refine wpAnyH_take (i := 10) rfl (by decide +kernel) (by decide +kernel) (by decide +kernel) (fun _ _ _ h => h) (Or.inr ⟨by rfl, rfl⟩) hcur ?_
          (try simp only [Act.put, List.getElem_toArray, List.getElem_cons_zero, List.getElem_cons_succ, List.setIfInBounds_toArray, List.set_cons_zero, List.set_cons_succ])
          refine wpAnyH_take (i := 11) rfl (by decide +kernel) (by decide +kernel) (by decide +kernel) (fun _ _ _ h => h) (Or.inr ⟨by rfl, rfl⟩) hcur ?_
          (try simp only [Act.put, List.getElem_toArray, List.getElem_cons_zero, List.getElem_cons_succ, List.setIfInBounds_toArray, List.set_cons_zero, List.set_cons_succ])
          refine wpAnyH_take (i := 12) rfl (by decide +kernel) (by decide +kernel) (by decide +kernel) (fun _ _ _ h => h) (Or.inr ⟨by rfl, rfl⟩) hcur ?_
          (try simp only [Act.put, List.getElem_toArray, List.getElem_cons_zero, List.getElem_cons_succ, List.setIfInBounds_toArray, List.set_cons_zero, List.set_cons_succ])
          refine wpAnyH_take (i := 13) rfl (by decide +kernel) (by decide +kernel) (by decide +kernel) (fun _ _ _ h => h) (Or.inr ⟨by rfl, rfl⟩) hcur ?_
          (try simp only [Act.put, List.getElem_toArray, List.getElem_cons_zero, List.getElem_cons_succ, List.setIfInBounds_toArray, List.set_cons_zero, List.set_cons_succ])
          refine wpAnyH_take (i := 14) rfl (by decide +kernel) (by decide +kernel) (by decide +kernel) (fun _ _ _ h => h) (Or.inr ⟨by rfl, rfl⟩) hcur ?_
          (try simp only [Act.put, List.getElem_toArray, List.getElem_cons_zero, List.getElem_cons_succ, List.setIfInBounds_toArray, List.set_cons_zero, List.set_cons_succ])
          refine wpAnyH_take (i := 15) rfl (by decide +kernel) (by decide +kernel) (by decide +kernel) (fun _ _ _ h => h) (Or.inr ⟨by rfl, rfl⟩) hcur ?_
          (try simp only [Act.put, List.getElem_toArray, List.getElem_cons_zero, List.getElem_cons_succ, List.setIfInBounds_toArray, List.set_cons_zero, List.set_cons_succ])
          refine wpAnyH_take (i := 16) (v := ?_) rfl (by decide +kernel) (by decide +kernel) (by decide +kernel) (fun _ _ _ h => h) (Or.inl ⟨by rfl, ?hy⟩) hcur ?_
          case hy =>
            intro w1 hSw
            go_simp
            (try with_reducible rfl)
          (try simp only [Act.put, List.getElem_toArray, List.getElem_cons_zero, List.getElem_cons_succ, List.setIfInBounds_toArray, List.set_cons_zero, List.set_cons_succ])
          refine wpAnyH_done (by decide +kernel) ?_ _
          replace HS := Lib.hid (HS.out.up hcur)
          clear hcur
          go_wp2_with fail
          go_roundw
          case rel => exact ⟨i + 1, _, by go_num, Nat.le_succ_of_le HA.out, .inl ⟨hlt, HPM.out, HSR.out⟩, HS.out⟩
          case measure => simp [intOf]; omega
    · have HF := Lib.hid (show PermOn a b p p1 ∧ Srt key p1 a b by
        rcases HP.out with q | q
        · obtain rfl : i = b := by omega
          exact q.2
        · rw [q.2]
          exact ⟨PermOn.refl _ _ _, fun i j h1 h2 h3 => by omega⟩)
      go_wp2_with fail
      go_end0
      exact ⟨rfl, p1, HS.out, HF.out⟩

end Go.Proofs.Ythbafbgnclpbpaa
