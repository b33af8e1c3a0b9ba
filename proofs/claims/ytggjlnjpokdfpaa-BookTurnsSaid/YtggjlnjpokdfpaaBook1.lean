/- The book of operations: plain; where its variables lie; val, Of, pair, Turns. -/
import Derived.Test.YtggjlnjpokdfpaaOpl
import Derived.Test.YtggjlnjpokdfpaaOp6
import Derived.Test.YtggjlnjpokdfpaaPLast
import Derived.Test.YtggjlnjpokdfpaaPMap4
import Derived.Test.YtggjlnjpokdfpaaPNil
namespace Go.Proofs.Ytggjlnjpokdfpaa
open Go.RowKit

/-- An answer. -/
structure AnsI where
  code : Int
  key : ByteArray
  val : Int
  pairs : List PairD
def anCells (a : AnsI) (A : Option Addr) (c : Nat) : Array Value := #[.int .i64 a.code, .string a.key, .int .u64 a.val, .slice A a.pairs.length c]
def ansV (code v : Int) : AnsI := ⟨code, ⟨#[]⟩, v, []⟩
def ofO : Option PairD → AnsI
  | none => ansV 2 0
  | some p => ⟨1, p.key, p.val, []⟩
theorem ofO_shape (o : Option PairD) : ∃ c k v, ofO o = ⟨c, k, v, []⟩ := by cases o <;> exact ⟨_, _, _, rfl⟩
def getA (q : Int × Bool) : AnsI := if q.2 = true then ansV 1 q.1 else ansV 2 0
def zeroA : Array Value := #[.int .i64 0, .string ⟨#[]⟩, .int .u64 0, .slice none 0 0]

def readD (ks : List ByteArray) (vs : List Int) (o : OpD) : AnsI :=
  if o.kind = 6 then ofO (atO (Pl.zipP ks vs) 0)
  else if o.kind = 7 then ofO (atO (Pl.zipP ks vs) ((ks.length : Int) - 1))
  else if o.kind = 8 then ofO (atO (Pl.zipP ks vs) (nxI ks o.key))
  else if o.kind = 9 then ofO (atO (Pl.zipP ks vs) ((Pl.findAt ks o.key.data.toList : Int) - 1))
  else if o.kind = 10 then ⟨1, ⟨#[]⟩, 0, scanP (Pl.zipP ks vs) (Pl.findAt ks o.key.data.toList) o.upto.data.toList o.limit⟩
  else getA (mGet ks vs o.key)
def writeD (ks : List ByteArray) (vs : List Int) (o : OpD) : AnsI × List ByteArray × List Int :=
  if o.kind = 2 then (if (mGet ks vs o.key).2 = true then (ansV 3 (mGet ks vs o.key).1, ks, vs) else (ansV 1 0, pKs ks o.key, pVs ks vs o.key o.val))
  else if o.kind = 3 then (if (mGet ks vs o.key).2 = true then (ansV 3 (mGet ks vs o.key).1, pKs ks o.key, pVs ks vs o.key o.val) else (ansV 1 0, pKs ks o.key, pVs ks vs o.key o.val))
  else if (mGet ks vs o.key).2 = false then (ansV 2 0, ks, vs)
  else if o.kind = 5 ∧ (mGet ks vs o.key).1 ≠ o.val then (ansV 4 (mGet ks vs o.key).1, ks, vs)
  else (ansV 1 (mGet ks vs o.key).1, dKs ks o.key, dVs ks vs o.key)
def doD (ks : List ByteArray) (vs : List Int) (o : OpD) : AnsI × List ByteArray × List Int :=
  if opB o = true then (if readsB o = true then (readD ks vs o, ks, vs) else writeD ks vs o) else (ansV 5 0, ks, vs)
def turnsB (o : OpD) (a : AnsI) : Bool := (decide (o.kind = 3) && decide (a.code = 3)) || (decide (a.code = 1) && (decide (o.kind = 2) || decide (o.kind = 3) || decide (o.kind = 4) || decide (o.kind = 5)))

/-- Four values in a new variable. -/
def set4 (W : World) (g : Nat) (a b c d : Value) : World := (((W.setCell ⟨g, 0, none⟩ a).setCell ⟨g, 1, none⟩ b).setCell ⟨g, 2, none⟩ c).setCell ⟨g, 3, none⟩ d
theorem set4_off (W : World) (g : Nat) (a b c d : Value) : Off (fun k => k = g) W (set4 W g a b c d) := by
  have h1 := Off.of_setCell W ⟨g, 0, none⟩ a
  have h2 := Off.of_setCell (W.setCell ⟨g, 0, none⟩ a) ⟨g, 1, none⟩ b
  have h3 := Off.of_setCell ((W.setCell ⟨g, 0, none⟩ a).setCell ⟨g, 1, none⟩ b) ⟨g, 2, none⟩ c
  have h4 := Off.of_setCell (((W.setCell ⟨g, 0, none⟩ a).setCell ⟨g, 1, none⟩ b).setCell ⟨g, 2, none⟩ c) ⟨g, 3, none⟩ d
  exact ((h1.trans h2 fun _ _ q => q).trans h3 fun _ _ q => q).trans h4 fun _ _ q => q
theorem an_facts {W : World} {g : Nat} {a b c d : Value} {T : TypeId} (h : W.heap[g]? = some (.cells #[a, b, c, d] T (0, 0))) :
    W.cell? ⟨g, 0, none⟩ = some a ∧ W.cell? ⟨g, 1, none⟩ = some b ∧ W.cell? ⟨g, 2, none⟩ = some c ∧ W.cell? ⟨g, 3, none⟩ = some d ∧ W.frozen? ⟨g, 0, none⟩ = false ∧ W.frozen? ⟨g, 1, none⟩ = false ∧ W.frozen? ⟨g, 2, none⟩ = false ∧ W.frozen? ⟨g, 3, none⟩ = false :=
  ⟨by rw [cell_of_row W g 0 _ _ _ h]; rfl, by rw [cell_of_row W g 1 _ _ _ h]; rfl, by rw [cell_of_row W g 2 _ _ _ h]; rfl, by rw [cell_of_row W g 3 _ _ _ h]; rfl, heap_frozen h 0, heap_frozen h 1, heap_frozen h 2, heap_frozen h 3⟩
theorem op5_facts {W : World} {g : Nat} {a b c d e : Value} {T : TypeId} (h : W.heap[g]? = some (.cells #[a, b, c, d, e] T (0, 0))) : W.cell? ⟨g, 0, none⟩ = some a ∧ W.cell? ⟨g, 1, none⟩ = some b ∧ W.cell? ⟨g, 2, none⟩ = some c ∧ W.cell? ⟨g, 3, none⟩ = some d ∧ W.cell? ⟨g, 4, none⟩ = some e :=
  ⟨by rw [cell_of_row W g 0 _ _ _ h]; rfl, by rw [cell_of_row W g 1 _ _ _ h]; rfl, by rw [cell_of_row W g 2 _ _ _ h]; rfl, by rw [cell_of_row W g 3 _ _ _ h]; rfl, by rw [cell_of_row W g 4 _ _ _ h]; rfl⟩

/-- An answer is handed back: its pairs are new; the map is what it should be. -/
def BkRet (T : Nat → Prop) (g : Nat) (a : AnsI) (ks : List ByteArray) (vs : List Int) (w : World) (e : Ending) (w' : World) : Prop :=
  ∃ A c, e = .returned (.agg (anCells a A c)) ∧ w'.ownsRow w.heap.size 59 2 (.slice A a.pairs.length c) a.pairs.length (prRow a.pairs) ∧ MapAt T w' g ks vs ∧ Off (fun q => q = g) w w'
/-- An answer is handed back, nothing has turned. -/
def AnsRet (a : AnsI) (w : World) (e : Ending) (w' : World) : Prop :=
  ∃ A c, e = .returned (.agg (anCells a A c)) ∧ w'.ownsRow w.heap.size 59 2 (.slice A a.pairs.length c) a.pairs.length (prRow a.pairs) ∧ Below w.heap.size w w'

/-- A function's variables: an operation, and the answer that it hands back; the map. -/
structure Bk (T : Nat → Prop) (g : Nat) (w W : World) (ks : List ByteArray) (vs : List Int) (o : OpD) : Prop where
  off : Off (fun q => q = g) w W
  op : W.heap[w.heap.size]? = some (.cells (opCells o) 85 (0, 0))
  res : W.heap[w.heap.size + 1]? = some (.cells zeroA 87 (0, 0))
  map : MapAt (fun q => T q ∨ q = w.heap.size ∨ q = w.heap.size + 1) W g ks vs
  glt : g < w.heap.size
section
variable {T : Nat → Prop} {g : Nat} {w W W' : World} {ks ks' : List ByteArray} {vs vs' : List Int} {o : OpD}
theorem Bk.lt (h : Bk T g w W ks vs o) : w.heap.size + 1 < W.heap.size := (Array.getElem?_eq_some_iff.1 h.res).1
theorem Bk.start (h : MapAt T w g ks vs) (o : OpD) : Bk T g w ((w.alloc (.cells (opCells o) 85)).alloc (.cells zeroA 87)) ks vs o := by
  have h1 := below_alloc w (.cells (opCells o) 85)
  have h2 := below_alloc (w.alloc (.cells (opCells o) 85)) (.cells zeroA 87)
  have hs : (w.alloc (.cells (opCells o) 85)).heap.size = w.heap.size + 1 := by simp
  refine ⟨Off.of_below (below_of h1 h2) _, ?_, ?_, ((h.more (fun k hk q => ?_)).up h1).up h2, h.lt⟩
  · rw [h2.block w.heap.size (by omega)]
    exact heap_new w _ _
  · rw [← hs]
    exact heap_new _ _ _
  · rcases q with q | q | q
    · exact q
    · omega
    · omega
theorem Bk.call (h : Bk T g w W ks vs o) (hb : Below W.heap.size W W') : Bk T g w W' ks vs o :=
  ⟨h.off.trans (Off.of_below hb (fun _ => False)) (fun _ _ q => q.elim), (hb.block _ (by have := h.lt; omega)).trans h.op, (hb.block _ h.lt).trans h.res, h.map.up hb, h.glt⟩
theorem Bk.turn (h : Bk T g w W ks vs o) (hm : MapAt (fun q => T q ∨ q = w.heap.size ∨ q = w.heap.size + 1) W' g ks' vs') (ho : Off (fun q => q = g) W W') : Bk T g w W' ks' vs' o :=
  ⟨h.off.trans ho (fun _ _ q => q), (ho.block _ (by have := h.lt; omega) (by have := h.glt; omega)).trans h.op, (ho.block _ h.lt (by have := h.glt; omega)).trans h.res, hm, h.glt⟩
theorem Bk.hT (h : Bk T g w W ks vs o) (hT : ∀ t, T t → t < w.heap.size) : ∀ t, (T t ∨ t = w.heap.size ∨ t = w.heap.size + 1) → t < W.heap.size := fun t q => by
  have := h.lt
  rcases q with q | q | q
  · have := hT t q; omega
  · omega
  · omega
theorem Bk.fin (h : Bk T g w W ks vs o) (a : AnsI) {A : Option Addr} {c B : Nat} (ho : W.ownsRow B 59 2 (.slice A a.pairs.length c) a.pairs.length (prRow a.pairs)) (hB : w.heap.size + 2 ≤ B) :
    BkRet T g a ks vs w (.returned (.agg (anCells a A c))) (set4 W (w.heap.size + 1) (.int .i64 a.code) (.string a.key) (.int .u64 a.val) (.slice A a.pairs.length c)) := by
  have hs := set4_off W (w.heap.size + 1) (.int .i64 a.code) (.string a.key) (.int .u64 a.val) (.slice A a.pairs.length c)
  refine ⟨A, c, rfl, own_less (own_off ho hs (fun k hk e => ?_)) (by omega), (h.map.off hs (fun k e => .inr (.inr e))).more (fun k _ q => .inl q), h.off.trans hs (fun k hk e => by omega)⟩
  have := (own_lt ho hk).1
  omega
theorem own_nilP (W : World) (B : Nat) : W.ownsRow B 59 2 (.slice none 0 0) 0 [] := World.ownsRow_nil _ _ _ _
end

/-- A result of four cells that a function of its own puts in. -/
theorem res4_below (w W : World) (h : Below w.heap.size w W) (g : Nat) (hg : w.heap.size ≤ g) (a b c d : Value) : Below w.heap.size w (set4 W g a b c d) :=
  (set4_off W g a b c d).below h h.size (fun j hj e => by omega)
set_option maxHeartbeats 1000000 in
theorem bkval_any (code v : Int) (w : World) : Calls Try.prog 83 #[.int .i64 code, .int .u64 v] w (Ret (.agg #[.int .i64 code, .string ⟨#[]⟩, .int .u64 v, .slice none 0 0]) w) := by
  have hb := below_alloc w (.cells zeroA 87)
  have hn := heap_new w zeroA 87
  have hZ := res4_below w _ hb w.heap.size (Nat.le_refl _) (.int .i64 code) (.string ⟨#[]⟩) (.int .u64 v) (.slice none 0 0)
  unfold zeroA at hb hn hZ
  simp only [set4] at hZ
  have HZ := Lib.hid hZ
  have HN := Lib.hid hn
  clear hZ hb hn
  go_enter Try.func83, Try.ntmps83
  go_upto_region 1 with fail
  generalize w.alloc _ = W at HZ HN ⊢
  obtain ⟨y0, y1, y2, y3, q0, q1, q2, q3⟩ := an_facts HN.out
  go_wp2_with fail
  exact bodyPost_ret (v := .agg #[.int .i64 code, .string ⟨#[]⟩, .int .u64 v, .slice none 0 0]) (by simp [results, Try.results83, go_sem, *]) rfl ⟨rfl, HZ.out⟩

set_option maxHeartbeats 1000000 in
theorem ansof_any (o : Option PairD) (w : World) : Calls Try.prog 94 #[.agg (prCells (o.getD Pl.zeroP)), .bool o.isSome] w (Ret (.agg (anCells (ofO o) none 0)) w) := by
  have hS := Lib.hid (Sx.start2 w (.cells (prCells (o.getD Pl.zeroP)) 59) (.cells zeroA 87))
  have hq : Hid (∀ W : World, Below w.heap.size w W → Below w.heap.size w (set4 W (w.heap.size + 1) (.int .i64 (ofO o).code) (.string (ofO o).key) (.int .u64 (ofO o).val) (.slice none 0 0))) := fun W h => res4_below w W h (w.heap.size + 1) (by omega) _ _ _ _
  unfold zeroA at hS
  go_enter Try.func94, Try.ntmps94
  go_upto_region 1 with fail
  generalize (w.alloc _).alloc _ = W at hS ⊢
  obtain ⟨y0, y1, y2, y3, q0, q1, q2, q3⟩ := an_facts (hS.out.has 1 _ _ rfl).1
  obtain ⟨x0, x1, -, -⟩ := pr_facts (hS.out.has 0 _ _ rfl).1
  have HZ := Lib.hid (hq.out W hS.out.below)
  clear hS hq
  cases o with
  | none =>
    simp only [ofO, ansV, set4, anCells, Option.isSome_none, Option.getD_none, Pl.zeroP, List.length_nil] at *
    go_wp2_with fail
    exact bodyPost_ret (v := .agg #[.int .i64 2, .string ⟨#[]⟩, .int .u64 0, .slice none 0 0]) (by simp [results, Try.results94, go_sem, *]) rfl ⟨rfl, HZ.out⟩
  | some p =>
    simp only [ofO, set4, anCells, Option.isSome_some, Option.getD_some, List.length_nil] at *
    go_wp2_with fail
    exact bodyPost_ret (v := .agg #[.int .i64 1, .string p.key, .int .u64 p.val, .slice none 0 0]) (by simp [results, Try.results94, go_sem, *]) rfl ⟨rfl, HZ.out⟩
set_option maxHeartbeats 1000000 in
theorem refpair18_any (o : Option PairD) (w : World) : Calls Try.prog 88 #[.agg (prCells (o.getD Pl.zeroP)), .bool o.isSome] w (Ret (.agg (anCells (ofO o) none 0)) w) := by
  have hS := Lib.hid (Sx.start2 w (.cells (prCells (o.getD Pl.zeroP)) 59) (.cells zeroA 87))
  have hq : Hid (∀ W : World, Below w.heap.size w W → Below w.heap.size w (set4 W (w.heap.size + 1) (.int .i64 (ofO o).code) (.string (ofO o).key) (.int .u64 (ofO o).val) (.slice none 0 0))) := fun W h => res4_below w W h (w.heap.size + 1) (by omega) _ _ _ _
  unfold zeroA at hS
  go_enter Try.func88, Try.ntmps88
  go_upto_region 1 with fail
  generalize (w.alloc _).alloc _ = W at hS ⊢
  obtain ⟨y0, y1, y2, y3, q0, q1, q2, q3⟩ := an_facts (hS.out.has 1 _ _ rfl).1
  obtain ⟨x0, x1, -, -⟩ := pr_facts (hS.out.has 0 _ _ rfl).1
  have HZ := Lib.hid (hq.out W hS.out.below)
  clear hS hq
  cases o with
  | none =>
    simp only [ofO, ansV, set4, anCells, Option.isSome_none, Option.getD_none, Pl.zeroP, List.length_nil] at *
    go_wp2_with fail
    exact bodyPost_ret (v := .agg #[.int .i64 2, .string ⟨#[]⟩, .int .u64 0, .slice none 0 0]) (by simp [results, Try.results88, go_sem, *]) rfl ⟨rfl, HZ.out⟩
  | some p =>
    simp only [ofO, set4, anCells, Option.isSome_some, Option.getD_some, List.length_nil] at *
    go_wp2_with fail
    exact bodyPost_ret (v := .agg #[.int .i64 1, .string p.key, .int .u64 p.val, .slice none 0 0]) (by simp [results, Try.results88, go_sem, *]) rfl ⟨rfl, HZ.out⟩

set_option maxRecDepth 100000 in
set_option maxHeartbeats 4000000 in
theorem book_any (o : OpD) (a : AnsI) (A : Option Addr) (c : Nat) (w : World) : Calls Try.prog 60 #[.agg (opCells o), .agg (anCells a A c)] w (Ret (.bool (turnsB o a)) w) := by
  have hS := Lib.hid (Sx.start2 w (.cells (opCells o) 85) (.cells (anCells a A c) 87))
  have hv := Lib.hid (rfl : turnsB o a = turnsB o a)
  generalize hr : turnsB o a = r at hv ⊢
  have HR := Lib.hid hr
  unfold turnsB at HR
  clear hv hr
  obtain ⟨kind, key, upto, val, limit⟩ := o
  obtain ⟨code, akey, aval, pairs⟩ := a
  simp only [] at HR
  simp only [opCells, anCells] at hS ⊢
  go_enter Try.func60, Try.ntmps60
  go_upto_region 1 with fail
  generalize (w.alloc _).alloc _ = W at hS ⊢
  obtain ⟨y0, y1, y2, y3, -, -, -, -⟩ := an_facts (hS.out.has 1 _ _ rfl).1
  obtain ⟨x0, x1, x2, x3, x4⟩ := op5_facts (hS.out.has 0 _ _ rfl).1
  have HB := Lib.hid hS.out.below
  clear hS
  rcases (show kind = 2 ∨ kind = 3 ∨ kind = 4 ∨ kind = 5 ∨ (kind ≠ 2 ∧ kind ≠ 3 ∧ kind ≠ 4 ∧ kind ≠ 5) by omega) with rfl | rfl | rfl | rfl | hk
  · rcases (show code = 1 ∨ code = 3 ∨ (code ≠ 1 ∧ code ≠ 3) by omega) with rfl | rfl | hc
    · go_wp2_with fail
      go_ret
      exact ⟨ret_bool (by rw [← HR.out]; rfl), HB.out⟩
    · go_wp2_with fail
      go_ret
      exact ⟨ret_bool (by rw [← HR.out]; rfl), HB.out⟩
    · have c1 : (code == (1 : Int)) = false := by rw [beq_eq_false_iff_ne]; exact hc.1
      have c3 : (code == (3 : Int)) = false := by rw [beq_eq_false_iff_ne]; exact hc.2
      have HC := Lib.hid hc
      clear hc
      go_wp2_with fail
      go_ret
      exact ⟨ret_bool (by rw [← HR.out]; have h2 := HC.out; simp [h2.1, h2.2]), HB.out⟩
  · rcases (show code = 1 ∨ code = 3 ∨ (code ≠ 1 ∧ code ≠ 3) by omega) with rfl | rfl | hc
    · go_wp2_with fail
      go_ret
      exact ⟨ret_bool (by rw [← HR.out]; rfl), HB.out⟩
    · go_wp2_with fail
      go_ret
      exact ⟨ret_bool (by rw [← HR.out]; rfl), HB.out⟩
    · have c1 : (code == (1 : Int)) = false := by rw [beq_eq_false_iff_ne]; exact hc.1
      have c3 : (code == (3 : Int)) = false := by rw [beq_eq_false_iff_ne]; exact hc.2
      have HC := Lib.hid hc
      clear hc
      go_wp2_with fail
      go_ret
      exact ⟨ret_bool (by rw [← HR.out]; have h2 := HC.out; simp [h2.1, h2.2]), HB.out⟩
  · rcases (show code = 1 ∨ code = 3 ∨ (code ≠ 1 ∧ code ≠ 3) by omega) with rfl | rfl | hc
    · go_wp2_with fail
      go_ret
      exact ⟨ret_bool (by rw [← HR.out]; rfl), HB.out⟩
    · go_wp2_with fail
      go_ret
      exact ⟨ret_bool (by rw [← HR.out]; rfl), HB.out⟩
    · have c1 : (code == (1 : Int)) = false := by rw [beq_eq_false_iff_ne]; exact hc.1
      have c3 : (code == (3 : Int)) = false := by rw [beq_eq_false_iff_ne]; exact hc.2
      have HC := Lib.hid hc
      clear hc
      go_wp2_with fail
      go_ret
      exact ⟨ret_bool (by rw [← HR.out]; have h2 := HC.out; simp [h2.1, h2.2]), HB.out⟩
  · rcases (show code = 1 ∨ code = 3 ∨ (code ≠ 1 ∧ code ≠ 3) by omega) with rfl | rfl | hc
    · go_wp2_with fail
      go_ret
      exact ⟨ret_bool (by rw [← HR.out]; rfl), HB.out⟩
    · go_wp2_with fail
      go_ret
      exact ⟨ret_bool (by rw [← HR.out]; rfl), HB.out⟩
    · have c1 : (code == (1 : Int)) = false := by rw [beq_eq_false_iff_ne]; exact hc.1
      have c3 : (code == (3 : Int)) = false := by rw [beq_eq_false_iff_ne]; exact hc.2
      have HC := Lib.hid hc
      clear hc
      go_wp2_with fail
      go_ret
      exact ⟨ret_bool (by rw [← HR.out]; have h2 := HC.out; simp [h2.1, h2.2]), HB.out⟩
  · have k2 : (kind == (2 : Int)) = false := by rw [beq_eq_false_iff_ne]; exact hk.1
    have k3 : (kind == (3 : Int)) = false := by rw [beq_eq_false_iff_ne]; exact hk.2.1
    have k4 : (kind == (4 : Int)) = false := by rw [beq_eq_false_iff_ne]; exact hk.2.2.1
    have k5 : (kind == (5 : Int)) = false := by rw [beq_eq_false_iff_ne]; exact hk.2.2.2
    have HK := Lib.hid hk
    clear hk
    rcases (show code = 1 ∨ code = 3 ∨ (code ≠ 1 ∧ code ≠ 3) by omega) with rfl | rfl | hc
    · go_wp2_with fail
      go_ret
      exact ⟨ret_bool (by rw [← HR.out]; have := HK.out; simp [this.1, this.2.1, this.2.2.1, this.2.2.2]), HB.out⟩
    · go_wp2_with fail
      go_ret
      exact ⟨ret_bool (by rw [← HR.out]; have := HK.out; simp [this.1, this.2.1, this.2.2.1, this.2.2.2]), HB.out⟩
    · have c1 : (code == (1 : Int)) = false := by rw [beq_eq_false_iff_ne]; exact hc.1
      have c3 : (code == (3 : Int)) = false := by rw [beq_eq_false_iff_ne]; exact hc.2
      have HC := Lib.hid hc
      clear hc
      go_wp2_with fail
      go_ret
      exact ⟨ret_bool (by rw [← HR.out]; have := HK.out; have h2 := HC.out; simp [this.1, this.2.1, this.2.2.1, this.2.2.2, h2.1, h2.2]), HB.out⟩
set_option maxRecDepth 100000 in
set_option maxHeartbeats 4000000 in
theorem bowerref18_any (o : OpD) (a : AnsI) (A : Option Addr) (c : Nat) (w : World) : Calls Try.prog 61 #[.agg (opCells o), .agg (anCells a A c)] w (Ret (.bool (turnsB o a)) w) := by
  have hS := Lib.hid (Sx.start2 w (.cells (opCells o) 85) (.cells (anCells a A c) 87))
  have hv := Lib.hid (rfl : turnsB o a = turnsB o a)
  generalize hr : turnsB o a = r at hv ⊢
  have HR := Lib.hid hr
  unfold turnsB at HR
  clear hv hr
  obtain ⟨kind, key, upto, val, limit⟩ := o
  obtain ⟨code, akey, aval, pairs⟩ := a
  simp only [] at HR
  simp only [opCells, anCells] at hS ⊢
  go_enter Try.func61, Try.ntmps61
  go_upto_region 1 with fail
  generalize (w.alloc _).alloc _ = W at hS ⊢
  obtain ⟨y0, y1, y2, y3, -, -, -, -⟩ := an_facts (hS.out.has 1 _ _ rfl).1
  obtain ⟨x0, x1, x2, x3, x4⟩ := op5_facts (hS.out.has 0 _ _ rfl).1
  have HB := Lib.hid hS.out.below
  clear hS
  rcases (show kind = 2 ∨ kind = 3 ∨ kind = 4 ∨ kind = 5 ∨ (kind ≠ 2 ∧ kind ≠ 3 ∧ kind ≠ 4 ∧ kind ≠ 5) by omega) with rfl | rfl | rfl | rfl | hk
  · rcases (show code = 1 ∨ code = 3 ∨ (code ≠ 1 ∧ code ≠ 3) by omega) with rfl | rfl | hc
    · go_wp2_with fail
      go_ret
      exact ⟨ret_bool (by rw [← HR.out]; rfl), HB.out⟩
    · go_wp2_with fail
      go_ret
      exact ⟨ret_bool (by rw [← HR.out]; rfl), HB.out⟩
    · have c1 : (code == (1 : Int)) = false := by rw [beq_eq_false_iff_ne]; exact hc.1
      have c3 : (code == (3 : Int)) = false := by rw [beq_eq_false_iff_ne]; exact hc.2
      have HC := Lib.hid hc
      clear hc
      go_wp2_with fail
      go_ret
      exact ⟨ret_bool (by rw [← HR.out]; have h2 := HC.out; simp [h2.1, h2.2]), HB.out⟩
  · rcases (show code = 1 ∨ code = 3 ∨ (code ≠ 1 ∧ code ≠ 3) by omega) with rfl | rfl | hc
    · go_wp2_with fail
      go_ret
      exact ⟨ret_bool (by rw [← HR.out]; rfl), HB.out⟩
    · go_wp2_with fail
      go_ret
      exact ⟨ret_bool (by rw [← HR.out]; rfl), HB.out⟩
    · have c1 : (code == (1 : Int)) = false := by rw [beq_eq_false_iff_ne]; exact hc.1
      have c3 : (code == (3 : Int)) = false := by rw [beq_eq_false_iff_ne]; exact hc.2
      have HC := Lib.hid hc
      clear hc
      go_wp2_with fail
      go_ret
      exact ⟨ret_bool (by rw [← HR.out]; have h2 := HC.out; simp [h2.1, h2.2]), HB.out⟩
  · rcases (show code = 1 ∨ code = 3 ∨ (code ≠ 1 ∧ code ≠ 3) by omega) with rfl | rfl | hc
    · go_wp2_with fail
      go_ret
      exact ⟨ret_bool (by rw [← HR.out]; rfl), HB.out⟩
    · go_wp2_with fail
      go_ret
      exact ⟨ret_bool (by rw [← HR.out]; rfl), HB.out⟩
    · have c1 : (code == (1 : Int)) = false := by rw [beq_eq_false_iff_ne]; exact hc.1
      have c3 : (code == (3 : Int)) = false := by rw [beq_eq_false_iff_ne]; exact hc.2
      have HC := Lib.hid hc
      clear hc
      go_wp2_with fail
      go_ret
      exact ⟨ret_bool (by rw [← HR.out]; have h2 := HC.out; simp [h2.1, h2.2]), HB.out⟩
  · rcases (show code = 1 ∨ code = 3 ∨ (code ≠ 1 ∧ code ≠ 3) by omega) with rfl | rfl | hc
    · go_wp2_with fail
      go_ret
      exact ⟨ret_bool (by rw [← HR.out]; rfl), HB.out⟩
    · go_wp2_with fail
      go_ret
      exact ⟨ret_bool (by rw [← HR.out]; rfl), HB.out⟩
    · have c1 : (code == (1 : Int)) = false := by rw [beq_eq_false_iff_ne]; exact hc.1
      have c3 : (code == (3 : Int)) = false := by rw [beq_eq_false_iff_ne]; exact hc.2
      have HC := Lib.hid hc
      clear hc
      go_wp2_with fail
      go_ret
      exact ⟨ret_bool (by rw [← HR.out]; have h2 := HC.out; simp [h2.1, h2.2]), HB.out⟩
  · have k2 : (kind == (2 : Int)) = false := by rw [beq_eq_false_iff_ne]; exact hk.1
    have k3 : (kind == (3 : Int)) = false := by rw [beq_eq_false_iff_ne]; exact hk.2.1
    have k4 : (kind == (4 : Int)) = false := by rw [beq_eq_false_iff_ne]; exact hk.2.2.1
    have k5 : (kind == (5 : Int)) = false := by rw [beq_eq_false_iff_ne]; exact hk.2.2.2
    have HK := Lib.hid hk
    clear hk
    rcases (show code = 1 ∨ code = 3 ∨ (code ≠ 1 ∧ code ≠ 3) by omega) with rfl | rfl | hc
    · go_wp2_with fail
      go_ret
      exact ⟨ret_bool (by rw [← HR.out]; have := HK.out; simp [this.1, this.2.1, this.2.2.1, this.2.2.2]), HB.out⟩
    · go_wp2_with fail
      go_ret
      exact ⟨ret_bool (by rw [← HR.out]; have := HK.out; simp [this.1, this.2.1, this.2.2.1, this.2.2.2]), HB.out⟩
    · have c1 : (code == (1 : Int)) = false := by rw [beq_eq_false_iff_ne]; exact hc.1
      have c3 : (code == (3 : Int)) = false := by rw [beq_eq_false_iff_ne]; exact hc.2
      have HC := Lib.hid hc
      clear hc
      go_wp2_with fail
      go_ret
      exact ⟨ret_bool (by rw [← HR.out]; have := HK.out; have h2 := HC.out; simp [this.1, this.2.1, this.2.2.1, this.2.2.2, h2.1, h2.2]), HB.out⟩

end Go.Proofs.Ytggjlnjpokdfpaa
