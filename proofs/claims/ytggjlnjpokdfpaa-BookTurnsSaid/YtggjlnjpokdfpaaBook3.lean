/- Contract of bowerref18.Do. -/
import Derived.Test.YtggjlnjpokdfpaaBook1
import Derived.Test.YtggjlnjpokdfpaaOp5
import Derived.Test.YtggjlnjpokdfpaaMap06c
namespace Go.Proofs.Ytggjlnjpokdfpaa
open Go.RowKit

def refdo1 (ms : List PairD) (o : OpD) : List PairD × AnsI :=
  if o.kind = 1 then (if (Pl.getM ms o.key).2 = true then (ms, ansV 1 (Pl.getM ms o.key).1) else (ms, ansV 2 0))
  else if o.kind = 2 then (if (Pl.getM ms o.key).2 = true then (ms, ansV 3 (Pl.getM ms o.key).1) else (Pl.putM ms o.key o.val, ansV 1 0))
  else if o.kind = 3 then (if (Pl.getM ms o.key).2 = true then (Pl.putM ms o.key o.val, ansV 3 (Pl.getM ms o.key).1) else (Pl.putM ms o.key o.val, ansV 1 0))
  else if o.kind = 4 then (if (Pl.getM ms o.key).2 = true then (Pl.delM ms o.key, ansV 1 (Pl.getM ms o.key).1) else (ms, ansV 2 0))
  else if o.kind = 5 then (if (Pl.getM ms o.key).2 = true then (if (Pl.getM ms o.key).1 = o.val then (Pl.delM ms o.key, ansV 1 (Pl.getM ms o.key).1) else (ms, ansV 4 (Pl.getM ms o.key).1)) else (ms, ansV 2 0))
  else if o.kind = 6 then (ms, ofO (Pl.allM ms ms.length)[0]?)
  else if o.kind = 7 then (ms, ofO (Pl.prevM ms [] true))
  else if o.kind = 8 then (ms, ofO (Pl.nextM ms o.key.data.toList))
  else if o.kind = 9 then (ms, ofO (Pl.prevM ms o.key.data.toList false))
  else (ms, ⟨1, ⟨#[]⟩, 0, Pl.scanL (Pl.allM ms ms.length) o.key.data.toList o.upto.data.toList o.limit⟩)
def refdoD (ms : List PairD) (o : OpD) : List PairD × AnsI := if opB o = true then refdo1 ms o else (ms, ansV 5 0)

/-- A map, as pairs in no order, and an answer are handed back; nothing has turned. -/
def RefRet (M0 : Option Addr) (ms : List PairD) (a : AnsI) (w : World) (e : Ending) (w' : World) : Prop :=
  ∃ M c A c', e = .returned (.tuple #[.slice M ms.length c, .agg (anCells a A c')]) ∧ Prs w' M ms.length ms ∧ (M = M0 ∨ ∀ b, M = some b → w.heap.size ≤ b.block) ∧
    w'.ownsRow w.heap.size 59 2 (.slice A a.pairs.length c') a.pairs.length (prRow a.pairs) ∧ Below w.heap.size w w'

theorem Sx.set4 {B : Nat} {W0 W : World} {L : List (Nat × Obj)} (h : Sx B W0 W L) (i : Nat) {g : Nat} {v0 v1 v2 v3 : Value} {T : TypeId} (hi : L[i]? = some (g, .cells #[v0, v1, v2, v3] T (0, 0))) (a b c d : Value) :
    Below B W0 (Go.Proofs.Ytggjlnjpokdfpaa.set4 W g a b c d) :=
  (set4_off W g a b c d).below h.below h.le (fun j hj e => by have := (h.has i g _ hi).2; omega)
theorem ref_fin {w W : World} {L : List (Nat × Obj)} (h : Sx w.heap.size w W L) {v0 v1 v2 v3 : Value} (hL : L[1]? = some (w.heap.size + 1, .cells #[v0, v1, v2, v3] 87 (0, 0))) (a : AnsI) {A M0 M : Option Addr} {c c' B : Nat} {ms : List PairD}
    (ho : W.ownsRow B 59 2 (.slice A a.pairs.length c') a.pairs.length (prRow a.pairs)) (hB : w.heap.size + 2 ≤ B)
    (hm : (M = M0 ∧ Prs w M ms.length ms) ∨ ∃ B', w.heap.size + 2 ≤ B' ∧ W.ownsRow B' 59 2 (.slice M ms.length c) ms.length (prRow ms)) :
    RefRet M0 ms a w (.returned (.tuple #[.slice M ms.length c, .agg (anCells a A c')])) (set4 W (w.heap.size + 1) (.int .i64 a.code) (.string a.key) (.int .u64 a.val) (.slice A a.pairs.length c')) := by
  have hs := set4_off W (w.heap.size + 1) (.int .i64 a.code) (.string a.key) (.int .u64 a.val) (.slice A a.pairs.length c')
  have hb := h.set4 1 hL (.int .i64 a.code) (.string a.key) (.int .u64 a.val) (.slice A a.pairs.length c')
  refine ⟨M, c, A, c', rfl, ?_, ?_, own_less (own_off ho hs (fun k hk e => ?_)) (by omega), hb⟩
  · rcases hm with ⟨_, hp⟩ | ⟨B', hB', hown⟩
    · exact hp.up hb
    · refine prs_of_own (own_off hown hs (fun k hk e => ?_)) rfl
      have := (own_lt hown hk).1
      omega
  · rcases hm with ⟨e, _⟩ | ⟨B', hB', hown⟩
    · exact .inl e
    · right
      rintro b rfl
      have := (own_lt (k := b.block) hown rfl).1
      omega
  · have := (own_lt ho hk).1
    omega

/-- The answer 'none' in a variable. -/
structure NoneAt (w w' : World) (g : Nat) : Prop where
  below : Below w.heap.size w w'
  has : w'.heap[g]? = some (.cells #[.int .i64 2, .string ⟨#[]⟩, .int .u64 0, .slice none 0 0] 87 (0, 0))
theorem Sx.noneAt {w W : World} {L : List (Nat × Obj)} (h : Sx w.heap.size w W L) (i : Nat) {g : Nat} (hi : L[i]? = some (g, .cells #[.int .i64 2, .string ⟨#[]⟩, .int .u64 0, .slice none 0 0] 87 (0, 0))) : NoneAt w W g := ⟨h.below, (h.has i g _ hi).1⟩
theorem NoneAt.set {w W : World} {g : Nat} (h : NoneAt w W g) (hle : w.heap.size + 1 < g) (a b c d : Value) : NoneAt w (set4 W (w.heap.size + 1) a b c d) g :=
  ⟨(set4_off W (w.heap.size + 1) a b c d).below h.below h.below.size (fun j hj e => by omega), ((set4_off W (w.heap.size + 1) a b c d).block g (Array.getElem?_eq_some_iff.1 h.has).1 (by omega)).trans h.has⟩
theorem Sx.store4 {B : Nat} {W0 W : World} {L : List (Nat × Obj)} (h : Sx B W0 W L) (i : Nat) {g : Nat} {v0 v1 v2 v3 : Value} {T : TypeId} (hi : L[i]? = some (g, .cells #[v0, v1, v2, v3] T (0, 0))) (a b c d : Value) :
    Sx B W0 (Go.Proofs.Ytggjlnjpokdfpaa.set4 W g a b c d) (L.set i (g, .cells #[a, b, c, d] T (0, 0))) := by
  have hil := (List.getElem?_eq_some_iff.1 hi).1
  have h1 := h.setc i (cs := [v0, v1, v2, v3]) hi 0 a
  have h2 := h1.setc i (cs := [a, v1, v2, v3]) (by rw [List.getElem?_set_self hil]; rfl) 1 b
  rw [List.set_set] at h2
  have h3 := h2.setc i (cs := [a, b, v2, v3]) (by rw [List.getElem?_set_self hil]; rfl) 2 c
  rw [List.set_set] at h3
  have h4 := h3.setc i (cs := [a, b, c, v3]) (by rw [List.getElem?_set_self hil]; rfl) 3 d
  rw [List.set_set] at h4
  exact h4
set_option maxRecDepth 100000 in
set_option maxHeartbeats 16000000 in
theorem refdo_any (M0 : Option Addr) (c0 : Nat) (ms : List PairD) (o : OpD) (w : World) (h : Prs w M0 ms.length ms) (hf : FitP ms) (hl : ms.length ≤ 900) (ho : OpOk o) :
    Calls Try.prog 58 #[.slice M0 ms.length c0, .agg (opCells o)] w (RefRet M0 (refdoD ms o).1 (refdoD ms o).2 w) := by
  have HP := Lib.hid h
  have HSo := Lib.hid (fun W => refsound16_any o W ho)
  have HGe := Lib.hid (fun W hW => get06_any M0 c0 ms o.key W hW (by omega))
  have HPu := Lib.hid (fun W hW => put06_any M0 c0 ms o.key (o.val : Int) W hW (by omega))
  have HDe := Lib.hid (fun W hW => del06_any M0 c0 ms o.key W hW (by omega))
  have HAl := Lib.hid (fun W hW => all06_any M0 c0 ms W hW hf (by omega))
  have HPr := Lib.hid (fun W hW => prev06_any M0 c0 ms ⟨#[]⟩ true W hW (by omega) hf (by decide))
  have HNx := Lib.hid (fun W hW => next06_any M0 c0 ms o.key W hW (by omega) hf ho.key)
  have HPk := Lib.hid (fun W hW => prev06_any M0 c0 ms o.key false W hW (by omega) hf ho.key)
  have HSc := Lib.hid (fun W hW => scan06_any M0 c0 ms o.key o.upto o.limit W hW hf (by omega) ho.key ho.upto)
  have hlen := Pl.allM_len ms ms.length
  rw [show (⟨#[]⟩ : ByteArray).data.toList = [] from rfl] at HPr
  generalize hda : refdoD ms o = dd
  obtain ⟨ms', a⟩ := dd
  unfold refdoD at hda
  generalize hdb : refdo1 ms o = r1 at hda
  unfold refdo1 at hdb
  generalize opB o = ob at HSo hda
  generalize Pl.getM ms o.key = q at HGe hdb
  obtain ⟨gv, gb⟩ := q
  generalize Pl.putM ms o.key o.val = mp at HPu hdb
  generalize Pl.delM ms o.key = md at HDe hdb
  generalize Pl.scanL (Pl.allM ms ms.length) o.key.data.toList o.upto.data.toList o.limit = ml at HSc hdb
  generalize Pl.allM ms ms.length = al at HAl hdb
  generalize Pl.prevM ms [] true = o7 at HPr hdb
  generalize Pl.nextM ms o.key.data.toList = o8 at HNx hdb
  generalize Pl.prevM ms o.key.data.toList false = o9 at HPk hdb
  have hS := Lib.hid (Sx.start2 w (.cells (opCells o) 85) (.cells zeroA 87))
  have HD5 := Lib.hid hda
  have HD0 := Lib.hid hdb
  clear hda hdb h hf ho hlen
  obtain ⟨kind, key, upto, val, limit⟩ := o
  simp only [] at HGe HPu HDe HNx HPk HSc HD0
  simp only [opCells] at HSo
  simp only [opCells, zeroA] at hS ⊢
  go_enter Try.func58, Try.ntmps58
  go_upto_region 1 with fail
  generalize (w.alloc _).alloc _ = W at hS ⊢
  obtain ⟨x0, x1, x2, x3, x4⟩ := op5_facts (hS.out.has 0 _ _ rfl).1
  obtain ⟨y0, y1, y2, y3, q0, q1, q2, q3⟩ := an_facts (hS.out.has 1 _ _ rfl).1
  go_wp2_with fail
  refine (HSo.out _).mono ?_
  rintro e wn ⟨rfl, hbn⟩
  clear x0 x1 x2 x3 x4 y0 y1 y2 y3 q0 q1 q2 q3
  replace hS := Lib.hid (hS.out.call hbn)
  clear hbn
  obtain ⟨x0, x1, x2, x3, x4⟩ := op5_facts (hS.out.has 0 _ _ rfl).1
  obtain ⟨y0, y1, y2, y3, q0, q1, q2, q3⟩ := an_facts (hS.out.has 1 _ _ rfl).1
  cases ob
  · clear HD0
    have HD0 := Lib.hid HD5.out
    clear HD5
    have hd := HD0.out
    rw [if_neg Bool.false_ne_true] at hd
    injection hd with hd1 hd2
    subst hd1 hd2
    clear HD0
    simp only [ansV]
    have hZ := ref_fin hS.out rfl ⟨5, ⟨#[]⟩, 0, []⟩ (M0 := M0) (M := M0) (c := c0) (ms := ms) (own_nilP _ (w.heap.size + 2)) (Nat.le_refl _) (.inl ⟨rfl, HP.out⟩)
    simp only [set4, anCells, List.length_nil] at hZ
    have HZ := Lib.hid hZ
    clear hZ
    go_wp2_with fail
    exact bodyPost_ret (v := .tuple #[.slice M0 ms.length c0, .agg #[.int .i64 5, .string ⟨#[]⟩, .int .u64 0, .slice none 0 0]]) (by simp [results, Try.results58, go_sem, *]) rfl HZ.out
  · obtain rfl : r1 = (ms', a) := by have := HD5.out; rw [if_pos rfl] at this; exact this
    clear HD5
    go_wp2_with fail
    refine (HGe.out _ (HP.out.up hS.out.below)).mono ?_
    rintro e wn ⟨rfl, hbn⟩
    clear x0 x1 x2 x3 x4 y0 y1 y2 y3 q0 q1 q2 q3
    have hZ := (hS.out.call hbn).alloc (.cells #[.int .i64 2, .string ⟨#[]⟩, .int .u64 0, .slice none 0 0] 87)
    simp only [List.cons_append, List.nil_append] at hZ
    have HG8 := Lib.hid ((hS.out.call hbn).lt (i := 1) rfl)
    clear hbn hS
    have hS := Lib.hid hZ
    clear hZ
    go_upto_region 5 with fail
    generalize wn.alloc _ = W8 at hS ⊢
    generalize wn.heap.size = g8 at hS HG8 ⊢
    obtain ⟨x0, x1, x2, x3, x4⟩ := op5_facts (hS.out.has 0 _ _ rfl).1
    obtain ⟨y0, y1, y2, y3, q0, q1, q2, q3⟩ := an_facts (hS.out.has 1 _ _ rfl).1
    rcases (show kind = 1 ∨ kind = 2 ∨ kind = 3 ∨ kind = 4 ∨ kind = 5 ∨ kind = 6 ∨ kind = 7 ∨ kind = 8 ∨ kind = 9 ∨ (kind ≠ 1 ∧ kind ≠ 2 ∧ kind ≠ 3 ∧ kind ≠ 4 ∧ kind ≠ 5 ∧ kind ≠ 6 ∧ kind ≠ 7 ∧ kind ≠ 8 ∧ kind ≠ 9) by omega) with rfl | rfl | rfl | rfl | rfl | rfl | rfl | rfl | rfl | hk
    · cases gb
      · have hd := HD0.out
        rw [if_pos rfl, if_neg Bool.false_ne_true] at hd
        injection hd with hd1 hd2
        subst hd1 hd2
        clear HD0
        simp only [ansV]
        go_upto_region 9 with fail
        clear x0 x1 x2 x3 x4 y0 y1 y2 y3 q0 q1 q2 q3
        have hd9 := Below.drew (Below.refl W8.heap.size W8)
        replace hS := Lib.hid (hS.out.call hd9)
        clear hd9
        refine wp_region_held_drew (S := fun w' => NoneAt w w' g8) (by kernel_rfl) (hS.out.noneAt 2 rfl) (fun hcur => ?_)
        (try dsimp only at hcur)
        generalize W8.drew = X at hS hcur ⊢
        refine wpAnyH_take (i := 0) (v := ?_) rfl (by decide +kernel) (by decide +kernel) (by decide +kernel) (fun _ _ _ h => h) (Or.inl ⟨by rfl, ?hy⟩) hcur ?_
        case hy =>
          intro w1 hSw
          (try dsimp only at hSw)
          obtain ⟨z0, z1, z2, z3, -, -, -, -⟩ := an_facts hSw.has
          go_simp
          (try with_reducible rfl)
        (try simp only [Act.put, List.getElem_toArray, List.getElem_cons_zero, List.getElem_cons_succ, List.setIfInBounds_toArray, List.set_cons_zero, List.set_cons_succ])
        refine wpAnyH_take (i := 1) (v := ?_) rfl (by decide +kernel) (by decide +kernel) (by decide +kernel) (fun _ _ _ h => h) (Or.inl ⟨by rfl, ?hy⟩) hcur ?_
        case hy =>
          intro w1 hSw
          (try dsimp only at hSw)
          obtain ⟨z0, z1, z2, z3, -, -, -, -⟩ := an_facts hSw.has
          go_simp
          (try with_reducible rfl)
        (try simp only [Act.put, List.getElem_toArray, List.getElem_cons_zero, List.getElem_cons_succ, List.setIfInBounds_toArray, List.set_cons_zero, List.set_cons_succ])
        refine wpAnyH_take (i := 2) (v := ?_) rfl (by decide +kernel) (by decide +kernel) (by decide +kernel) (fun _ _ _ h => h) (Or.inl ⟨by rfl, ?hy⟩) hcur ?_
        case hy =>
          intro w1 hSw
          (try dsimp only at hSw)
          obtain ⟨z0, z1, z2, z3, -, -, -, -⟩ := an_facts hSw.has
          go_simp
          (try with_reducible rfl)
        (try simp only [Act.put, List.getElem_toArray, List.getElem_cons_zero, List.getElem_cons_succ, List.setIfInBounds_toArray, List.set_cons_zero, List.set_cons_succ])
        refine wpAnyH_ready (rs := [3]) (by decide +kernel) (by simp) ?_
        refine AllReadyH.cons rfl (fun K hK => ?_) AllReadyH.nil
        obtain ⟨x0, x1, x2, x3, x4⟩ := op5_facts (hS.out.has 0 _ _ rfl).1
        obtain ⟨y0, y1, y2, y3, q0, q1, q2, q3⟩ := an_facts (hS.out.has 1 _ _ rfl).1
        go_simp
        have hZ := ref_fin hS.out rfl ⟨2, ⟨#[]⟩, 0, []⟩ (M0 := M0) (M := M0) (c := c0) (ms := ms) (own_nilP _ (w.heap.size + 2)) (Nat.le_refl _) (.inl ⟨rfl, HP.out⟩)
        have hN := hcur.set HG8.out (.int .i64 2) (.string ⟨#[]⟩) (.int .u64 0) (.slice none 0 0)
        have hV := hS.out.store4 1 rfl (.int .i64 2) (.string ⟨#[]⟩) (.int .u64 0) (.slice none 0 0)
        simp only [Go.Proofs.Ytggjlnjpokdfpaa.set4, anCells, List.length_nil, List.set_cons_zero, List.set_cons_succ] at hZ hN hV
        clear x0 x1 x2 x3 x4 y0 y1 y2 y3 q0 q1 q2 q3
        have HZ := Lib.hid hZ
        replace hS := Lib.hid hV
        clear hZ hV
        refine hK.out _ _ (hN) (fun hcur2 => ?_)
        clear hK K
        replace hcur := hcur2
        (try dsimp only at hcur)
        clear hcur2
        (try simp only [Act.put, List.getElem_toArray, List.getElem_cons_zero, List.getElem_cons_succ, List.setIfInBounds_toArray, List.set_cons_zero, List.set_cons_succ])
        clear hN
        generalize World.setCell _ _ _ = X4 at hS HZ hcur ⊢
        refine wpAnyH_done (by decide +kernel) ?_ _
        obtain ⟨x0, x1, x2, x3, x4⟩ := op5_facts (hS.out.has 0 _ _ rfl).1
        obtain ⟨y0, y1, y2, y3, q0, q1, q2, q3⟩ := an_facts (hS.out.has 1 _ _ rfl).1
        clear hcur
        go_wp2_with fail
        exact bodyPost_ret (v := .tuple #[.slice M0 ms.length c0, .agg #[.int .i64 2, .string ⟨#[]⟩, .int .u64 0, .slice none 0 0]]) (by simp [results, Try.results58, go_sem, *]) rfl HZ.out
      · have hd := HD0.out
        rw [if_pos rfl, if_pos rfl] at hd
        injection hd with hd1 hd2
        subst hd1 hd2
        clear HD0
        simp only [ansV]
        have hZ := ref_fin hS.out rfl ⟨1, ⟨#[]⟩, gv, []⟩ (M0 := M0) (M := M0) (c := c0) (ms := ms) (own_nilP _ (w.heap.size + 2)) (Nat.le_refl _) (.inl ⟨rfl, HP.out⟩)
        simp only [set4, anCells, List.length_nil] at hZ
        have HZ := Lib.hid hZ
        clear hZ
        go_wp2_with fail
        exact bodyPost_ret (v := .tuple #[.slice M0 ms.length c0, .agg #[.int .i64 1, .string ⟨#[]⟩, .int .u64 gv, .slice none 0 0]]) (by simp [results, Try.results58, go_sem, *]) rfl HZ.out
    · cases gb
      · have hd := HD0.out
        rw [if_neg (by omega), if_pos rfl, if_neg Bool.false_ne_true] at hd
        injection hd with hd1 hd2
        subst hd1 hd2
        clear HD0
        simp only [ansV]
        go_wp2_with fail
        have HLT := Lib.hid (hS.out.lt (i := 1) rfl)
        refine (HPu.out _ (HP.out.up hS.out.below)).mono ?_
        rintro e wn ⟨M9, c9, rfl, hown, hbn⟩
        clear x0 x1 x2 x3 x4 y0 y1 y2 y3 q0 q1 q2 q3
        replace hS := Lib.hid (hS.out.call hbn)
        have HW := Lib.hid hown
        clear hbn hown
        obtain ⟨x0, x1, x2, x3, x4⟩ := op5_facts (hS.out.has 0 _ _ rfl).1
        obtain ⟨y0, y1, y2, y3, q0, q1, q2, q3⟩ := an_facts (hS.out.has 1 _ _ rfl).1
        have hZ := ref_fin hS.out rfl ⟨1, ⟨#[]⟩, 0, []⟩ (M0 := M0) (M := M9) (c := c9) (ms := mp) (own_nilP _ (w.heap.size + 2)) (Nat.le_refl _) (.inr ⟨_, HLT.out, HW.out⟩)
        simp only [set4, anCells, List.length_nil] at hZ
        have HZ := Lib.hid hZ
        clear hZ
        go_wp2_with fail
        exact bodyPost_ret (v := .tuple #[.slice M9 mp.length c9, .agg #[.int .i64 1, .string ⟨#[]⟩, .int .u64 0, .slice none 0 0]]) (by simp [results, Try.results58, go_sem, *]) rfl HZ.out
      · have hd := HD0.out
        rw [if_neg (by omega), if_pos rfl, if_pos rfl] at hd
        injection hd with hd1 hd2
        subst hd1 hd2
        clear HD0
        simp only [ansV]
        have hZ := ref_fin hS.out rfl ⟨3, ⟨#[]⟩, gv, []⟩ (M0 := M0) (M := M0) (c := c0) (ms := ms) (own_nilP _ (w.heap.size + 2)) (Nat.le_refl _) (.inl ⟨rfl, HP.out⟩)
        simp only [set4, anCells, List.length_nil] at hZ
        have HZ := Lib.hid hZ
        clear hZ
        go_wp2_with fail
        exact bodyPost_ret (v := .tuple #[.slice M0 ms.length c0, .agg #[.int .i64 3, .string ⟨#[]⟩, .int .u64 gv, .slice none 0 0]]) (by simp [results, Try.results58, go_sem, *]) rfl HZ.out
    · cases gb
      · have hd := HD0.out
        rw [if_neg (by omega), if_neg (by omega), if_pos rfl, if_neg Bool.false_ne_true] at hd
        injection hd with hd1 hd2
        subst hd1 hd2
        clear HD0
        simp only [ansV]
        go_wp2_with fail
        have HLT := Lib.hid (hS.out.lt (i := 1) rfl)
        refine (HPu.out _ (HP.out.up hS.out.below)).mono ?_
        rintro e wn ⟨M9, c9, rfl, hown, hbn⟩
        clear x0 x1 x2 x3 x4 y0 y1 y2 y3 q0 q1 q2 q3
        replace hS := Lib.hid (hS.out.call hbn)
        have HW := Lib.hid hown
        clear hbn hown
        obtain ⟨x0, x1, x2, x3, x4⟩ := op5_facts (hS.out.has 0 _ _ rfl).1
        obtain ⟨y0, y1, y2, y3, q0, q1, q2, q3⟩ := an_facts (hS.out.has 1 _ _ rfl).1
        have hZ := ref_fin hS.out rfl ⟨1, ⟨#[]⟩, 0, []⟩ (M0 := M0) (M := M9) (c := c9) (ms := mp) (own_nilP _ (w.heap.size + 2)) (Nat.le_refl _) (.inr ⟨_, HLT.out, HW.out⟩)
        simp only [set4, anCells, List.length_nil] at hZ
        have HZ := Lib.hid hZ
        clear hZ
        go_wp2_with fail
        exact bodyPost_ret (v := .tuple #[.slice M9 mp.length c9, .agg #[.int .i64 1, .string ⟨#[]⟩, .int .u64 0, .slice none 0 0]]) (by simp [results, Try.results58, go_sem, *]) rfl HZ.out
      · have hd := HD0.out
        rw [if_neg (by omega), if_neg (by omega), if_pos rfl, if_pos rfl] at hd
        injection hd with hd1 hd2
        subst hd1 hd2
        clear HD0
        simp only [ansV]
        go_wp2_with fail
        have HLT := Lib.hid (hS.out.lt (i := 1) rfl)
        refine (HPu.out _ (HP.out.up hS.out.below)).mono ?_
        rintro e wn ⟨M9, c9, rfl, hown, hbn⟩
        clear x0 x1 x2 x3 x4 y0 y1 y2 y3 q0 q1 q2 q3
        replace hS := Lib.hid (hS.out.call hbn)
        have HW := Lib.hid hown
        clear hbn hown
        obtain ⟨x0, x1, x2, x3, x4⟩ := op5_facts (hS.out.has 0 _ _ rfl).1
        obtain ⟨y0, y1, y2, y3, q0, q1, q2, q3⟩ := an_facts (hS.out.has 1 _ _ rfl).1
        have hZ := ref_fin hS.out rfl ⟨3, ⟨#[]⟩, gv, []⟩ (M0 := M0) (M := M9) (c := c9) (ms := mp) (own_nilP _ (w.heap.size + 2)) (Nat.le_refl _) (.inr ⟨_, HLT.out, HW.out⟩)
        simp only [set4, anCells, List.length_nil] at hZ
        have HZ := Lib.hid hZ
        clear hZ
        go_wp2_with fail
        exact bodyPost_ret (v := .tuple #[.slice M9 mp.length c9, .agg #[.int .i64 3, .string ⟨#[]⟩, .int .u64 gv, .slice none 0 0]]) (by simp [results, Try.results58, go_sem, *]) rfl HZ.out
    · cases gb
      · have hd := HD0.out
        rw [if_neg (by omega), if_neg (by omega), if_neg (by omega), if_pos rfl, if_neg Bool.false_ne_true] at hd
        injection hd with hd1 hd2
        subst hd1 hd2
        clear HD0
        simp only [ansV]
        go_upto_region 21 with fail
        clear x0 x1 x2 x3 x4 y0 y1 y2 y3 q0 q1 q2 q3
        have hd9 := Below.drew (Below.refl W8.heap.size W8)
        replace hS := Lib.hid (hS.out.call hd9)
        clear hd9
        refine wp_region_held_drew (S := fun w' => NoneAt w w' g8) (by kernel_rfl) (hS.out.noneAt 2 rfl) (fun hcur => ?_)
        (try dsimp only at hcur)
        generalize W8.drew = X at hS hcur ⊢
        refine wpAnyH_take (i := 0) (v := ?_) rfl (by decide +kernel) (by decide +kernel) (by decide +kernel) (fun _ _ _ h => h) (Or.inl ⟨by rfl, ?hy⟩) hcur ?_
        case hy =>
          intro w1 hSw
          (try dsimp only at hSw)
          obtain ⟨z0, z1, z2, z3, -, -, -, -⟩ := an_facts hSw.has
          go_simp
          (try with_reducible rfl)
        (try simp only [Act.put, List.getElem_toArray, List.getElem_cons_zero, List.getElem_cons_succ, List.setIfInBounds_toArray, List.set_cons_zero, List.set_cons_succ])
        refine wpAnyH_take (i := 1) (v := ?_) rfl (by decide +kernel) (by decide +kernel) (by decide +kernel) (fun _ _ _ h => h) (Or.inl ⟨by rfl, ?hy⟩) hcur ?_
        case hy =>
          intro w1 hSw
          (try dsimp only at hSw)
          obtain ⟨z0, z1, z2, z3, -, -, -, -⟩ := an_facts hSw.has
          go_simp
          (try with_reducible rfl)
        (try simp only [Act.put, List.getElem_toArray, List.getElem_cons_zero, List.getElem_cons_succ, List.setIfInBounds_toArray, List.set_cons_zero, List.set_cons_succ])
        refine wpAnyH_take (i := 2) (v := ?_) rfl (by decide +kernel) (by decide +kernel) (by decide +kernel) (fun _ _ _ h => h) (Or.inl ⟨by rfl, ?hy⟩) hcur ?_
        case hy =>
          intro w1 hSw
          (try dsimp only at hSw)
          obtain ⟨z0, z1, z2, z3, -, -, -, -⟩ := an_facts hSw.has
          go_simp
          (try with_reducible rfl)
        (try simp only [Act.put, List.getElem_toArray, List.getElem_cons_zero, List.getElem_cons_succ, List.setIfInBounds_toArray, List.set_cons_zero, List.set_cons_succ])
        refine wpAnyH_ready (rs := [3]) (by decide +kernel) (by simp) ?_
        refine AllReadyH.cons rfl (fun K hK => ?_) AllReadyH.nil
        obtain ⟨x0, x1, x2, x3, x4⟩ := op5_facts (hS.out.has 0 _ _ rfl).1
        obtain ⟨y0, y1, y2, y3, q0, q1, q2, q3⟩ := an_facts (hS.out.has 1 _ _ rfl).1
        go_simp
        have hZ := ref_fin hS.out rfl ⟨2, ⟨#[]⟩, 0, []⟩ (M0 := M0) (M := M0) (c := c0) (ms := ms) (own_nilP _ (w.heap.size + 2)) (Nat.le_refl _) (.inl ⟨rfl, HP.out⟩)
        have hN := hcur.set HG8.out (.int .i64 2) (.string ⟨#[]⟩) (.int .u64 0) (.slice none 0 0)
        have hV := hS.out.store4 1 rfl (.int .i64 2) (.string ⟨#[]⟩) (.int .u64 0) (.slice none 0 0)
        simp only [Go.Proofs.Ytggjlnjpokdfpaa.set4, anCells, List.length_nil, List.set_cons_zero, List.set_cons_succ] at hZ hN hV
        clear x0 x1 x2 x3 x4 y0 y1 y2 y3 q0 q1 q2 q3
        have HZ := Lib.hid hZ
        replace hS := Lib.hid hV
        clear hZ hV
        refine hK.out _ _ (hN) (fun hcur2 => ?_)
        clear hK K
        replace hcur := hcur2
        (try dsimp only at hcur)
        clear hcur2
        (try simp only [Act.put, List.getElem_toArray, List.getElem_cons_zero, List.getElem_cons_succ, List.setIfInBounds_toArray, List.set_cons_zero, List.set_cons_succ])
        clear hN
        generalize World.setCell _ _ _ = X4 at hS HZ hcur ⊢
        refine wpAnyH_done (by decide +kernel) ?_ _
        obtain ⟨x0, x1, x2, x3, x4⟩ := op5_facts (hS.out.has 0 _ _ rfl).1
        obtain ⟨y0, y1, y2, y3, q0, q1, q2, q3⟩ := an_facts (hS.out.has 1 _ _ rfl).1
        clear hcur
        go_wp2_with fail
        exact bodyPost_ret (v := .tuple #[.slice M0 ms.length c0, .agg #[.int .i64 2, .string ⟨#[]⟩, .int .u64 0, .slice none 0 0]]) (by simp [results, Try.results58, go_sem, *]) rfl HZ.out
      · have hd := HD0.out
        rw [if_neg (by omega), if_neg (by omega), if_neg (by omega), if_pos rfl, if_pos rfl] at hd
        injection hd with hd1 hd2
        subst hd1 hd2
        clear HD0
        simp only [ansV]
        go_wp2_with fail
        have HLT := Lib.hid (hS.out.lt (i := 1) rfl)
        refine (HDe.out _ (HP.out.up hS.out.below)).mono ?_
        rintro e wn ⟨M9, c9, rfl, hown, hbn⟩
        clear x0 x1 x2 x3 x4 y0 y1 y2 y3 q0 q1 q2 q3
        replace hS := Lib.hid (hS.out.call hbn)
        have HW := Lib.hid hown
        clear hbn hown
        obtain ⟨x0, x1, x2, x3, x4⟩ := op5_facts (hS.out.has 0 _ _ rfl).1
        obtain ⟨y0, y1, y2, y3, q0, q1, q2, q3⟩ := an_facts (hS.out.has 1 _ _ rfl).1
        have hZ := ref_fin hS.out rfl ⟨1, ⟨#[]⟩, gv, []⟩ (M0 := M0) (M := M9) (c := c9) (ms := md) (own_nilP _ (w.heap.size + 2)) (Nat.le_refl _) (.inr ⟨_, HLT.out, HW.out⟩)
        simp only [set4, anCells, List.length_nil] at hZ
        have HZ := Lib.hid hZ
        clear hZ
        go_wp2_with fail
        exact bodyPost_ret (v := .tuple #[.slice M9 md.length c9, .agg #[.int .i64 1, .string ⟨#[]⟩, .int .u64 gv, .slice none 0 0]]) (by simp [results, Try.results58, go_sem, *]) rfl HZ.out
    · cases gb
      · have hd := HD0.out
        rw [if_neg (by omega), if_neg (by omega), if_neg (by omega), if_neg (by omega), if_pos rfl, if_neg Bool.false_ne_true] at hd
        injection hd with hd1 hd2
        subst hd1 hd2
        clear HD0
        simp only [ansV]
        go_upto_region 27 with fail
        clear x0 x1 x2 x3 x4 y0 y1 y2 y3 q0 q1 q2 q3
        have hd9 := Below.drew (Below.refl W8.heap.size W8)
        replace hS := Lib.hid (hS.out.call hd9)
        clear hd9
        refine wp_region_held_drew (S := fun w' => NoneAt w w' g8) (by kernel_rfl) (hS.out.noneAt 2 rfl) (fun hcur => ?_)
        (try dsimp only at hcur)
        generalize W8.drew = X at hS hcur ⊢
        refine wpAnyH_take (i := 0) (v := ?_) rfl (by decide +kernel) (by decide +kernel) (by decide +kernel) (fun _ _ _ h => h) (Or.inl ⟨by rfl, ?hy⟩) hcur ?_
        case hy =>
          intro w1 hSw
          (try dsimp only at hSw)
          obtain ⟨z0, z1, z2, z3, -, -, -, -⟩ := an_facts hSw.has
          go_simp
          (try with_reducible rfl)
        (try simp only [Act.put, List.getElem_toArray, List.getElem_cons_zero, List.getElem_cons_succ, List.setIfInBounds_toArray, List.set_cons_zero, List.set_cons_succ])
        refine wpAnyH_take (i := 1) (v := ?_) rfl (by decide +kernel) (by decide +kernel) (by decide +kernel) (fun _ _ _ h => h) (Or.inl ⟨by rfl, ?hy⟩) hcur ?_
        case hy =>
          intro w1 hSw
          (try dsimp only at hSw)
          obtain ⟨z0, z1, z2, z3, -, -, -, -⟩ := an_facts hSw.has
          go_simp
          (try with_reducible rfl)
        (try simp only [Act.put, List.getElem_toArray, List.getElem_cons_zero, List.getElem_cons_succ, List.setIfInBounds_toArray, List.set_cons_zero, List.set_cons_succ])
        refine wpAnyH_take (i := 2) (v := ?_) rfl (by decide +kernel) (by decide +kernel) (by decide +kernel) (fun _ _ _ h => h) (Or.inl ⟨by rfl, ?hy⟩) hcur ?_
        case hy =>
          intro w1 hSw
          (try dsimp only at hSw)
          obtain ⟨z0, z1, z2, z3, -, -, -, -⟩ := an_facts hSw.has
          go_simp
          (try with_reducible rfl)
        (try simp only [Act.put, List.getElem_toArray, List.getElem_cons_zero, List.getElem_cons_succ, List.setIfInBounds_toArray, List.set_cons_zero, List.set_cons_succ])
        refine wpAnyH_ready (rs := [3]) (by decide +kernel) (by simp) ?_
        refine AllReadyH.cons rfl (fun K hK => ?_) AllReadyH.nil
        obtain ⟨x0, x1, x2, x3, x4⟩ := op5_facts (hS.out.has 0 _ _ rfl).1
        obtain ⟨y0, y1, y2, y3, q0, q1, q2, q3⟩ := an_facts (hS.out.has 1 _ _ rfl).1
        go_simp
        have hZ := ref_fin hS.out rfl ⟨2, ⟨#[]⟩, 0, []⟩ (M0 := M0) (M := M0) (c := c0) (ms := ms) (own_nilP _ (w.heap.size + 2)) (Nat.le_refl _) (.inl ⟨rfl, HP.out⟩)
        have hN := hcur.set HG8.out (.int .i64 2) (.string ⟨#[]⟩) (.int .u64 0) (.slice none 0 0)
        have hV := hS.out.store4 1 rfl (.int .i64 2) (.string ⟨#[]⟩) (.int .u64 0) (.slice none 0 0)
        simp only [Go.Proofs.Ytggjlnjpokdfpaa.set4, anCells, List.length_nil, List.set_cons_zero, List.set_cons_succ] at hZ hN hV
        clear x0 x1 x2 x3 x4 y0 y1 y2 y3 q0 q1 q2 q3
        have HZ := Lib.hid hZ
        replace hS := Lib.hid hV
        clear hZ hV
        refine hK.out _ _ (hN) (fun hcur2 => ?_)
        clear hK K
        replace hcur := hcur2
        (try dsimp only at hcur)
        clear hcur2
        (try simp only [Act.put, List.getElem_toArray, List.getElem_cons_zero, List.getElem_cons_succ, List.setIfInBounds_toArray, List.set_cons_zero, List.set_cons_succ])
        clear hN
        generalize World.setCell _ _ _ = X4 at hS HZ hcur ⊢
        refine wpAnyH_done (by decide +kernel) ?_ _
        obtain ⟨x0, x1, x2, x3, x4⟩ := op5_facts (hS.out.has 0 _ _ rfl).1
        obtain ⟨y0, y1, y2, y3, q0, q1, q2, q3⟩ := an_facts (hS.out.has 1 _ _ rfl).1
        clear hcur
        go_wp2_with fail
        exact bodyPost_ret (v := .tuple #[.slice M0 ms.length c0, .agg #[.int .i64 2, .string ⟨#[]⟩, .int .u64 0, .slice none 0 0]]) (by simp [results, Try.results58, go_sem, *]) rfl HZ.out
      · by_cases hv : gv = (val : Int)
        · have hd := HD0.out
          rw [if_neg (by omega), if_neg (by omega), if_neg (by omega), if_neg (by omega), if_pos rfl, if_pos rfl, if_pos hv] at hd
          injection hd with hd1 hd2
          subst hd1 hd2
          clear HD0
          subst hv
          have hvb : ((val : Int) == (val : Int)) = true := by simp
          simp only [ansV]
          go_wp2_with fail
          have HLT := Lib.hid (hS.out.lt (i := 1) rfl)
          refine (HDe.out _ (HP.out.up hS.out.below)).mono ?_
          rintro e wn ⟨M9, c9, rfl, hown, hbn⟩
          clear x0 x1 x2 x3 x4 y0 y1 y2 y3 q0 q1 q2 q3
          replace hS := Lib.hid (hS.out.call hbn)
          have HW := Lib.hid hown
          clear hbn hown
          obtain ⟨x0, x1, x2, x3, x4⟩ := op5_facts (hS.out.has 0 _ _ rfl).1
          obtain ⟨y0, y1, y2, y3, q0, q1, q2, q3⟩ := an_facts (hS.out.has 1 _ _ rfl).1
          have hZ := ref_fin hS.out rfl ⟨1, ⟨#[]⟩, (val : Int), []⟩ (M0 := M0) (M := M9) (c := c9) (ms := md) (own_nilP _ (w.heap.size + 2)) (Nat.le_refl _) (.inr ⟨_, HLT.out, HW.out⟩)
          simp only [set4, anCells, List.length_nil] at hZ
          have HZ := Lib.hid hZ
          clear hZ
          go_wp2_with fail
          exact bodyPost_ret (v := .tuple #[.slice M9 md.length c9, .agg #[.int .i64 1, .string ⟨#[]⟩, .int .u64 (val : Int), .slice none 0 0]]) (by simp [results, Try.results58, go_sem, *]) rfl HZ.out
        · have hd := HD0.out
          rw [if_neg (by omega), if_neg (by omega), if_neg (by omega), if_neg (by omega), if_pos rfl, if_pos rfl, if_neg hv] at hd
          injection hd with hd1 hd2
          subst hd1 hd2
          clear HD0
          have hvb : (gv == (val : Int)) = false := by rw [beq_eq_false_iff_ne]; exact hv
          clear hv
          simp only [ansV]
          have hZ := ref_fin hS.out rfl ⟨4, ⟨#[]⟩, gv, []⟩ (M0 := M0) (M := M0) (c := c0) (ms := ms) (own_nilP _ (w.heap.size + 2)) (Nat.le_refl _) (.inl ⟨rfl, HP.out⟩)
          simp only [set4, anCells, List.length_nil] at hZ
          have HZ := Lib.hid hZ
          clear hZ
          go_wp2_with fail
          exact bodyPost_ret (v := .tuple #[.slice M0 ms.length c0, .agg #[.int .i64 4, .string ⟨#[]⟩, .int .u64 gv, .slice none 0 0]]) (by simp [results, Try.results58, go_sem, *]) rfl HZ.out
    · cases al with
      | nil =>
        have hd := HD0.out
        rw [if_neg (by omega), if_neg (by omega), if_neg (by omega), if_neg (by omega), if_neg (by omega), if_pos rfl] at hd
        injection hd with hd1 hd2
        subst hd1 hd2
        clear HD0
        simp only [ansV, ofO, List.getElem?_nil]
        go_wp2_with fail
        refine (HAl.out _ (HP.out.up hS.out.below)).mono ?_
        rintro e wn ⟨A9, c9, rfl, hown, hbn⟩
        clear x0 x1 x2 x3 x4 y0 y1 y2 y3 q0 q1 q2 q3
        replace hS := Lib.hid (hS.out.call hbn)
        clear hbn hown
        obtain ⟨x0, x1, x2, x3, x4⟩ := op5_facts (hS.out.has 0 _ _ rfl).1
        obtain ⟨y0, y1, y2, y3, q0, q1, q2, q3⟩ := an_facts (hS.out.has 1 _ _ rfl).1
        simp only [List.length_nil]
        go_upto_region 31 with fail
        clear x0 x1 x2 x3 x4 y0 y1 y2 y3 q0 q1 q2 q3
        have hd9 := Below.drew (Below.refl wn.heap.size wn)
        replace hS := Lib.hid (hS.out.call hd9)
        clear hd9
        refine wp_region_held_drew (S := fun w' => NoneAt w w' g8) (by kernel_rfl) (hS.out.noneAt 2 rfl) (fun hcur => ?_)
        (try dsimp only at hcur)
        generalize wn.drew = X at hS hcur ⊢
        refine wpAnyH_take (i := 0) (v := ?_) rfl (by decide +kernel) (by decide +kernel) (by decide +kernel) (fun _ _ _ h => h) (Or.inl ⟨by rfl, ?hy⟩) hcur ?_
        case hy =>
          intro w1 hSw
          (try dsimp only at hSw)
          obtain ⟨z0, z1, z2, z3, -, -, -, -⟩ := an_facts hSw.has
          go_simp
          (try with_reducible rfl)
        (try simp only [Act.put, List.getElem_toArray, List.getElem_cons_zero, List.getElem_cons_succ, List.setIfInBounds_toArray, List.set_cons_zero, List.set_cons_succ])
        refine wpAnyH_take (i := 1) (v := ?_) rfl (by decide +kernel) (by decide +kernel) (by decide +kernel) (fun _ _ _ h => h) (Or.inl ⟨by rfl, ?hy⟩) hcur ?_
        case hy =>
          intro w1 hSw
          (try dsimp only at hSw)
          obtain ⟨z0, z1, z2, z3, -, -, -, -⟩ := an_facts hSw.has
          go_simp
          (try with_reducible rfl)
        (try simp only [Act.put, List.getElem_toArray, List.getElem_cons_zero, List.getElem_cons_succ, List.setIfInBounds_toArray, List.set_cons_zero, List.set_cons_succ])
        refine wpAnyH_take (i := 2) (v := ?_) rfl (by decide +kernel) (by decide +kernel) (by decide +kernel) (fun _ _ _ h => h) (Or.inl ⟨by rfl, ?hy⟩) hcur ?_
        case hy =>
          intro w1 hSw
          (try dsimp only at hSw)
          obtain ⟨z0, z1, z2, z3, -, -, -, -⟩ := an_facts hSw.has
          go_simp
          (try with_reducible rfl)
        (try simp only [Act.put, List.getElem_toArray, List.getElem_cons_zero, List.getElem_cons_succ, List.setIfInBounds_toArray, List.set_cons_zero, List.set_cons_succ])
        refine wpAnyH_ready (rs := [3]) (by decide +kernel) (by simp) ?_
        refine AllReadyH.cons rfl (fun K hK => ?_) AllReadyH.nil
        obtain ⟨x0, x1, x2, x3, x4⟩ := op5_facts (hS.out.has 0 _ _ rfl).1
        obtain ⟨y0, y1, y2, y3, q0, q1, q2, q3⟩ := an_facts (hS.out.has 1 _ _ rfl).1
        go_simp
        have hZ := ref_fin hS.out rfl ⟨2, ⟨#[]⟩, 0, []⟩ (M0 := M0) (M := M0) (c := c0) (ms := ms) (own_nilP _ (w.heap.size + 2)) (Nat.le_refl _) (.inl ⟨rfl, HP.out⟩)
        have hN := hcur.set HG8.out (.int .i64 2) (.string ⟨#[]⟩) (.int .u64 0) (.slice none 0 0)
        have hV := hS.out.store4 1 rfl (.int .i64 2) (.string ⟨#[]⟩) (.int .u64 0) (.slice none 0 0)
        simp only [Go.Proofs.Ytggjlnjpokdfpaa.set4, anCells, List.length_nil, List.set_cons_zero, List.set_cons_succ] at hZ hN hV
        clear x0 x1 x2 x3 x4 y0 y1 y2 y3 q0 q1 q2 q3
        have HZ := Lib.hid hZ
        replace hS := Lib.hid hV
        clear hZ hV
        refine hK.out _ _ (hN) (fun hcur2 => ?_)
        clear hK K
        replace hcur := hcur2
        (try dsimp only at hcur)
        clear hcur2
        (try simp only [Act.put, List.getElem_toArray, List.getElem_cons_zero, List.getElem_cons_succ, List.setIfInBounds_toArray, List.set_cons_zero, List.set_cons_succ])
        clear hN
        generalize World.setCell _ _ _ = X4 at hS HZ hcur ⊢
        refine wpAnyH_done (by decide +kernel) ?_ _
        obtain ⟨x0, x1, x2, x3, x4⟩ := op5_facts (hS.out.has 0 _ _ rfl).1
        obtain ⟨y0, y1, y2, y3, q0, q1, q2, q3⟩ := an_facts (hS.out.has 1 _ _ rfl).1
        clear hcur
        go_wp2_with fail
        exact bodyPost_ret (v := .tuple #[.slice M0 ms.length c0, .agg #[.int .i64 2, .string ⟨#[]⟩, .int .u64 0, .slice none 0 0]]) (by simp [results, Try.results58, go_sem, *]) rfl HZ.out
      | cons p t =>
        have hd := HD0.out
        rw [if_neg (by omega), if_neg (by omega), if_neg (by omega), if_neg (by omega), if_neg (by omega), if_pos rfl] at hd
        injection hd with hd1 hd2
        have hd3 : (⟨1, p.key, p.val, []⟩ : AnsI) = a := hd2
        subst hd1 hd3
        clear hd2 HD0
        have HRp := Lib.hid (fun W => refpair18_any (some p) W)
        simp only [ofO, anCells, List.length_nil, prCells, Option.getD_some, Option.isSome_some] at HRp
        go_wp2_with fail
        refine (HAl.out _ (HP.out.up hS.out.below)).mono ?_
        rintro e wn ⟨A9, c9, rfl, hown, hbn⟩
        clear x0 x1 x2 x3 x4 y0 y1 y2 y3 q0 q1 q2 q3
        replace hS := Lib.hid (hS.out.call hbn)
        have hps := prs_of_own hown rfl
        obtain ⟨b, off, hj, rfl, -, k0, k1⟩ := hps.at_ (j := 0) (by simp)
        simp only [Nat.zero_mul, Nat.add_zero, List.getElem_cons_zero] at k0 k1
        clear hbn hown hps hj HAl
        generalize hnn : (p :: t).length = n9
        have hn0 : ((n9 : Int) == 0) = false := by rw [beq_eq_false_iff_ne]; rw [← hnn]; simp; omega
        have hnp : 0 < n9 := by rw [← hnn]; simp
        clear hnn
        obtain ⟨x0, x1, x2, x3, x4⟩ := op5_facts (hS.out.has 0 _ _ rfl).1
        obtain ⟨y0, y1, y2, y3, q0, q1, q2, q3⟩ := an_facts (hS.out.has 1 _ _ rfl).1
        go_wp2_with fail
        refine (HRp.out _).mono ?_
        rintro e wm ⟨rfl, hbn⟩
        clear k0 k1
        clear x0 x1 x2 x3 x4 y0 y1 y2 y3 q0 q1 q2 q3
        replace hS := Lib.hid (hS.out.call hbn)
        clear hbn
        obtain ⟨x0, x1, x2, x3, x4⟩ := op5_facts (hS.out.has 0 _ _ rfl).1
        obtain ⟨y0, y1, y2, y3, q0, q1, q2, q3⟩ := an_facts (hS.out.has 1 _ _ rfl).1
        have hZ := ref_fin hS.out rfl ⟨1, p.key, p.val, []⟩ (M0 := M0) (M := M0) (c := c0) (ms := ms) (own_nilP _ (w.heap.size + 2)) (Nat.le_refl _) (.inl ⟨rfl, HP.out⟩)
        simp only [set4, anCells, List.length_nil] at hZ
        have HZ := Lib.hid hZ
        clear hZ
        go_wp2_with fail
        exact bodyPost_ret (v := .tuple #[.slice M0 ms.length c0, .agg #[.int .i64 1, .string p.key, .int .u64 p.val, .slice none 0 0]]) (by simp [results, Try.results58, go_sem, *]) rfl HZ.out
    · have hd := HD0.out
      rw [if_neg (by omega), if_neg (by omega), if_neg (by omega), if_neg (by omega), if_neg (by omega), if_neg (by omega), if_pos rfl] at hd
      injection hd with hd1 hd2
      have HRp := Lib.hid (fun W => refpair18_any o7 W)
      obtain ⟨ac, ak, av, hof⟩ := ofO_shape o7
      rw [hof] at HRp hd2
      subst hd1 hd2
      clear hof HD0
      simp only [anCells, List.length_nil, prCells] at HRp HPr
      go_wp2_with fail
      refine (HPr.out _ (HP.out.up hS.out.below)).mono ?_
      rintro e wn ⟨rfl, hbn⟩
      clear x0 x1 x2 x3 x4 y0 y1 y2 y3 q0 q1 q2 q3
      replace hS := Lib.hid ((hS.out.call hbn).alloc (.cells #[.string (o7.getD Pl.zeroP).key, .int .u64 (o7.getD Pl.zeroP).val] 59))
      simp only [List.cons_append, List.nil_append] at hS
      clear hbn
      go_upto_region 35 with fail
      generalize wn.alloc _ = W9 at hS ⊢
      generalize wn.heap.size = g9 at hS ⊢
      obtain ⟨z0, z1, -, -⟩ := pr_facts (hS.out.has 3 _ _ rfl).1
      obtain ⟨x0, x1, x2, x3, x4⟩ := op5_facts (hS.out.has 0 _ _ rfl).1
      obtain ⟨y0, y1, y2, y3, q0, q1, q2, q3⟩ := an_facts (hS.out.has 1 _ _ rfl).1
      go_wp2_with fail
      refine (HRp.out _).mono ?_
      rintro e wm ⟨rfl, hbn⟩
      clear z0 z1
      clear x0 x1 x2 x3 x4 y0 y1 y2 y3 q0 q1 q2 q3
      replace hS := Lib.hid (hS.out.call hbn)
      clear hbn
      obtain ⟨x0, x1, x2, x3, x4⟩ := op5_facts (hS.out.has 0 _ _ rfl).1
      obtain ⟨y0, y1, y2, y3, q0, q1, q2, q3⟩ := an_facts (hS.out.has 1 _ _ rfl).1
      have hZ := ref_fin hS.out rfl ⟨ac, ak, av, []⟩ (M0 := M0) (M := M0) (c := c0) (ms := ms) (own_nilP _ (w.heap.size + 2)) (Nat.le_refl _) (.inl ⟨rfl, HP.out⟩)
      simp only [set4, anCells, List.length_nil] at hZ
      have HZ := Lib.hid hZ
      clear hZ
      go_wp2_with fail
      exact bodyPost_ret (v := .tuple #[.slice M0 ms.length c0, .agg #[.int .i64 ac, .string ak, .int .u64 av, .slice none 0 0]]) (by simp [results, Try.results58, go_sem, *]) rfl HZ.out
    · have hd := HD0.out
      rw [if_neg (by omega), if_neg (by omega), if_neg (by omega), if_neg (by omega), if_neg (by omega), if_neg (by omega), if_neg (by omega), if_pos rfl] at hd
      injection hd with hd1 hd2
      have HRp := Lib.hid (fun W => refpair18_any o8 W)
      obtain ⟨ac, ak, av, hof⟩ := ofO_shape o8
      rw [hof] at HRp hd2
      subst hd1 hd2
      clear hof HD0
      simp only [anCells, List.length_nil, prCells] at HRp HNx
      go_wp2_with fail
      refine (HNx.out _ (HP.out.up hS.out.below)).mono ?_
      rintro e wn ⟨rfl, hbn⟩
      clear x0 x1 x2 x3 x4 y0 y1 y2 y3 q0 q1 q2 q3
      replace hS := Lib.hid ((hS.out.call hbn).alloc (.cells #[.string (o8.getD Pl.zeroP).key, .int .u64 (o8.getD Pl.zeroP).val] 59))
      simp only [List.cons_append, List.nil_append] at hS
      clear hbn
      go_upto_region 38 with fail
      generalize wn.alloc _ = W9 at hS ⊢
      generalize wn.heap.size = g9 at hS ⊢
      obtain ⟨z0, z1, -, -⟩ := pr_facts (hS.out.has 3 _ _ rfl).1
      obtain ⟨x0, x1, x2, x3, x4⟩ := op5_facts (hS.out.has 0 _ _ rfl).1
      obtain ⟨y0, y1, y2, y3, q0, q1, q2, q3⟩ := an_facts (hS.out.has 1 _ _ rfl).1
      go_wp2_with fail
      refine (HRp.out _).mono ?_
      rintro e wm ⟨rfl, hbn⟩
      clear z0 z1
      clear x0 x1 x2 x3 x4 y0 y1 y2 y3 q0 q1 q2 q3
      replace hS := Lib.hid (hS.out.call hbn)
      clear hbn
      obtain ⟨x0, x1, x2, x3, x4⟩ := op5_facts (hS.out.has 0 _ _ rfl).1
      obtain ⟨y0, y1, y2, y3, q0, q1, q2, q3⟩ := an_facts (hS.out.has 1 _ _ rfl).1
      have hZ := ref_fin hS.out rfl ⟨ac, ak, av, []⟩ (M0 := M0) (M := M0) (c := c0) (ms := ms) (own_nilP _ (w.heap.size + 2)) (Nat.le_refl _) (.inl ⟨rfl, HP.out⟩)
      simp only [set4, anCells, List.length_nil] at hZ
      have HZ := Lib.hid hZ
      clear hZ
      go_wp2_with fail
      exact bodyPost_ret (v := .tuple #[.slice M0 ms.length c0, .agg #[.int .i64 ac, .string ak, .int .u64 av, .slice none 0 0]]) (by simp [results, Try.results58, go_sem, *]) rfl HZ.out
    · have hd := HD0.out
      rw [if_neg (by omega), if_neg (by omega), if_neg (by omega), if_neg (by omega), if_neg (by omega), if_neg (by omega), if_neg (by omega), if_neg (by omega), if_pos rfl] at hd
      injection hd with hd1 hd2
      have HRp := Lib.hid (fun W => refpair18_any o9 W)
      obtain ⟨ac, ak, av, hof⟩ := ofO_shape o9
      rw [hof] at HRp hd2
      subst hd1 hd2
      clear hof HD0
      simp only [anCells, List.length_nil, prCells] at HRp HPk
      go_wp2_with fail
      refine (HPk.out _ (HP.out.up hS.out.below)).mono ?_
      rintro e wn ⟨rfl, hbn⟩
      clear x0 x1 x2 x3 x4 y0 y1 y2 y3 q0 q1 q2 q3
      replace hS := Lib.hid ((hS.out.call hbn).alloc (.cells #[.string (o9.getD Pl.zeroP).key, .int .u64 (o9.getD Pl.zeroP).val] 59))
      simp only [List.cons_append, List.nil_append] at hS
      clear hbn
      go_upto_region 41 with fail
      generalize wn.alloc _ = W9 at hS ⊢
      generalize wn.heap.size = g9 at hS ⊢
      obtain ⟨z0, z1, -, -⟩ := pr_facts (hS.out.has 3 _ _ rfl).1
      obtain ⟨x0, x1, x2, x3, x4⟩ := op5_facts (hS.out.has 0 _ _ rfl).1
      obtain ⟨y0, y1, y2, y3, q0, q1, q2, q3⟩ := an_facts (hS.out.has 1 _ _ rfl).1
      go_wp2_with fail
      refine (HRp.out _).mono ?_
      rintro e wm ⟨rfl, hbn⟩
      clear z0 z1
      clear x0 x1 x2 x3 x4 y0 y1 y2 y3 q0 q1 q2 q3
      replace hS := Lib.hid (hS.out.call hbn)
      clear hbn
      obtain ⟨x0, x1, x2, x3, x4⟩ := op5_facts (hS.out.has 0 _ _ rfl).1
      obtain ⟨y0, y1, y2, y3, q0, q1, q2, q3⟩ := an_facts (hS.out.has 1 _ _ rfl).1
      have hZ := ref_fin hS.out rfl ⟨ac, ak, av, []⟩ (M0 := M0) (M := M0) (c := c0) (ms := ms) (own_nilP _ (w.heap.size + 2)) (Nat.le_refl _) (.inl ⟨rfl, HP.out⟩)
      simp only [set4, anCells, List.length_nil] at hZ
      have HZ := Lib.hid hZ
      clear hZ
      go_wp2_with fail
      exact bodyPost_ret (v := .tuple #[.slice M0 ms.length c0, .agg #[.int .i64 ac, .string ak, .int .u64 av, .slice none 0 0]]) (by simp [results, Try.results58, go_sem, *]) rfl HZ.out
    · obtain ⟨n1, n2, n3, n4, n5, n6, n7, n8, n9⟩ := hk
      have hd := HD0.out
      rw [if_neg n1, if_neg n2, if_neg n3, if_neg n4, if_neg n5, if_neg n6, if_neg n7, if_neg n8, if_neg n9] at hd
      injection hd with hd1 hd2
      subst hd1 hd2
      clear HD0
      have k1 : (kind == (1 : Int)) = false := by rw [beq_eq_false_iff_ne]; exact n1
      have k2 : (kind == (2 : Int)) = false := by rw [beq_eq_false_iff_ne]; exact n2
      have k3 : (kind == (3 : Int)) = false := by rw [beq_eq_false_iff_ne]; exact n3
      have k4 : (kind == (4 : Int)) = false := by rw [beq_eq_false_iff_ne]; exact n4
      have k5 : (kind == (5 : Int)) = false := by rw [beq_eq_false_iff_ne]; exact n5
      have k6 : (kind == (6 : Int)) = false := by rw [beq_eq_false_iff_ne]; exact n6
      have k7 : (kind == (7 : Int)) = false := by rw [beq_eq_false_iff_ne]; exact n7
      have k8 : (kind == (8 : Int)) = false := by rw [beq_eq_false_iff_ne]; exact n8
      have k9 : (kind == (9 : Int)) = false := by rw [beq_eq_false_iff_ne]; exact n9
      clear n1 n2 n3 n4 n5 n6 n7 n8 n9
      go_wp2_with fail
      have HLT := Lib.hid (hS.out.lt (i := 1) rfl)
      refine (HSc.out _ (HP.out.up hS.out.below)).mono ?_
      rintro e wn ⟨As, cs, rfl, hown, hbn⟩
      clear x0 x1 x2 x3 x4 y0 y1 y2 y3 q0 q1 q2 q3
      replace hS := Lib.hid (hS.out.call hbn)
      clear hbn
      obtain ⟨x0, x1, x2, x3, x4⟩ := op5_facts (hS.out.has 0 _ _ rfl).1
      obtain ⟨y0, y1, y2, y3, q0, q1, q2, q3⟩ := an_facts (hS.out.has 1 _ _ rfl).1
      have hZ := ref_fin hS.out rfl ⟨1, ⟨#[]⟩, 0, ml⟩ (M0 := M0) (M := M0) (c := c0) (ms := ms) hown HLT.out (.inl ⟨rfl, HP.out⟩)
      simp only [set4, anCells] at hZ
      have HZ := Lib.hid hZ
      clear hZ hown
      go_wp2_with fail
      exact bodyPost_ret (v := .tuple #[.slice M0 ms.length c0, .agg #[.int .i64 1, .string ⟨#[]⟩, .int .u64 0, .slice As ml.length cs]]) (by simp [results, Try.results58, go_sem, *]) rfl HZ.out

end Go.Proofs.Ytggjlnjpokdfpaa
