/- The reference of layer 13: Part. -/
import Derived.Test.YtcoiadncennhpaaHRef1
import Derived.Test.YtcoiadncennhpaaHal3
namespace Go.Proofs.Ytcoiadncennhpaa
open Go.RowKit

theorem NOneF.to {P : Program} {f : FuncId} {args : Array Value} {w : World} {o o' : Nd} (h : Calls P f args w (NOneF o w)) (e : o = o') : Calls P f args w (NOneF o' w) := e ▸ h

/-- A node whose rows lie in blocks of a range. -/
structure LiesR (lo hi : Nat) (w : World) (d : Nd) (A1 A2 A3 : Option Addr) (ca cb cc : Nat) : Prop where
  lies : Lies w d A1 A2 A3 ca cb cc
  f1 : 0 < d.keys.length → ∀ a, A1 = some a → lo ≤ a.block ∧ a.block < hi
  f2 : 0 < d.vals.length → ∀ a, A2 = some a → lo ≤ a.block ∧ a.block < hi
  f3 : 0 < d.kids.length → ∀ a, A3 = some a → lo ≤ a.block ∧ a.block < hi
theorem rd_off2 {S : Nat → Prop} {w w' : World} {A : Option Addr} {n lo hi : Nat} {xs : List Value} (h : Rd w w.heap.size 1 A n xs) (ho : Off S w w') (hf : 0 < n → ∀ a, A = some a → lo ≤ a.block ∧ a.block < hi) (hs : ∀ k, S k → k < lo ∨ hi ≤ k) : Rd w' w'.heap.size 1 A n xs := by
  refine ⟨h.1, fun h0 => ?_⟩
  obtain ⟨b, off, rfl, hb, hc⟩ := h.2 h0
  have hB := hf h0 _ rfl
  simp only [] at hB
  exact ⟨b, off, rfl, Nat.lt_of_lt_of_le hb ho.size, fun j u hu => (ho.cell (p := ⟨b, off + j, none⟩) hb (fun e => by have := hs _ e; simp only [] at this; omega)).trans (hc j u hu)⟩
theorem LiesR.off {lo hi : Nat} {w w' : World} {d : Nd} {A1 A2 A3 : Option Addr} {ca cb cc : Nat} {S : Nat → Prop} (h : LiesR lo hi w d A1 A2 A3 ca cb cc) (ho : Off S w w') (hs : ∀ k, S k → k < lo ∨ hi ≤ k) : LiesR lo hi w' d A1 A2 A3 ca cb cc :=
  ⟨{ h.lies with keys := rd_off2 h.lies.keys ho h.f1 hs, vals := rd_off2 h.lies.vals ho h.f2 hs, kids := rd_off2 h.lies.kids ho h.f3 hs }, h.f1, h.f2, h.f3⟩
theorem LiesR.up {lo hi : Nat} {w w' : World} {d : Nd} {A1 A2 A3 : Option Addr} {ca cb cc : Nat} (h : LiesR lo hi w d A1 A2 A3 ca cb cc) (hb : Below w.heap.size w w') : LiesR lo hi w' d A1 A2 A3 ca cb cc := ⟨h.lies.up hb, h.f1, h.f2, h.f3⟩
theorem LiesR.of {B lo : Nat} {w : World} {d : Nd} {A1 A2 A3 : Option Addr} {ca cb cc : Nat} (h : LiesF B w d A1 A2 A3 ca cb cc) (hlo : lo ≤ B) : LiesR lo w.heap.size w d A1 A2 A3 ca cb cc := by
  refine ⟨h.lies, fun h0 a e => ⟨Nat.le_trans hlo (h.f1 h0 a e), ?_⟩, fun h0 a e => ⟨Nat.le_trans hlo (h.f2 h0 a e), ?_⟩, fun h0 a e => ⟨Nat.le_trans hlo (h.f3 h0 a e), ?_⟩⟩
  · obtain ⟨b, off, e2, hb, _⟩ := h.lies.keys.2 h0
    rw [e2] at e; injection e with e; subst e; exact hb
  · obtain ⟨b, off, e2, hb, _⟩ := h.lies.vals.2 h0
    rw [e2] at e; injection e with e; subst e; exact hb
  · obtain ⟨b, off, e2, hb, _⟩ := h.lies.kids.2 h0
    rw [e2] at e; injection e with e; subst e; exact hb
/-- The face of a node is another one. -/
theorem LiesR.face {lo hi B : Nat} {w : World} {level level' next next' : Int} {low high low' high' : ByteArray} {last last' : Bool} {keys : List ByteArray} {vals kids : List Int} {A1 A2 A3 : Option Addr} {ca cb cc : Nat} (h : LiesR lo hi w ⟨level, low, high, last, next, keys, vals, kids⟩ A1 A2 A3 ca cb cc)
    (hl : low'.size ≤ maxLen) (hh : high'.size ≤ maxLen) (hB : B ≤ lo) : LiesF B w ⟨level', low', high', last', next', keys, vals, kids⟩ A1 A2 A3 ca cb cc :=
  ⟨{ keys := h.lies.keys, vals := h.lies.vals, kids := h.lies.kids, ka := h.lies.ka, kb := h.lies.kb, kc := h.lies.kc, la := h.lies.la, lb := h.lies.lb, lc := h.lies.lc, low := hl, high := hh, fit := h.lies.fit },
    fun h0 a e => Nat.le_trans hB (h.f1 h0 a e).1, fun h0 a e => Nat.le_trans hB (h.f2 h0 a e).1, fun h0 a e => Nat.le_trans hB (h.f3 h0 a e).1⟩

/-- A node that can be parted. -/
structure PartP (d : Nd) : Prop where
  two : 2 ≤ d.keys.length
  len : d.keys.length ≤ 1000
  rest : (d.level = 0 ∧ d.vals.length = d.keys.length ∧ d.kids.length = 0) ∨ (0 < d.level ∧ d.kids.length = d.keys.length ∧ d.vals.length = 0)
theorem entL {d : Nd} (h : PartP d) : entN d 0 (cutN d.keys.length) = ⟨d.level, d.low, d.high, d.last, d.next, d.keys.take (cutN d.keys.length), d.vals.take (cutN d.keys.length), d.kids.take (cutN d.keys.length)⟩ := by
  unfold entN
  rcases h.rest with ⟨e, _, h0⟩ | ⟨e, _, h0⟩
  · rw [if_pos e, if_pos e, seg_left, seg_left, List.eq_nil_of_length_eq_zero h0, List.take_nil]
  · rw [if_neg (by omega), if_neg (by omega), seg_left, seg_left, List.eq_nil_of_length_eq_zero h0, List.take_nil]
theorem entR {d : Nd} (h : PartP d) : entN d (cutN d.keys.length) d.keys.length = ⟨d.level, d.low, d.high, d.last, d.next, d.keys.drop (cutN d.keys.length), d.vals.drop (cutN d.keys.length), d.kids.drop (cutN d.keys.length)⟩ := by
  unfold entN
  rcases h.rest with ⟨e, e2, h0⟩ | ⟨e, e2, h0⟩
  · rw [if_pos e, if_pos e, seg_right _ _ _ (Nat.le_refl _), seg_right _ _ _ (by omega), List.eq_nil_of_length_eq_zero h0, List.drop_nil]
  · rw [if_neg (by omega), if_neg (by omega), seg_right _ _ _ (Nat.le_refl _), seg_right _ _ _ (by omega), List.eq_nil_of_length_eq_zero h0, List.drop_nil]
theorem refent_any (d : Nd) (p q : Nat) (A B C : Option Addr) (ca cb cc : Nat) (w : World) (h : Lies w d A B C ca cb cc) (hp : PartP d) (hpq : p ≤ q) (hq : q ≤ d.keys.length) :
    Calls Try.prog 132 #[.agg (ndCells d A B C ca cb cc), .int .i64 (p : Int), .int .i64 (q : Int)] w (NOneF (entN d p q) w) := by
  rcases hp.rest with ⟨e, e2, _⟩ | ⟨e, e2, _⟩
  · exact refent_leaf d p q A B C ca cb cc w h e e2 hpq hq hp.len
  · exact refent_up d p q A B C ca cb cc w h (by omega) e2 hpq hq hp.len
theorem Sx.bot {B : Nat} {W0 W : World} {L : List (Nat × Obj)} (h : Sx B W0 W L) (n : Nat) : Sx B W0 W (L.drop n) := by
  refine ⟨h.below, h.le, fun i g o hi => ?_, fun i j p q hij hi hj => ?_⟩
  · rw [List.getElem?_drop] at hi
    exact h.has _ g o hi
  · rw [List.getElem?_drop] at hi hj
    exact h.ne _ _ p q (by omega) hi hj
theorem cut_cast (m : Nat) : ((cutN m : Nat) : Int) = (m : Int) - (m : Int) / 2 := by unfold cutN; omega

set_option maxRecDepth 100000 in
set_option maxHeartbeats 16000000 in
theorem refpart_any (d : Nd) (cell : Int) (A B C : Option Addr) (ca cb cc : Nat) (w : World) (h : Lies w d A B C ca cb cc) (hp : PartP d) :
    Calls Try.prog 106 #[.agg (ndCells d A B C ca cb cc), .int .i64 cell] w (PRet (partL d cell, partR d) w) := by
  have hS := Lib.hid (Sx.start3b w (.cells (ndCells d A B C ca cb cc) 26) (.cells #[.int .i64 0, .string ⟨#[]⟩, .string ⟨#[]⟩, .bool false, .int .i64 0, .slice none 0 0, .slice none 0 0, .slice none 0 0] 26) (.cells #[.int .i64 0, .string ⟨#[]⟩, .string ⟨#[]⟩, .bool false, .int .i64 0, .slice none 0 0, .slice none 0 0, .slice none 0 0] 26))
  have H00 := Lib.hid h
  have HEL := Lib.hid (fun W hW => NOneF.to (refent_any d 0 (cutN d.keys.length) A B C ca cb cc W hW hp (Nat.zero_le _) (cutN_le _)) (entL hp))
  have HER := Lib.hid (fun W hW => NOneF.to (refent_any d (cutN d.keys.length) d.keys.length A B C ca cb cc W hW hp (cutN_le _) (Nat.le_refl _)) (entR hp))
  have hpl : partL d cell = ⟨d.level, d.low, bordS d, false, cell, d.keys.take (cutN d.keys.length), d.vals.take (cutN d.keys.length), d.kids.take (cutN d.keys.length)⟩ := rfl
  have hpr : partR d = ⟨d.level, bordS d, d.high, d.last, d.next, d.keys.drop (cutN d.keys.length), d.vals.drop (cutN d.keys.length), d.kids.drop (cutN d.keys.length)⟩ := rfl
  have hbs := bord_parts hp.two
  have hcm := cutN_mid hp.two
  have hlen := hp.len
  have hlev : d.level = 0 ∨ 0 < d.level := by rcases hp.rest with ⟨e, _⟩ | ⟨e, _⟩ <;> simp [e]
  have f1 : Fits (d.keys.take (cutN d.keys.length)) := fits_sub h.fit (fun s hs => List.mem_of_mem_take hs)
  have f2 : Fits (d.keys.drop (cutN d.keys.length)) := fits_sub h.fit (fun s hs => List.mem_of_mem_drop hs)
  have p1 : 0 < (d.keys.take (cutN d.keys.length)).length := by rw [List.length_take]; omega
  have p2 : 0 < (d.keys.drop (cutN d.keys.length)).length := by rw [List.length_drop]; omega
  have q1 : (d.keys.take (cutN d.keys.length)).length ≤ 1000 := by rw [List.length_take]; omega
  have q2 : (d.keys.drop (cutN d.keys.length)).length ≤ 1000 := by rw [List.length_drop]; omega
  have hlo := h.low
  have hhi := h.high
  rw [cut_cast, show ((0 : Nat) : Int) = 0 from rfl] at HEL
  rw [cut_cast] at HER
  generalize partL d cell = pl at hpl ⊢
  generalize partR d = pr at hpr ⊢
  generalize bordS d = bs at hpl hpr hbs
  generalize d.keys.take (cutN d.keys.length) = KL at HEL hpl hbs f1 p1 q1
  generalize d.keys.drop (cutN d.keys.length) = KR at HER hpr hbs f2 p2 q2
  generalize d.vals.take (cutN d.keys.length) = VL at HEL hpl
  generalize d.vals.drop (cutN d.keys.length) = VR at HER hpr
  generalize d.kids.take (cutN d.keys.length) = CL at HEL hpl
  generalize d.kids.drop (cutN d.keys.length) = CR at HER hpr
  have hbz : bs.size ≤ maxLen := by
    rw [hbs]
    refine brd_size _ _ _ ?_
    rw [getD_at _ _ _ p2]
    exact f2 0 p2
  have HW := Lib.hid (And.intro f1 (And.intro f2 (And.intro p1 (And.intro p2 (And.intro q1 (And.intro q2 (And.intro hlo (And.intro hhi hbz))))))))
  have HBS := Lib.hid hbs
  obtain ⟨level, low, high, last, next, keys, vals, kids⟩ := d
  simp only [] at HEL HER HW HBS hpl hpr hlev hlen
  have HPL := Lib.hid (And.intro hpl hpr)
  clear h f1 f2 p1 p2 q1 q2 hlo hhi hbz hbs hcm hp hpl hpr
  simp only [ndCells] at hS HEL HER ⊢
  go_enter Try.func106, Try.ntmps106
  go_upto_region 1 with fail
  generalize ((w.alloc _).alloc _).alloc _ = W at hS ⊢
  obtain ⟨x0, x1, x2, x3, x4, x5, x6, x7, f0, f1, f2, f3, f4, f5, f6, f7⟩ := nd_facts (hS.out.has 0 _ _ rfl).1
  go_wp2_with fail
  refine (HEL.out _ (H00.out.up hS.out.below)).mono ?_
  rintro e Y1 ⟨A1, B1, C1, ca1, cb1, cc1, rfl, hl1, hb⟩
  clear x0 x1 x2 x3 x4 x5 x6 x7 f0 f1 f2 f3 f4 f5 f6 f7
  have HGA := Lib.hid (show w.heap.size + 3 ≤ Y1.heap.size from Nat.le_trans (by have := hS.out.lt (i := 2) rfl; omega) hb.size)
  have hr := (LiesR.of hl1 (show w.heap.size + 3 ≤ W.heap.size by have := hS.out.lt (i := 2) rfl; omega)).up (below_alloc Y1 (.cells #[.int .i64 level, .string low, .string high, .bool last, .int .i64 next, .slice A1 KL.length ca1, .slice B1 VL.length cb1, .slice C1 CL.length cc1] 26))
  replace hS := Lib.hid ((hS.out.call hb).alloc (.cells #[.int .i64 level, .string low, .string high, .bool last, .int .i64 next, .slice A1 KL.length ca1, .slice B1 VL.length cb1, .slice C1 CL.length cc1] 26))
  have HR1 := Lib.hid hr
  clear hr hl1 hb HEL
  simp only [List.cons_append, List.nil_append, ndCells] at hS ⊢
  go_upto_region 3 with fail
  generalize Y1.alloc _ = Z1 at hS HR1 ⊢
  generalize Y1.heap.size = g1 at hS HR1 HGA ⊢
  obtain ⟨x0, x1, x2, x3, x4, x5, x6, x7, f0, f1, f2, f3, f4, f5, f6, f7⟩ := nd_facts (hS.out.has 0 _ _ rfl).1
  go_wp2_with fail
  refine (HER.out _ (H00.out.up hS.out.below)).mono ?_
  rintro e Y2 ⟨A2, B2, C2, ca2, cb2, cc2, rfl, hl2, hb⟩
  clear x0 x1 x2 x3 x4 x5 x6 x7 f0 f1 f2 f3 f4 f5 f6 f7
  have HGB := Lib.hid (show g1 + 1 ≤ Y2.heap.size from Nat.le_trans (by have := hS.out.lt (i := 3) rfl; omega) hb.size)
  have hr := (LiesR.of hl2 (show g1 + 1 ≤ Z1.heap.size by have := hS.out.lt (i := 3) rfl; omega)).up (below_alloc Y2 (.cells #[.int .i64 level, .string low, .string high, .bool last, .int .i64 next, .slice A2 KR.length ca2, .slice B2 VR.length cb2, .slice C2 CR.length cc2] 26))
  have hr2 := (HR1.out.up hb).up (below_alloc Y2 (.cells #[.int .i64 level, .string low, .string high, .bool last, .int .i64 next, .slice A2 KR.length ca2, .slice B2 VR.length cb2, .slice C2 CR.length cc2] 26))
  replace hS := Lib.hid ((hS.out.call hb).alloc (.cells #[.int .i64 level, .string low, .string high, .bool last, .int .i64 next, .slice A2 KR.length ca2, .slice B2 VR.length cb2, .slice C2 CR.length cc2] 26))
  have HR2 := Lib.hid hr
  replace HR1 := Lib.hid hr2
  clear hr hr2 hl2 hb HER
  simp only [List.cons_append, List.nil_append, ndCells] at hS ⊢
  go_upto_region 4 with fail
  generalize Y2.alloc _ = W at hS HR1 HR2 ⊢
  generalize Y2.heap.size = g2 at hS HR2 HGB ⊢
  have hk1 : RdS W A1 KL.length KL := HR1.out.lies.keys
  have hk2 : RdS W A2 KR.length KR := HR2.out.lies.keys
  obtain ⟨b1, o1, rfl, hb1, hc1⟩ := hk1.spot HW.out.2.2.1
  obtain ⟨b2, o2, rfl, hb2, hc2⟩ := hk2.spot HW.out.2.2.2.1
  have p1 := HW.out.2.2.1
  have p2 := HW.out.2.2.2.1
  have d1 := hc1 (KL.length - 1) (by omega)
  have d2 := hc2 0 p2
  have hbs := HBS.out
  rw [getD_at _ _ _ (show KL.length - 1 < KL.length by omega), getD_at _ _ _ p2] at hbs
  have s1 := HW.out.1 (KL.length - 1) (by omega)
  have s2 := HW.out.2.1 0 p2
  rw [Nat.add_zero] at d2
  generalize KL[KL.length - 1] = x at d1 s1 hbs
  generalize KR[0] = y at d2 s2 hbs
  have HP := Lib.hid (fun W => refparting_any x y W s1 s2)
  have p2i : (0 : Int) < (KR.length : Int) := by omega
  have hw : IntKind.i64.wrap ((KL.length : Int) - 1) = ((KL.length - 1 : Nat) : Int) := by
    have := HW.out.2.2.2.2.1
    rw [IntWalk.i64_in _ (by omega)]; omega
  have hq2 : ((KL.length - 1 : Nat) : Int) < (KL.length : Int) := by omega
  generalize hq : KL.length - 1 = q at d1 hw hq2
  clear hq
  have HB1 := Lib.hid (And.intro hb1 d1)
  have HB2 := Lib.hid (And.intro hb2 d2)
  clear hk1 hk2 hc1 hc2 p1 d1 s1 s2 HBS
  have z5 := (nd_facts (hS.out.has 4 _ _ rfl).1).2.2.2.2.2.1
  obtain ⟨x0, x1, x2, x3, x4, x5, x6, x7, f0, f1, f2, f3, f4, f5, f6, f7⟩ := nd_facts (hS.out.has 0 _ _ rfl).1
  go_upto_if 32 with fail
  clear x0 x1 x2 x3 x4 x5 x6 x7 f0 f1 f2 f3 f4 f5 f6 f7
  go_cut [9] (fun s9 wx => s9 = .string bs ∧ Hid (Below W.heap.size W wx))
  case first =>
    rcases hlev with hl | hl
    · subst hl
      have hbp : bs = (prt x y).1 := hbs.trans (brd_leaf _ _ (by omega))
      clear hbs z5 d2
      generalize (prt x y).1 = pa at HP hbp
      generalize (prt x y).2 = pb at HP
      subst hbp
      go_upto_region 6 with fail
      refine wp_region_held_drew (S := fun w' => Below W.heap.size W w') (by kernel_rfl) (Below.drew (Below.refl _ _)) (fun hcur => ?_)
      replace hcur : Below W.heap.size W W.drew := hcur
      refine wpAnyH_take (i := 0) (v := ?_) rfl (by decide +kernel) (by decide +kernel) (by decide +kernel) (fun _ _ _ h => h) (Or.inl ⟨by rfl, ?hy⟩) hcur ?_
      case hy =>
        intro w1 hSw
        replace hSw : Below W.heap.size W w1 := hSw
        obtain ⟨y0, y1, y2, y3, y4, y5, y6, y7, -, -, -, -, -, -, -, -⟩ := nd_facts ((hS.out.call hSw).has 3 _ _ rfl).1
        obtain ⟨z0, z1, z2, z3, z4, z5, z6, z7, -, -, -, -, -, -, -, -⟩ := nd_facts ((hS.out.call hSw).has 4 _ _ rfl).1
        have c3 := (hSw.cell (p := ⟨b1, o1 + q, none⟩) HB1.out.1).trans HB1.out.2
        have c4 := (hSw.cell (p := ⟨b2, o2, none⟩) HB2.out.1).trans HB2.out.2
        go_simp
        (try with_reducible rfl)
      (try simp only [Act.put, List.getElem_toArray, List.getElem_cons_zero, List.getElem_cons_succ, List.setIfInBounds_toArray, List.set_cons_zero, List.set_cons_succ])
      refine wpAnyH_take (i := 1) (v := ?_) rfl (by decide +kernel) (by decide +kernel) (by decide +kernel) (fun _ _ _ h => h) (Or.inl ⟨by rfl, ?hy⟩) hcur ?_
      case hy =>
        intro w1 hSw
        replace hSw : Below W.heap.size W w1 := hSw
        obtain ⟨y0, y1, y2, y3, y4, y5, y6, y7, -, -, -, -, -, -, -, -⟩ := nd_facts ((hS.out.call hSw).has 3 _ _ rfl).1
        obtain ⟨z0, z1, z2, z3, z4, z5, z6, z7, -, -, -, -, -, -, -, -⟩ := nd_facts ((hS.out.call hSw).has 4 _ _ rfl).1
        have c3 := (hSw.cell (p := ⟨b1, o1 + q, none⟩) HB1.out.1).trans HB1.out.2
        have c4 := (hSw.cell (p := ⟨b2, o2, none⟩) HB2.out.1).trans HB2.out.2
        go_simp
        (try with_reducible rfl)
      (try simp only [Act.put, List.getElem_toArray, List.getElem_cons_zero, List.getElem_cons_succ, List.setIfInBounds_toArray, List.set_cons_zero, List.set_cons_succ])
      refine wpAnyH_take (i := 2) (v := ?_) rfl (by decide +kernel) (by decide +kernel) (by decide +kernel) (fun _ _ _ h => h) (Or.inl ⟨by rfl, ?hy⟩) hcur ?_
      case hy =>
        intro w1 hSw
        replace hSw : Below W.heap.size W w1 := hSw
        obtain ⟨y0, y1, y2, y3, y4, y5, y6, y7, -, -, -, -, -, -, -, -⟩ := nd_facts ((hS.out.call hSw).has 3 _ _ rfl).1
        obtain ⟨z0, z1, z2, z3, z4, z5, z6, z7, -, -, -, -, -, -, -, -⟩ := nd_facts ((hS.out.call hSw).has 4 _ _ rfl).1
        have c3 := (hSw.cell (p := ⟨b1, o1 + q, none⟩) HB1.out.1).trans HB1.out.2
        have c4 := (hSw.cell (p := ⟨b2, o2, none⟩) HB2.out.1).trans HB2.out.2
        go_simp
        (try with_reducible rfl)
      (try simp only [Act.put, List.getElem_toArray, List.getElem_cons_zero, List.getElem_cons_succ, List.setIfInBounds_toArray, List.set_cons_zero, List.set_cons_succ])
      refine wpAnyH_take (i := 3) (v := ?_) rfl (by decide +kernel) (by decide +kernel) (by decide +kernel) (fun _ _ _ h => h) (Or.inl ⟨by rfl, ?hy⟩) hcur ?_
      case hy =>
        intro w1 hSw
        replace hSw : Below W.heap.size W w1 := hSw
        obtain ⟨y0, y1, y2, y3, y4, y5, y6, y7, -, -, -, -, -, -, -, -⟩ := nd_facts ((hS.out.call hSw).has 3 _ _ rfl).1
        obtain ⟨z0, z1, z2, z3, z4, z5, z6, z7, -, -, -, -, -, -, -, -⟩ := nd_facts ((hS.out.call hSw).has 4 _ _ rfl).1
        have c3 := (hSw.cell (p := ⟨b1, o1 + q, none⟩) HB1.out.1).trans HB1.out.2
        have c4 := (hSw.cell (p := ⟨b2, o2, none⟩) HB2.out.1).trans HB2.out.2
        go_simp
        (try with_reducible rfl)
      (try simp only [Act.put, List.getElem_toArray, List.getElem_cons_zero, List.getElem_cons_succ, List.setIfInBounds_toArray, List.set_cons_zero, List.set_cons_succ])
      refine wpAnyH_take (i := 4) (v := ?_) rfl (by decide +kernel) (by decide +kernel) (by decide +kernel) (fun _ _ _ h => h) (Or.inl ⟨by rfl, ?hy⟩) hcur ?_
      case hy =>
        intro w1 hSw
        replace hSw : Below W.heap.size W w1 := hSw
        obtain ⟨y0, y1, y2, y3, y4, y5, y6, y7, -, -, -, -, -, -, -, -⟩ := nd_facts ((hS.out.call hSw).has 3 _ _ rfl).1
        obtain ⟨z0, z1, z2, z3, z4, z5, z6, z7, -, -, -, -, -, -, -, -⟩ := nd_facts ((hS.out.call hSw).has 4 _ _ rfl).1
        have c3 := (hSw.cell (p := ⟨b1, o1 + q, none⟩) HB1.out.1).trans HB1.out.2
        have c4 := (hSw.cell (p := ⟨b2, o2, none⟩) HB2.out.1).trans HB2.out.2
        go_simp
        (try with_reducible rfl)
      (try simp only [Act.put, List.getElem_toArray, List.getElem_cons_zero, List.getElem_cons_succ, List.setIfInBounds_toArray, List.set_cons_zero, List.set_cons_succ])
      refine wpAnyH_take (i := 5) (v := .int .i64 (q : Int)) rfl (by decide +kernel) (by decide +kernel) (by decide +kernel) (fun _ _ _ h => h) (Or.inl ⟨by rfl, ?hy⟩) hcur ?_
      case hy =>
        intro w1 hSw
        replace hSw : Below W.heap.size W w1 := hSw
        obtain ⟨y0, y1, y2, y3, y4, y5, y6, y7, -, -, -, -, -, -, -, -⟩ := nd_facts ((hS.out.call hSw).has 3 _ _ rfl).1
        obtain ⟨z0, z1, z2, z3, z4, z5, z6, z7, -, -, -, -, -, -, -, -⟩ := nd_facts ((hS.out.call hSw).has 4 _ _ rfl).1
        have c3 := (hSw.cell (p := ⟨b1, o1 + q, none⟩) HB1.out.1).trans HB1.out.2
        have c4 := (hSw.cell (p := ⟨b2, o2, none⟩) HB2.out.1).trans HB2.out.2
        go_simp
        skip
      (try simp only [Act.put, List.getElem_toArray, List.getElem_cons_zero, List.getElem_cons_succ, List.setIfInBounds_toArray, List.set_cons_zero, List.set_cons_succ])
      refine wpAnyH_take (i := 6) (v := ?_) rfl (by decide +kernel) (by decide +kernel) (by decide +kernel) (fun _ _ _ h => h) (Or.inl ⟨by rfl, ?hy⟩) hcur ?_
      case hy =>
        intro w1 hSw
        replace hSw : Below W.heap.size W w1 := hSw
        obtain ⟨y0, y1, y2, y3, y4, y5, y6, y7, -, -, -, -, -, -, -, -⟩ := nd_facts ((hS.out.call hSw).has 3 _ _ rfl).1
        obtain ⟨z0, z1, z2, z3, z4, z5, z6, z7, -, -, -, -, -, -, -, -⟩ := nd_facts ((hS.out.call hSw).has 4 _ _ rfl).1
        have c3 := (hSw.cell (p := ⟨b1, o1 + q, none⟩) HB1.out.1).trans HB1.out.2
        have c4 := (hSw.cell (p := ⟨b2, o2, none⟩) HB2.out.1).trans HB2.out.2
        go_simp
        (try with_reducible rfl)
      (try simp only [Act.put, List.getElem_toArray, List.getElem_cons_zero, List.getElem_cons_succ, List.setIfInBounds_toArray, List.set_cons_zero, List.set_cons_succ])
      refine wpAnyH_take (i := 7) (v := ?_) rfl (by decide +kernel) (by decide +kernel) (by decide +kernel) (fun _ _ _ h => h) (Or.inl ⟨by rfl, ?hy⟩) hcur ?_
      case hy =>
        intro w1 hSw
        replace hSw : Below W.heap.size W w1 := hSw
        obtain ⟨y0, y1, y2, y3, y4, y5, y6, y7, -, -, -, -, -, -, -, -⟩ := nd_facts ((hS.out.call hSw).has 3 _ _ rfl).1
        obtain ⟨z0, z1, z2, z3, z4, z5, z6, z7, -, -, -, -, -, -, -, -⟩ := nd_facts ((hS.out.call hSw).has 4 _ _ rfl).1
        have c3 := (hSw.cell (p := ⟨b1, o1 + q, none⟩) HB1.out.1).trans HB1.out.2
        have c4 := (hSw.cell (p := ⟨b2, o2, none⟩) HB2.out.1).trans HB2.out.2
        go_simp
        (try with_reducible rfl)
      (try simp only [Act.put, List.getElem_toArray, List.getElem_cons_zero, List.getElem_cons_succ, List.setIfInBounds_toArray, List.set_cons_zero, List.set_cons_succ])
      refine wpAnyH_take (i := 8) (v := ?_) rfl (by decide +kernel) (by decide +kernel) (by decide +kernel) (fun _ _ _ h => h) (Or.inl ⟨by rfl, ?hy⟩) hcur ?_
      case hy =>
        intro w1 hSw
        replace hSw : Below W.heap.size W w1 := hSw
        obtain ⟨y0, y1, y2, y3, y4, y5, y6, y7, -, -, -, -, -, -, -, -⟩ := nd_facts ((hS.out.call hSw).has 3 _ _ rfl).1
        obtain ⟨z0, z1, z2, z3, z4, z5, z6, z7, -, -, -, -, -, -, -, -⟩ := nd_facts ((hS.out.call hSw).has 4 _ _ rfl).1
        have c3 := (hSw.cell (p := ⟨b1, o1 + q, none⟩) HB1.out.1).trans HB1.out.2
        have c4 := (hSw.cell (p := ⟨b2, o2, none⟩) HB2.out.1).trans HB2.out.2
        go_simp
        (try with_reducible rfl)
      (try simp only [Act.put, List.getElem_toArray, List.getElem_cons_zero, List.getElem_cons_succ, List.setIfInBounds_toArray, List.set_cons_zero, List.set_cons_succ])
      refine wpAnyH_take (i := 9) (v := ?_) rfl (by decide +kernel) (by decide +kernel) (by decide +kernel) (fun _ _ _ h => h) (Or.inl ⟨by rfl, ?hy⟩) hcur ?_
      case hy =>
        intro w1 hSw
        replace hSw : Below W.heap.size W w1 := hSw
        obtain ⟨y0, y1, y2, y3, y4, y5, y6, y7, -, -, -, -, -, -, -, -⟩ := nd_facts ((hS.out.call hSw).has 3 _ _ rfl).1
        obtain ⟨z0, z1, z2, z3, z4, z5, z6, z7, -, -, -, -, -, -, -, -⟩ := nd_facts ((hS.out.call hSw).has 4 _ _ rfl).1
        have c3 := (hSw.cell (p := ⟨b1, o1 + q, none⟩) HB1.out.1).trans HB1.out.2
        have c4 := (hSw.cell (p := ⟨b2, o2, none⟩) HB2.out.1).trans HB2.out.2
        go_simp
        (try with_reducible rfl)
      (try simp only [Act.put, List.getElem_toArray, List.getElem_cons_zero, List.getElem_cons_succ, List.setIfInBounds_toArray, List.set_cons_zero, List.set_cons_succ])
      refine wpAnyH_take (i := 10) (v := ?_) rfl (by decide +kernel) (by decide +kernel) (by decide +kernel) (fun _ _ _ h => h) (Or.inl ⟨by rfl, ?hy⟩) hcur ?_
      case hy =>
        intro w1 hSw
        replace hSw : Below W.heap.size W w1 := hSw
        obtain ⟨y0, y1, y2, y3, y4, y5, y6, y7, -, -, -, -, -, -, -, -⟩ := nd_facts ((hS.out.call hSw).has 3 _ _ rfl).1
        obtain ⟨z0, z1, z2, z3, z4, z5, z6, z7, -, -, -, -, -, -, -, -⟩ := nd_facts ((hS.out.call hSw).has 4 _ _ rfl).1
        have c3 := (hSw.cell (p := ⟨b1, o1 + q, none⟩) HB1.out.1).trans HB1.out.2
        have c4 := (hSw.cell (p := ⟨b2, o2, none⟩) HB2.out.1).trans HB2.out.2
        go_simp
        (try with_reducible rfl)
      (try simp only [Act.put, List.getElem_toArray, List.getElem_cons_zero, List.getElem_cons_succ, List.setIfInBounds_toArray, List.set_cons_zero, List.set_cons_succ])
      refine wpAnyH_take (i := 11) (v := ?_) rfl (by decide +kernel) (by decide +kernel) (by decide +kernel) (fun _ _ _ h => h) (Or.inl ⟨by rfl, ?hy⟩) hcur ?_
      case hy =>
        intro w1 hSw
        replace hSw : Below W.heap.size W w1 := hSw
        obtain ⟨y0, y1, y2, y3, y4, y5, y6, y7, -, -, -, -, -, -, -, -⟩ := nd_facts ((hS.out.call hSw).has 3 _ _ rfl).1
        obtain ⟨z0, z1, z2, z3, z4, z5, z6, z7, -, -, -, -, -, -, -, -⟩ := nd_facts ((hS.out.call hSw).has 4 _ _ rfl).1
        have c3 := (hSw.cell (p := ⟨b1, o1 + q, none⟩) HB1.out.1).trans HB1.out.2
        have c4 := (hSw.cell (p := ⟨b2, o2, none⟩) HB2.out.1).trans HB2.out.2
        go_simp
        (try with_reducible rfl)
      (try simp only [Act.put, List.getElem_toArray, List.getElem_cons_zero, List.getElem_cons_succ, List.setIfInBounds_toArray, List.set_cons_zero, List.set_cons_succ])
      refine wpAnyH_ready (rs := [12]) (by decide +kernel) (by simp) ?_
      refine AllReadyH.cons rfl (fun K hK => ?_) AllReadyH.nil
      go_simp
      refine (HP.out _).mono ?_
      rintro e wn ⟨rfl, hbn⟩
      go_wp2_with fail
      refine hK.out _ _ (below_of hcur hbn) (fun _ => ?_)
      clear hK K
      replace hcur := below_of hcur hbn
      clear hbn
      (try simp only [Act.put, List.getElem_toArray, List.getElem_cons_zero, List.getElem_cons_succ, List.setIfInBounds_toArray, List.set_cons_zero, List.set_cons_succ])
      refine wpAnyH_take (i := 13) (v := ?_) rfl (by decide +kernel) (by decide +kernel) (by decide +kernel) (fun _ _ _ h => h) (Or.inl ⟨by rfl, ?hy⟩) hcur ?_
      case hy =>
        intro w1 hSw
        replace hSw : Below W.heap.size W w1 := hSw
        obtain ⟨y0, y1, y2, y3, y4, y5, y6, y7, -, -, -, -, -, -, -, -⟩ := nd_facts ((hS.out.call hSw).has 3 _ _ rfl).1
        obtain ⟨z0, z1, z2, z3, z4, z5, z6, z7, -, -, -, -, -, -, -, -⟩ := nd_facts ((hS.out.call hSw).has 4 _ _ rfl).1
        have c3 := (hSw.cell (p := ⟨b1, o1 + q, none⟩) HB1.out.1).trans HB1.out.2
        have c4 := (hSw.cell (p := ⟨b2, o2, none⟩) HB2.out.1).trans HB2.out.2
        go_simp
        (try with_reducible rfl)
      (try simp only [Act.put, List.getElem_toArray, List.getElem_cons_zero, List.getElem_cons_succ, List.setIfInBounds_toArray, List.set_cons_zero, List.set_cons_succ])
      refine wpAnyH_take (i := 14) (v := ?_) rfl (by decide +kernel) (by decide +kernel) (by decide +kernel) (fun _ _ _ h => h) (Or.inl ⟨by rfl, ?hy⟩) hcur ?_
      case hy =>
        intro w1 hSw
        replace hSw : Below W.heap.size W w1 := hSw
        obtain ⟨y0, y1, y2, y3, y4, y5, y6, y7, -, -, -, -, -, -, -, -⟩ := nd_facts ((hS.out.call hSw).has 3 _ _ rfl).1
        obtain ⟨z0, z1, z2, z3, z4, z5, z6, z7, -, -, -, -, -, -, -, -⟩ := nd_facts ((hS.out.call hSw).has 4 _ _ rfl).1
        have c3 := (hSw.cell (p := ⟨b1, o1 + q, none⟩) HB1.out.1).trans HB1.out.2
        have c4 := (hSw.cell (p := ⟨b2, o2, none⟩) HB2.out.1).trans HB2.out.2
        go_simp
        (try with_reducible rfl)
      (try simp only [Act.put, List.getElem_toArray, List.getElem_cons_zero, List.getElem_cons_succ, List.setIfInBounds_toArray, List.set_cons_zero, List.set_cons_succ])
      refine wpAnyH_take (i := 15) (v := ?_) rfl (by decide +kernel) (by decide +kernel) (by decide +kernel) (fun _ _ _ h => h) (Or.inl ⟨by rfl, ?hy⟩) hcur ?_
      case hy =>
        intro w1 hSw
        replace hSw : Below W.heap.size W w1 := hSw
        obtain ⟨y0, y1, y2, y3, y4, y5, y6, y7, -, -, -, -, -, -, -, -⟩ := nd_facts ((hS.out.call hSw).has 3 _ _ rfl).1
        obtain ⟨z0, z1, z2, z3, z4, z5, z6, z7, -, -, -, -, -, -, -, -⟩ := nd_facts ((hS.out.call hSw).has 4 _ _ rfl).1
        have c3 := (hSw.cell (p := ⟨b1, o1 + q, none⟩) HB1.out.1).trans HB1.out.2
        have c4 := (hSw.cell (p := ⟨b2, o2, none⟩) HB2.out.1).trans HB2.out.2
        go_simp
        (try with_reducible rfl)
      (try simp only [Act.put, List.getElem_toArray, List.getElem_cons_zero, List.getElem_cons_succ, List.setIfInBounds_toArray, List.set_cons_zero, List.set_cons_succ])
      refine wpAnyH_take (i := 16) (v := ?_) rfl (by decide +kernel) (by decide +kernel) (by decide +kernel) (fun _ _ _ h => h) (Or.inl ⟨by rfl, ?hy⟩) hcur ?_
      case hy =>
        intro w1 hSw
        replace hSw : Below W.heap.size W w1 := hSw
        obtain ⟨y0, y1, y2, y3, y4, y5, y6, y7, -, -, -, -, -, -, -, -⟩ := nd_facts ((hS.out.call hSw).has 3 _ _ rfl).1
        obtain ⟨z0, z1, z2, z3, z4, z5, z6, z7, -, -, -, -, -, -, -, -⟩ := nd_facts ((hS.out.call hSw).has 4 _ _ rfl).1
        have c3 := (hSw.cell (p := ⟨b1, o1 + q, none⟩) HB1.out.1).trans HB1.out.2
        have c4 := (hSw.cell (p := ⟨b2, o2, none⟩) HB2.out.1).trans HB2.out.2
        go_simp
        (try with_reducible rfl)
      (try simp only [Act.put, List.getElem_toArray, List.getElem_cons_zero, List.getElem_cons_succ, List.setIfInBounds_toArray, List.set_cons_zero, List.set_cons_succ])
      refine wpAnyH_done (by decide +kernel) ?_ _
      go_wp2_with fail
      go_meet
      exact ⟨rfl, Lib.hid hcur⟩
    · have hbp : bs = y := hbs.trans (brd_up _ _ hl)
      have hlb : (level == (0 : Int)) = false := by rw [beq_eq_false_iff_ne]; omega
      clear hbs hl
      subst hbp
      go_wp2_with fail
      go_meet
      exact ⟨rfl, Lib.hid (Below.refl _ _)⟩
  case rest =>
    obtain ⟨rfl, HX⟩ := hcut
    clear z5 d2 hbs HP hw hq2 p2i
    replace hS := Lib.hid (hS.out.call HX.out)
    replace HR1 := Lib.hid (HR1.out.up HX.out)
    replace HR2 := Lib.hid (HR2.out.up HX.out)
    clear HX HB1 HB2
    obtain ⟨x0, x1, x2, x3, x4, x5, x6, x7, f0, f1, f2, f3, f4, f5, f6, f7⟩ := nd_facts (hS.out.has 3 _ _ rfl).1
    obtain ⟨y0, y1, y2, y3, y4, y5, y6, y7, q0, q1, q2, q3, q4, q5, q6, q7⟩ := nd_facts (hS.out.has 4 _ _ rfl).1
    go_upto_region 11 with fail
    clear x0 x1 x2 x3 x4 x5 x6 x7 f0 f1 f2 f3 f4 f5 f6 f7
    clear y0 y1 y2 y3 y4 y5 y6 y7 q0 q1 q2 q3 q4 q5 q6 q7
    have hof : ∀ wx : World, Off (fun k => k = g1 ∨ k = g2) wx ((((wx.setCell ⟨g2, 1, none⟩ (.string bs)).setCell ⟨g1, 2, none⟩ (.string bs)).setCell ⟨g1, 3, none⟩ (.bool false)).setCell ⟨g1, 4, none⟩ (.int .i64 cell)) := fun wx =>
      ((((Off.of_setCell wx ⟨g2, 1, none⟩ (.string bs)).mono (fun _ _ e => .inr e)).trans (Off.of_setCell _ ⟨g1, 2, none⟩ (.string bs)) (fun _ _ e => .inl e)).trans (Off.of_setCell _ ⟨g1, 3, none⟩ (.bool false)) (fun _ _ e => .inl e)).trans (Off.of_setCell _ ⟨g1, 4, none⟩ (.int .i64 cell)) (fun _ _ e => .inl e)
    replace HR1 := Lib.hid (HR1.out.off (hof _) (fun k q => by have := HGA.out; have := HGB.out; omega))
    replace HR2 := Lib.hid (HR2.out.off (hof _) (fun k q => by have := HGA.out; have := HGB.out; omega))
    replace hS := Lib.hid ((((hS.out.setc 4 rfl 1 (.string bs)).setc 3 rfl 2 (.string bs)).setc 3 rfl 3 (.bool false)).setc 3 rfl 4 (.int .i64 cell))
    clear hof
    simp only [List.cons_append, List.nil_append, List.set_cons_zero, List.set_cons_succ] at hS
    generalize (((World.setCell _ _ _).setCell _ _).setCell _ _).setCell _ _ = W6 at hS HR1 HR2 ⊢
    have hd := Below.drew (Below.refl W6.heap.size W6)
    replace hS := Lib.hid (hS.out.call hd)
    replace HR1 := Lib.hid (HR1.out.up hd)
    replace HR2 := Lib.hid (HR2.out.up hd)
    clear hd
    refine wp_region_held_drew (S := fun w' => Sx w.heap.size w w' [(g1, .cells #[.int .i64 level, .string low, .string bs, .bool false, .int .i64 cell, .slice (some ⟨b1, o1, none⟩) KL.length ca1, .slice B1 VL.length cb1, .slice C1 CL.length cc1] 26), (g2, .cells #[.int .i64 level, .string bs, .string high, .bool last, .int .i64 next, .slice (some ⟨b2, o2, none⟩) KR.length ca2, .slice B2 VR.length cb2, .slice C2 CR.length cc2] 26)]) (by kernel_rfl) (hS.out.bot 3) (fun hcur => ?_)
    (try dsimp only at hcur)
    generalize W6.drew = X at hS HR1 HR2 hcur ⊢
    refine wpAnyH_take (i := 0) (v := ?_) rfl (by decide +kernel) (by decide +kernel) (by decide +kernel) (fun _ _ _ h => h) (Or.inl ⟨by rfl, ?hy⟩) hcur ?_
    case hy =>
      intro w1 hSw
      (try dsimp only at hSw)
      obtain ⟨x0, x1, x2, x3, x4, x5, x6, x7, -, -, -, -, -, -, -, -⟩ := nd_facts (hSw.has 0 _ _ rfl).1
      obtain ⟨y0, y1, y2, y3, y4, y5, y6, y7, -, -, -, -, -, -, -, -⟩ := nd_facts (hSw.has 1 _ _ rfl).1
      go_simp
      (try with_reducible rfl)
    (try simp only [Act.put, List.getElem_toArray, List.getElem_cons_zero, List.getElem_cons_succ, List.setIfInBounds_toArray, List.set_cons_zero, List.set_cons_succ])
    refine wpAnyH_take (i := 1) (v := ?_) rfl (by decide +kernel) (by decide +kernel) (by decide +kernel) (fun _ _ _ h => h) (Or.inl ⟨by rfl, ?hy⟩) hcur ?_
    case hy =>
      intro w1 hSw
      (try dsimp only at hSw)
      obtain ⟨x0, x1, x2, x3, x4, x5, x6, x7, -, -, -, -, -, -, -, -⟩ := nd_facts (hSw.has 0 _ _ rfl).1
      obtain ⟨y0, y1, y2, y3, y4, y5, y6, y7, -, -, -, -, -, -, -, -⟩ := nd_facts (hSw.has 1 _ _ rfl).1
      go_simp
      (try with_reducible rfl)
    (try simp only [Act.put, List.getElem_toArray, List.getElem_cons_zero, List.getElem_cons_succ, List.setIfInBounds_toArray, List.set_cons_zero, List.set_cons_succ])
    refine wpAnyH_ready (rs := [2]) (by decide +kernel) (by simp) ?_
    refine AllReadyH.cons rfl (fun K hK => ?_) AllReadyH.nil
    obtain ⟨y0, y1, y2, y3, y4, y5, y6, y7, q0, q1, q2, q3, q4, q5, q6, q7⟩ := nd_facts (hS.out.has 1 _ _ rfl).1
    go_simp
    have hZ := hS.out.store 1 rfl (.int .i64 level) (.string low) (.string bs) (.bool false) (.int .i64 cell) (.slice (some ⟨b1, o1, none⟩) KL.length ca1) (.slice B1 VL.length cb1) (.slice C1 CL.length cc1)
    have hZ1 := HR1.out.off (set8_off _ (w.heap.size + 1) (.int .i64 level) (.string low) (.string bs) (.bool false) (.int .i64 cell) (.slice (some ⟨b1, o1, none⟩) KL.length ca1) (.slice B1 VL.length cb1) (.slice C1 CL.length cc1)) (fun k q => by have := HGA.out; omega)
    have hZ2 := HR2.out.off (set8_off _ (w.heap.size + 1) (.int .i64 level) (.string low) (.string bs) (.bool false) (.int .i64 cell) (.slice (some ⟨b1, o1, none⟩) KL.length ca1) (.slice B1 VL.length cb1) (.slice C1 CL.length cc1)) (fun k q => by have := HGA.out; omega)
    simp only [set8] at hZ hZ1 hZ2
    replace hS := Lib.hid hZ
    replace HR1 := Lib.hid hZ1
    replace HR2 := Lib.hid hZ2
    clear hZ hZ1 hZ2
    simp only [List.cons_append, List.nil_append, List.set_cons_zero, List.set_cons_succ] at hS
    clear y0 y1 y2 y3 y4 y5 y6 y7 q0 q1 q2 q3 q4 q5 q6 q7
    refine hK.out _ _ (hS.out.bot 3) (fun hcur2 => ?_)
    clear hK K
    replace hcur := hcur2
    (try dsimp only at hcur)
    clear hcur2
    (try simp only [Act.put, List.getElem_toArray, List.getElem_cons_zero, List.getElem_cons_succ, List.setIfInBounds_toArray, List.set_cons_zero, List.set_cons_succ])
    generalize World.setCell _ _ _ = X1 at hS HR1 HR2 hcur ⊢
    refine wpAnyH_ready (rs := [3]) (by decide +kernel) (by simp) ?_
    refine AllReadyH.cons rfl (fun K hK => ?_) AllReadyH.nil
    obtain ⟨y0, y1, y2, y3, y4, y5, y6, y7, q0, q1, q2, q3, q4, q5, q6, q7⟩ := nd_facts (hS.out.has 2 _ _ rfl).1
    go_simp
    have hZ := hS.out.store 2 rfl (.int .i64 level) (.string bs) (.string high) (.bool last) (.int .i64 next) (.slice (some ⟨b2, o2, none⟩) KR.length ca2) (.slice B2 VR.length cb2) (.slice C2 CR.length cc2)
    have hZ1 := HR1.out.off (set8_off _ (w.heap.size + 1 + 1) (.int .i64 level) (.string bs) (.string high) (.bool last) (.int .i64 next) (.slice (some ⟨b2, o2, none⟩) KR.length ca2) (.slice B2 VR.length cb2) (.slice C2 CR.length cc2)) (fun k q => by have := HGA.out; omega)
    have hZ2 := HR2.out.off (set8_off _ (w.heap.size + 1 + 1) (.int .i64 level) (.string bs) (.string high) (.bool last) (.int .i64 next) (.slice (some ⟨b2, o2, none⟩) KR.length ca2) (.slice B2 VR.length cb2) (.slice C2 CR.length cc2)) (fun k q => by have := HGA.out; omega)
    simp only [set8] at hZ hZ1 hZ2
    replace hS := Lib.hid hZ
    replace HR1 := Lib.hid hZ1
    replace HR2 := Lib.hid hZ2
    clear hZ hZ1 hZ2
    simp only [List.cons_append, List.nil_append, List.set_cons_zero, List.set_cons_succ] at hS
    clear y0 y1 y2 y3 y4 y5 y6 y7 q0 q1 q2 q3 q4 q5 q6 q7
    refine hK.out _ _ (hS.out.bot 3) (fun hcur2 => ?_)
    clear hK K
    replace hcur := hcur2
    (try dsimp only at hcur)
    clear hcur2
    (try simp only [Act.put, List.getElem_toArray, List.getElem_cons_zero, List.getElem_cons_succ, List.setIfInBounds_toArray, List.set_cons_zero, List.set_cons_succ])
    generalize World.setCell _ _ _ = X2 at hS HR1 HR2 hcur ⊢
    refine wpAnyH_done (by decide +kernel) ?_ _
    clear hcur
    obtain ⟨rfl, rfl⟩ := HPL.out
    have HFI := Lib.hid (And.intro (HR1.out.face (B := w.heap.size) (level' := level) (next' := cell) (last' := false) HW.out.2.2.2.2.2.2.1 HW.out.2.2.2.2.2.2.2.2 (by omega)) (And.intro (HR2.out.face (B := w.heap.size) (level' := level) (next' := next) (last' := last) HW.out.2.2.2.2.2.2.2.2 HW.out.2.2.2.2.2.2.2.1 (by have := HGA.out; omega)) hS.out.below))
    obtain ⟨x0, x1, x2, x3, x4, x5, x6, x7, f0, f1, f2, f3, f4, f5, f6, f7⟩ := nd_facts (hS.out.has 1 _ _ rfl).1
    obtain ⟨y0, y1, y2, y3, y4, y5, y6, y7, q0, q1, q2, q3, q4, q5, q6, q7⟩ := nd_facts (hS.out.has 2 _ _ rfl).1
    go_wp2_with fail
    exact bodyPost_ret (v := .tuple #[.agg #[.int .i64 level, .string low, .string bs, .bool false, .int .i64 cell, .slice (some ⟨b1, o1, none⟩) KL.length ca1, .slice B1 VL.length cb1, .slice C1 CL.length cc1], .agg #[.int .i64 level, .string bs, .string high, .bool last, .int .i64 next, .slice (some ⟨b2, o2, none⟩) KR.length ca2, .slice B2 VR.length cb2, .slice C2 CR.length cc2]]) (by simp [results, Try.results106, go_sem, *]) rfl ⟨_, _, _, _, _, _, _, _, _, _, _, _, by simp only [ndCells], HFI.out⟩

end Go.Proofs.Ytcoiadncennhpaa
