/- The law BookTurns: the walk. -/
import Derived.Test.YtggjlnjpokdfpaaBookTurns0
import Derived.Test.YtggjlnjpokdfpaaBook5
namespace Go.Proofs.Ytggjlnjpokdfpaa
open Go.RowKit

/-- Where BookTurns stands: the operation in its variable, the map, its clone. -/
structure BtSt (w W : World) (o : OpD) (tm gm : Nat) (ks : List ByteArray) (vs : List Int) (g2 : Nat) (ks2 : List ByteArray) (vs2 : List Int) : Prop where
  below : Below w.heap.size w W
  op : W.heap[w.heap.size]? = some (.cells (opCells o) 85 (0, 0))
  m : MapAt (fun q => q < tm ∨ q = g2) W gm ks vs
  was : MapAt (fun q => q < tm ∨ q = gm) W g2 ks2 vs2
  g1 : tm ≤ gm
  g2 : tm ≤ g2
  wt : w.heap.size < tm
  lt : tm ≤ W.heap.size
section
variable {w W W' : World} {o : OpD} {tm gm g2 : Nat} {ks ks' ks2 : List ByteArray} {vs vs' vs2 : List Int}
theorem BtSt.up (h : BtSt w W o tm gm ks vs g2 ks2 vs2) (hb : Below W.heap.size W W') : BtSt w W' o tm gm ks vs g2 ks2 vs2 :=
  { h with below := below_of h.below hb, op := (hb.block _ (Array.getElem?_eq_some_iff.1 h.op).1).trans h.op, m := h.m.up hb, was := h.was.up hb, lt := Nat.le_trans h.lt hb.size }
theorem BtSt.turnM (h : BtSt w W o tm gm ks vs g2 ks2 vs2) (hm : MapAt (fun q => q < tm ∨ q = g2) W' gm ks' vs') (ho : Off (fun q => q = gm) W W') : BtSt w W' o tm gm ks' vs' g2 ks2 vs2 :=
  { below := ho.below h.below h.below.size (fun q hq e => by have := h.g1; have := h.wt; omega), op := (ho.block _ (Array.getElem?_eq_some_iff.1 h.op).1 (fun e => by have := h.g1; have := h.wt; omega)).trans h.op,
    m := hm, was := h.was.off ho (fun k e => .inr e), g1 := h.g1, g2 := h.g2, wt := h.wt, lt := Nat.le_trans h.lt ho.size }
theorem BtSt.turnW (h : BtSt w W o tm gm ks vs g2 ks2 vs2) (hm : MapAt (fun q => q < tm ∨ q = gm) W' g2 ks' vs') (ho : Off (fun q => q = g2) W W') : BtSt w W' o tm gm ks vs g2 ks' vs' :=
  { below := ho.below h.below h.below.size (fun q hq e => by have := h.g2; have := h.wt; omega), op := (ho.block _ (Array.getElem?_eq_some_iff.1 h.op).1 (fun e => by have := h.g2; have := h.wt; omega)).trans h.op,
    m := h.m.off ho (fun k e => .inr e), was := hm, g1 := h.g1, g2 := h.g2, wt := h.wt, lt := Nat.le_trans h.lt ho.size }
theorem BtSt.hT1 (h : BtSt w W o tm gm ks vs g2 ks2 vs2) : ∀ t, (t < tm ∨ t = g2) → t < W.heap.size := fun t q => by
  have := h.lt
  have := h.was.lt
  omega
theorem BtSt.hT2 (h : BtSt w W o tm gm ks vs g2 ks2 vs2) : ∀ t, (t < tm ∨ t = gm) → t < W.heap.size := fun t q => by
  have := h.lt
  have := h.m.lt
  omega
end
theorem dKs_len (ks : List ByteArray) (k : ByteArray) : (dKs ks k).length ≤ ks.length := by
  unfold dKs
  split
  · exact List.length_eraseIdx_le ..
  · exact Nat.le_refl _
theorem allD_goodD (xs : List OpD) : GoodM (allD [] [] xs).2.1 (allD [] [] xs).2.2 := allD_good xs ([], [], []) good_nil

set_option maxRecDepth 100000 in
set_option maxHeartbeats 16000000 in
theorem bookturns_any (A : Option Addr) (c : Nat) (xs : List OpD) (o : OpD) (w : World) (h : Opl w A xs) (hx : ∀ x ∈ xs, OpOk x) (hl : xs.length ≤ 9223372036854775807) (ho : OpOk o) :
    Calls Try.prog 13 #[.slice A xs.length c, .agg (opCells o)] w (Ret (.bool true) w) := by
  have HH := Lib.hid h
  have HXO := Lib.hid hx
  have HO := Lib.hid ho
  have HLi := Lib.hid (fun W hW => light16_any A c xs W hW hx hl)
  have HL1 := Lib.hid (fun A c W hW => light16_any A c [o] W hW (fun x hx => by rw [List.mem_singleton] at hx; subst hx; exact ho) (by simp))
  have HON := Lib.hid (fun W T => opl_new W [o] T)
  have HB := Lib.hid (below_alloc w (.cells (opCells o) 85))
  have HOP := Lib.hid (heap_new w (opCells o) 85)
  clear h hx hl ho
  cases hli : light16 xs
  · rw [hli] at HLi
    clear hli
    obtain ⟨kind, key, upto, val, limit⟩ := o
    simp only [opCells] at HB HOP ⊢
    go_enter Try.func13, Try.ntmps13
    go_upto_region 1 with fail
    generalize w.alloc _ = W at HB HOP ⊢
    obtain ⟨x0, x1, x2, x3, x4⟩ := op5_facts HOP.out
    go_wp2_with fail
    refine (HLi.out _ (HH.out.up HB.out)).mono ?_
    rintro e wn ⟨rfl, hbn⟩
    clear x0 x1 x2 x3 x4
    replace HOP := Lib.hid ((hbn.block _ (Array.getElem?_eq_some_iff.1 HOP.out).1).trans HOP.out)
    replace HB := Lib.hid (below_of HB.out hbn)
    clear hbn HLi
    go_wp2_with fail
    refine (lives18_any _).mono ?_
    rintro e w9 ⟨rfl, hb9⟩
    have HZ := Lib.hid (below_of HB.out hb9)
    clear hb9
    go_wp2_with fail
    go_ret
    exact ⟨rfl, HZ.out⟩
  · rw [hli] at HLi
    have HSP := Lib.hid (light16_spec hli)
    clear hli
    cases hl1 : light16 [o]
    · rw [hl1] at HL1
      clear hl1
      obtain ⟨kind, key, upto, val, limit⟩ := o
      simp only [opCells] at HB HOP ⊢
      go_enter Try.func13, Try.ntmps13
      go_upto_region 1 with fail
      generalize w.alloc _ = W at HB HOP ⊢
      obtain ⟨x0, x1, x2, x3, x4⟩ := op5_facts HOP.out
      go_wp2_with fail
      refine (HLi.out _ (HH.out.up HB.out)).mono ?_
      rintro e wn ⟨rfl, hbn⟩
      clear x0 x1 x2 x3 x4
      replace HOP := Lib.hid ((hbn.block _ (Array.getElem?_eq_some_iff.1 HOP.out).1).trans HOP.out)
      replace HB := Lib.hid (below_of HB.out hbn)
      clear hbn HLi
      obtain ⟨x0, x1, x2, x3, x4⟩ := op5_facts HOP.out
      have hon := HON.out wn 85
      rw [show (opRow [(⟨kind, key, upto, val, limit⟩ : OpD)]).toArray = #[.int .i64 kind, .string key, .string upto, .int .u64 (val : Int), .int .i64 limit] from rfl] at hon
      have hba := below_alloc wn (.cells #[.int .i64 kind, .string key, .string upto, .int .u64 (val : Int), .int .i64 limit] 85)
      have HQ := Lib.hid (And.intro hon hba)
      clear hon hba
      go_wp2_with fail
      refine (HL1.out _ 1 _ HQ.out.1).mono ?_
      rintro e wm ⟨rfl, hbn⟩
      clear x0 x1 x2 x3 x4
      have hbb := below_of HQ.out.2 hbn
      replace HOP := Lib.hid ((hbb.block _ (Array.getElem?_eq_some_iff.1 HOP.out).1).trans HOP.out)
      replace HB := Lib.hid (below_of HB.out hbb)
      clear hbb hbn HQ HL1 HON
      go_wp2_with fail
      refine (lives18_any _).mono ?_
      rintro e w9 ⟨rfl, hb9⟩
      have HZ := Lib.hid (below_of HB.out hb9)
      clear hb9
      go_wp2_with fail
      go_ret
      exact ⟨rfl, HZ.out⟩
    · rw [hl1] at HL1
      clear hl1
      have hl40 : xs.length ≤ 40 := HSP.out.2
      have HGD := Lib.hid (allD_goodD xs)
      have hlen := (allD_len [] [] xs xs.length (Nat.le_refl _)).1
      rw [List.take_length] at hlen
      have HAll := Lib.hid (fun T g W (hW : MapAt T W g [] []) hX hno hT => bkall_any T g [] [] A c xs W hW hX hno HXO.out (by simp; omega) hT)
      generalize allD [] [] xs = s at HAll HGD hlen
      obtain ⟨az, ks, vs⟩ := s
      simp only [] at HAll HGD hlen
      have hk40 : ks.length ≤ 40 := by simp at hlen; omega
      have HDT := Lib.hid (do_turns HGD.out o)
      have hdl := doD_len ks vs o
      have HDo := Lib.hid (fun T g W (hW : MapAt T W g ks vs) hT => bkdo_any T g ks vs o W hW HO.out (by omega) hT)
      have HTu := Lib.hid (fun (a : AnsI) A c W => book_any o a A c W)
      have HNi := Lib.hid (fun W => bkdo_nil o W)
      have HAn := Lib.hid (fun W hW => bkall_nil A c xs W hW (by omega))
      have HKs := Lib.hid HO.out.key
      generalize hdd : doD ks vs o = dd at HDo HDT hdl
      obtain ⟨a, ks2, vs2⟩ := dd
      simp only [] at HDo HDT hdl
      clear hdd
      have HTb := Lib.hid (fun A c W => HTu.out a A c W)
      clear HTu
      generalize turnsB o a = tb at HDT HTb
      have hdl2 : ks2.length ≤ 41 := by omega
      clear hlen hdl
      obtain ⟨ac, ak, av, ap⟩ := a
      obtain ⟨kind, key, upto, val, limit⟩ := o
      simp only [opCells, anCells] at HDo HTb HNi
      simp only [] at HDT HKs
      simp only [opCells] at HB HOP ⊢
      go_enter Try.func13, Try.ntmps13
      go_upto_region 1 with fail
      generalize w.alloc _ = W at HB HOP ⊢
      obtain ⟨x0, x1, x2, x3, x4⟩ := op5_facts HOP.out
      go_wp2_with fail
      refine (HLi.out _ (HH.out.up HB.out)).mono ?_
      rintro e wn ⟨rfl, hbn⟩
      clear x0 x1 x2 x3 x4
      replace HOP := Lib.hid ((hbn.block _ (Array.getElem?_eq_some_iff.1 HOP.out).1).trans HOP.out)
      replace HB := Lib.hid (below_of HB.out hbn)
      clear hbn HLi
      obtain ⟨x0, x1, x2, x3, x4⟩ := op5_facts HOP.out
      have hon := HON.out wn 85
      rw [show (opRow [(⟨kind, key, upto, val, limit⟩ : OpD)]).toArray = #[.int .i64 kind, .string key, .string upto, .int .u64 (val : Int), .int .i64 limit] from rfl] at hon
      have hba := below_alloc wn (.cells #[.int .i64 kind, .string key, .string upto, .int .u64 (val : Int), .int .i64 limit] 85)
      have HQ := Lib.hid (And.intro hon hba)
      clear hon hba
      go_wp2_with fail
      refine (HL1.out _ 1 _ HQ.out.1).mono ?_
      rintro e wm ⟨rfl, hbn⟩
      clear x0 x1 x2 x3 x4
      have hbb := below_of HQ.out.2 hbn
      replace HOP := Lib.hid ((hbb.block _ (Array.getElem?_eq_some_iff.1 HOP.out).1).trans HOP.out)
      replace HB := Lib.hid (below_of HB.out hbb)
      clear hbb hbn HQ HL1 HON
      go_wp2_with fail
      refine (pmnew_any none 0 [] _ ⟨rfl, fun q => absurd q (Nat.lt_irrefl 0)⟩ (fun p hp => by simp at hp) (by simp)).mono ?_
      rintro e w1 ⟨gm, rfl, hgm, hM, hb⟩
      have HTM := Lib.hid (And.intro (Array.getElem?_eq_some_iff.1 HOP.out).1 (And.intro hgm hb.size))
      replace HOP := Lib.hid ((hb.block _ (Array.getElem?_eq_some_iff.1 HOP.out).1).trans HOP.out)
      replace HB := Lib.hid (below_of HB.out hb)
      have HM := Lib.hid (show MapAt (fun q => q < wm.heap.size) w1 gm [] [] from hM)
      clear hgm hM hb
      generalize wm.heap.size = tm at HTM HM
      have HNO := Lib.hid (show 0 < xs.length → ∀ a, A = some a → a.block ≠ gm from fun h0 a e => by
        obtain ⟨b, off, e2, hb, _⟩ := HH.out h0
        rw [e2] at e
        injection e with e
        subst e
        have := HTM.out
        simp only []
        omega)
      go_wp2_with fail
      refine (HAll.out _ _ _ HM.out (HH.out.up HB.out) HNO.out (fun t q => by have := HTM.out; omega)).mono ?_
      rintro e w2 ⟨As, cs, rfl, hst⟩
      have hm2 : MapAt (fun q => q < tm) w2 gm ks vs := hst.map.more (fun k _ q => .inl q)
      have hle2 := Nat.le_trans HTM.out.2.2 hst.off.size
      have hop2 := (hst.off.block _ (Array.getElem?_eq_some_iff.1 HOP.out).1 (by have := HTM.out; omega)).trans HOP.out
      have hb2 := hst.off.below HB.out HB.out.size (fun q hq e => by have := HTM.out; omega)
      have HM2 := Lib.hid (And.intro hm2 (And.intro hle2 (And.intro hop2 hb2)))
      clear hst hm2 hle2 hop2 hb2 HM HB HOP HAll HNO
      go_wp2_with fail
      refine (pmclone_any _ gm ks vs _ HM2.out.1 (by omega)).mono ?_
      rintro e w3 ⟨g2, rfl, hg2, hM2, hb3⟩
      have HX := Lib.hid (show BtSt w w3 ⟨kind, key, upto, val, limit⟩ tm gm ks vs g2 ks vs from
        { below := below_of HM2.out.2.2.2 hb3, op := (hb3.block _ (Array.getElem?_eq_some_iff.1 HM2.out.2.2.1).1).trans HM2.out.2.2.1,
          m := (((HM2.out.1.more (T' := fun q => q < tm ∨ w2.heap.size ≤ q) (fun k hk q => by
            rcases q with q | q
            · exact q
            · omega)).up hb3).more (fun k _ q => by
            rcases q with q | q
            · exact .inl q
            · exact .inr (by omega))),
          was := (show MapAt (fun q => q < w2.heap.size) w3 g2 ks vs from hM2).more (fun k _ q => by
            have := HM2.out.2.1
            have := HM2.out.1.lt
            omega),
          g1 := HTM.out.2.1, g2 := Nat.le_trans HM2.out.2.1 hg2, wt := HTM.out.1, lt := Nat.le_trans HM2.out.2.1 hb3.size })
      clear hg2 hM2 hb3 HM2 HTM
      obtain ⟨x0, x1, x2, x3, x4⟩ := op5_facts HX.out.op
      go_wp2_with fail
      refine (HDo.out _ _ _ HX.out.m HX.out.hT1).mono ?_
      rintro e w4 ⟨A7, c7, rfl, hown, hm, hof⟩
      clear x0 x1 x2 x3 x4
      have hx := (HX.out.turnM hm hof).up (below_alloc w4 (.cells #[.int .i64 ac, .string ak, .int .u64 av, .slice A7 ap.length c7] 87))
      have hn7 := heap_new w4 #[.int .i64 ac, .string ak, .int .u64 av, .slice A7 ap.length c7] 87
      clear hown hm hof HX HDo
      simp only [anCells]
      go_upto_region 7 with fail
      generalize w4.alloc _ = W5 at hx hn7 ⊢
      generalize w4.heap.size = g7 at hn7 ⊢
      have HX := Lib.hid hx
      have HN7 := Lib.hid hn7
      clear hx hn7
      obtain ⟨x0, x1, x2, x3, x4⟩ := op5_facts HX.out.op
      go_wp2_with fail
      refine (HNi.out _).mono ?_
      rintro e w5 ⟨rfl, hbn⟩
      clear x0 x1 x2 x3 x4
      have hbb := below_of hbn (below_alloc w5 (.cells #[.int .i64 5, .string ⟨#[]⟩, .int .u64 0, .slice none 0 0] 87))
      have hn8 := heap_new w5 #[.int .i64 5, .string ⟨#[]⟩, .int .u64 0, .slice none 0 0] 87
      have hx := HX.out.up hbb
      have hn7 := (hbb.block _ (Array.getElem?_eq_some_iff.1 HN7.out).1).trans HN7.out
      clear HX HN7 hbn hbb HNi
      go_upto_region 8 with fail
      generalize w5.alloc _ = W6 at hx hn7 hn8 ⊢
      generalize w5.heap.size = g8 at hn8 ⊢
      have HX := Lib.hid hx
      have HN7 := Lib.hid hn7
      have HN8 := Lib.hid hn8
      clear hx hn7 hn8
      obtain ⟨z0, z1, z2, z3, -, -, -, -⟩ := an_facts HN8.out
      go_wp2_with fail
      refine (HAn.out _ (HH.out.up HX.out.below)).mono ?_
      rintro e w6 ⟨As6, cs6, rfl, hbn⟩
      clear z0 z1 z2 z3
      replace HN7 := Lib.hid ((hbn.block _ (Array.getElem?_eq_some_iff.1 HN7.out).1).trans HN7.out)
      replace HX := Lib.hid (HX.out.up hbn)
      clear hbn HN8 HAn
      obtain ⟨x0, x1, x2, x3, x4⟩ := op5_facts HX.out.op
      obtain ⟨z0, z1, z2, z3, -, -, -, -⟩ := an_facts HN7.out
      go_wp2_with fail
      refine (HTb.out _ _ _).mono ?_
      rintro e w7 ⟨rfl, hbn⟩
      clear z0 z1 z2 z3 HN7 HTb
      clear x0 x1 x2 x3 x4
      replace HX := Lib.hid (HX.out.up hbn)
      clear hbn
      cases tb
      · obtain ⟨rfl, rfl⟩ := HDT.out.1 rfl
        have hzl := Pl.zipP_len HGD.out.len
        have hzn : (Pl.zipP ks2 vs2).length ≤ 9223372036854775807 := by omega
        have HA1 := Lib.hid (fun W hW => pmall_any (fun q => q < tm ∨ q = g2) gm ks2 vs2 W hW (by omega))
        have HA2 := Lib.hid (fun W hW => pmall_any (fun q => q < tm ∨ q = gm) g2 ks2 vs2 W hW (by omega))
        generalize Pl.zipP ks2 vs2 = zz at HA1 HA2 hzn
        have HSm := Lib.hid (fun A B c d W h k => Calls.to (same06_any A B zz.length c zz.length d zz zz W h k hzn) (congrArg Value.bool (decide_eq_true rfl)))
        clear hzl hzn HDT
        go_wp2_with fail
        refine (HA1.out _ HX.out.m).mono ?_
        rintro e wa ⟨Aa, ca, rfl, hown, hbn⟩
        have HQ1 := Lib.hid (prs_of_own hown rfl)
        replace HX := Lib.hid (HX.out.up hbn)
        clear hown hbn
        go_wp2_with fail
        refine (HA2.out _ HX.out.was).mono ?_
        rintro e wb ⟨Ab, cb, rfl, hown, hbn⟩
        have HQ2 := Lib.hid (prs_of_own hown rfl)
        replace HQ1 := Lib.hid (HQ1.out.up hbn)
        replace HX := Lib.hid (HX.out.up hbn)
        clear hown hbn
        go_wp2_with fail
        refine (HSm.out _ _ _ _ _ HQ1.out HQ2.out).mono ?_
        rintro e wc ⟨rfl, hbn⟩
        replace HX := Lib.hid (HX.out.up hbn)
        clear hbn
        go_wp2_with fail
        refine (lives18_any _).mono ?_
        rintro e w9 ⟨rfl, hb9⟩
        have HZ := Lib.hid (below_of HX.out.below hb9)
        clear hb9
        go_wp2_with fail
        go_ret
        exact ⟨rfl, HZ.out⟩
      · have h12 := HDT.out.2 rfl
        have hgd := (HGD.out.del key).1
        obtain ⟨x0, x1, x2, x3, x4⟩ := op5_facts HX.out.op
        go_wp2_with fail
        refine (pmdel_any _ gm ks2 vs2 key _ HX.out.m HKs.out (by omega) HX.out.hT1).mono ?_
        rintro e w8 ⟨rfl, hm, hof⟩
        clear x0 x1 x2 x3 x4
        replace HX := Lib.hid (HX.out.turnM hm hof)
        clear hm hof
        obtain ⟨x0, x1, x2, x3, x4⟩ := op5_facts HX.out.op
        go_wp2_with fail
        refine (pmdel_any _ g2 ks vs key _ HX.out.was HKs.out (by omega) HX.out.hT2).mono ?_
        rintro e w9 ⟨rfl, hm, hof⟩
        clear x0 x1 x2 x3 x4
        have hx := HX.out.turnW hm hof
        rw [h12.1, h12.2] at hx
        clear HX
        have HX := Lib.hid hx
        have hdk := dKs_len ks key
        have hzl := Pl.zipP_len hgd.len
        have hzn : (Pl.zipP (dKs ks key) (dVs ks vs key)).length ≤ 9223372036854775807 := by omega
        have HA1 := Lib.hid (fun W hW => pmall_any (fun q => q < tm ∨ q = g2) gm (dKs ks key) (dVs ks vs key) W hW (by omega))
        have HA2 := Lib.hid (fun W hW => pmall_any (fun q => q < tm ∨ q = gm) g2 (dKs ks key) (dVs ks vs key) W hW (by omega))
        generalize Pl.zipP (dKs ks key) (dVs ks vs key) = zz at HA1 HA2 hzn
        have HSm := Lib.hid (fun A B c d W h k => Calls.to (same06_any A B zz.length c zz.length d zz zz W h k hzn) (congrArg Value.bool (decide_eq_true rfl)))
        clear hzl hzn HDT h12 hgd hx hm hof hdk
        go_wp2_with fail
        refine (HA1.out _ HX.out.m).mono ?_
        rintro e wa ⟨Aa, ca, rfl, hown, hbn⟩
        have HQ1 := Lib.hid (prs_of_own hown rfl)
        replace HX := Lib.hid (HX.out.up hbn)
        clear hown hbn
        go_wp2_with fail
        refine (HA2.out _ HX.out.was).mono ?_
        rintro e wb ⟨Ab, cb, rfl, hown, hbn⟩
        have HQ2 := Lib.hid (prs_of_own hown rfl)
        replace HQ1 := Lib.hid (HQ1.out.up hbn)
        replace HX := Lib.hid (HX.out.up hbn)
        clear hown hbn
        go_wp2_with fail
        refine (HSm.out _ _ _ _ _ HQ1.out HQ2.out).mono ?_
        rintro e wc ⟨rfl, hbn⟩
        replace HX := Lib.hid (HX.out.up hbn)
        clear hbn
        go_wp2_with fail
        refine (lives18_any _).mono ?_
        rintro e w9 ⟨rfl, hb9⟩
        have HZ := Lib.hid (below_of HX.out.below hb9)
        clear hb9
        go_wp2_with fail
        go_ret
        exact ⟨rfl, HZ.out⟩

end Go.Proofs.Ytggjlnjpokdfpaa
