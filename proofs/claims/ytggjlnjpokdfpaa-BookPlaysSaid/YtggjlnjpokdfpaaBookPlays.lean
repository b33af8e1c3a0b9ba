/- The law BookPlays: the walk. -/
import Derived.Test.YtggjlnjpokdfpaaBook0
import Derived.Test.YtggjlnjpokdfpaaBook5
namespace Go.Proofs.Ytggjlnjpokdfpaa
open Go.RowKit

theorem fit_del {ps : List PairD} (h : FitP ps) (k : ByteArray) : FitP (Pl.delM ps k) := fun p hp => h p (List.mem_filter.1 hp).1
theorem fit_put {ps : List PairD} (h : FitP ps) (k : ByteArray) (v : Int) (hk : k.size ≤ maxLen) : FitP (Pl.putM ps k v) := by
  intro p hp
  unfold Pl.putM at hp
  rw [List.mem_append, List.mem_singleton] at hp
  rcases hp with hp | rfl
  · exact fit_del h k p hp
  · exact hk
theorem refdo_fit {ms : List PairD} (h : FitP ms) {o : OpD} (ho : OpOk o) : FitP (refdoD ms o).1 := by
  have h1 := fit_put h o.key (o.val : Int) ho.key
  have h2 := fit_del h o.key
  unfold refdoD
  split
  · unfold refdo1
    repeat' split
    all_goals first | exact h | exact h1 | exact h2
  · exact h
theorem refdo_len (ms : List PairD) (o : OpD) : (refdoD ms o).1.length ≤ ms.length + 1 := by
  have h2 := delM_len ms o.key
  have h1 : (Pl.putM ms o.key (o.val : Int)).length ≤ ms.length + 1 := by
    unfold Pl.putM
    rw [List.length_append, List.length_singleton]
    omega
  unfold refdoD
  split
  · unfold refdo1
    repeat' split
    all_goals first | exact Nat.le_succ _ | exact h1 | exact Nat.le_succ_of_le h2
  · exact Nat.le_succ _
theorem own_max {w : World} {B n s : Nat} {e : TypeId} {A : Option Addr} {c : Nat} {xs : List Value} (h : w.ownsRow B e s (.slice A n c) n xs) : n ≤ 9223372036854775807 := by
  rcases h.2 with ⟨_, h0⟩ | ⟨g, cap, cur, hv, _, _, h1, h2, _⟩
  · omega
  · unfold maxLen at h2
    omega

set_option maxRecDepth 100000 in
set_option maxHeartbeats 1000000 in
theorem refsame17_self (a : AnsI) (A B : Option Addr) (c d : Nat) (w : World) (h : Prs w A a.pairs.length a.pairs) (k : Prs w B a.pairs.length a.pairs) (hl : a.pairs.length ≤ 9223372036854775807) :
    Calls Try.prog 59 #[.agg (anCells a A c), .agg (anCells a B d)] w (Ret (.bool true) w) := by
  have hS := Lib.hid (Sx.start2 w (.cells (anCells a A c) 87) (.cells (anCells a B d) 87))
  have HC := Lib.hid (fun W hW kW => Calls.to (same06_any A B a.pairs.length c a.pairs.length d a.pairs a.pairs W hW kW hl) (congrArg Value.bool (decide_eq_true rfl)))
  have HP := Lib.hid (And.intro h k)
  clear h k
  obtain ⟨code, key, val, pairs⟩ := a
  simp only [anCells] at hS HC HP ⊢
  go_enter Try.func59, Try.ntmps59
  go_upto_region 1 with fail
  generalize (w.alloc _).alloc _ = W at hS ⊢
  obtain ⟨x0, x1, x2, x3, -, -, -, -⟩ := an_facts (hS.out.has 0 _ _ rfl).1
  obtain ⟨y0, y1, y2, y3, -, -, -, -⟩ := an_facts (hS.out.has 1 _ _ rfl).1
  go_wp2_with fail
  refine (HC.out _ (HP.out.1.up hS.out.below) (HP.out.2.up hS.out.below)).mono ?_
  rintro e w2 ⟨rfl, hb2⟩
  have HB := Lib.hid (below_of hS.out.below hb2)
  clear hb2
  go_wp2_with fail
  go_ret
  exact ⟨rfl, HB.out⟩

/-- Where BookPlays stands. -/
structure PlSt (gm tm : Nat) (w W : World) (Mw : Option Addr) (ms : List PairD) (ks : List ByteArray) (vs : List Int) (j : Nat) : Prop where
  below : Below w.heap.size w W
  map : MapAt (fun q => q < tm) W gm ks vs
  tl : tm ≤ W.heap.size
  wt : w.heap.size ≤ gm
  prs : Prs W Mw ms.length ms
  far : ∀ b, Mw = some b → b.block ≠ gm
  good : GoodM ks vs
  perm : ms.Perm (Pl.zipP ks vs)
  len : ms.length ≤ j
  fit : FitP ms
theorem PlSt.up {gm tm : Nat} {w W W' : World} {Mw : Option Addr} {ms : List PairD} {ks : List ByteArray} {vs : List Int} {j : Nat} (h : PlSt gm tm w W Mw ms ks vs j) (hb : Below W.heap.size W W') : PlSt gm tm w W' Mw ms ks vs j :=
  { h with below := below_of h.below hb, map := h.map.up hb, tl := Nat.le_trans h.tl hb.size, prs := h.prs.up hb }
theorem PlSt.klen {gm tm : Nat} {w W : World} {Mw : Option Addr} {ms : List PairD} {ks : List ByteArray} {vs : List Int} {j : Nat} (h : PlSt gm tm w W Mw ms ks vs j) : ks.length = ms.length := by
  rw [h.perm.length_eq, Pl.zipP_len h.good.len]
theorem prs_offA {k : Nat} {w w' : World} {A : Option Addr} {n : Nat} {ps : List PairD} (h : Prs w A n ps) (ho : Off (fun q => q = k) w w') (hs : ∀ a, A = some a → a.block ≠ k) : Prs w' A n ps := ⟨h.1, fun h0 => by
  obtain ⟨b, off, rfl, hbl, hc⟩ := h.2 h0
  have hb : ¬ b = k := hs ⟨b, off, none⟩ rfl
  exact ⟨b, off, rfl, Nat.lt_of_lt_of_le hbl ho.size, fun j hj i v hv => (ho.cell (p := ⟨b, off + j * 2 + i, none⟩) hbl hb).trans (hc j hj i v hv)⟩⟩

/-- What a round has in its variables. -/
structure B18 (W : World) (g6 g7 g9 : Nat) (o : OpD) (a : AnsI) (A1 : Option Addr) (c1 : Nat) (A2 : Option Addr) (c2 : Nat) : Prop where
  h6 : W.heap[g6]? = some (.cells (opCells o) 85 (0, 0))
  h7 : W.heap[g7]? = some (.cells (anCells a A1 c1) 87 (0, 0))
  h9 : W.heap[g9]? = some (.cells (anCells a A2 c2) 87 (0, 0))
  p1 : Prs W A1 a.pairs.length a.pairs
  p2 : Prs W A2 a.pairs.length a.pairs
theorem B18.up {W W' : World} {g6 g7 g9 : Nat} {o : OpD} {a : AnsI} {A1 A2 : Option Addr} {c1 c2 : Nat} (h : B18 W g6 g7 g9 o a A1 c1 A2 c2) (hb : Below W.heap.size W W') : B18 W' g6 g7 g9 o a A1 c1 A2 c2 :=
  ⟨(hb.block g6 (Array.getElem?_eq_some_iff.1 h.h6).1).trans h.h6, (hb.block g7 (Array.getElem?_eq_some_iff.1 h.h7).1).trans h.h7, (hb.block g9 (Array.getElem?_eq_some_iff.1 h.h9).1).trans h.h9, h.p1.up hb, h.p2.up hb⟩

set_option maxRecDepth 100000 in
set_option maxHeartbeats 16000000 in
theorem bookplays_any (A : Option Addr) (c : Nat) (xs : List OpD) (w : World) (h : Opl w A xs) (hx : ∀ x ∈ xs, OpOk x) (hl : xs.length ≤ 9223372036854775807) :
    Calls Try.prog 12 #[.slice A xs.length c] w (Ret (.bool true) w) := by
  have HH := Lib.hid h
  have HXO := Lib.hid hx
  have HLi := Lib.hid (fun W hW => light16_any A c xs W hW hx hl)
  clear h hx hl
  cases hli : light16 xs
  · rw [hli] at HLi
    clear hli
    go_enter Try.func12, Try.ntmps12
    go_wp2_with fail
    refine (HLi.out _ HH.out).mono ?_
    rintro e wn ⟨rfl, hbn⟩
    go_wp2_with fail
    refine (lives18_any _).mono ?_
    rintro e wn2 ⟨rfl, hbn2⟩
    go_wp2_with fail
    go_ret
    exact ⟨rfl, below_of hbn hbn2⟩
  · rw [hli] at HLi
    have HSP := Lib.hid (light16_spec hli)
    clear hli
    go_enter Try.func12, Try.ntmps12
    go_wp2_with fail
    refine (HLi.out _ HH.out).mono ?_
    rintro e wn ⟨rfl, hbn⟩
    have HB := Lib.hid hbn
    clear hbn HLi
    go_wp2_with fail
    refine (pmnew_any none 0 [] _ ⟨rfl, fun q => absurd q (Nat.lt_irrefl 0)⟩ (fun p hp => by simp at hp) (by simp)).mono ?_
    rintro e w1 ⟨gm, rfl, hgm, hM, hb⟩
    have HPS := Lib.hid (show PlSt gm wn.heap.size w w1 none [] [] [] 0 from
      { below := below_of HB.out hb, map := hM, tl := hb.size, wt := Nat.le_trans HB.out.size hgm, prs := ⟨rfl, fun q => absurd q (Nat.lt_irrefl 0)⟩, far := fun b e => (by cases e), good := good_nil, perm := List.Perm.refl _, len := Nat.le_refl _, fit := fun p hp => by simp at hp })
    clear hgm hM hb HB
    generalize wn.heap.size = tm at HPS
    have hl40 : xs.length ≤ 40 := HSP.out.2
    go_wp2_with fail
    go_loopw [4, 6, 7, 8, 9, 17] (fun v _ _ _ _ i wr => ∃ (j : Nat) (Mw : Option Addr) (cw : Nat) (ms : List PairD) (ks : List ByteArray) (vs : List Int), i = .int .i64 j ∧ v = .slice Mw ms.length cw ∧ Hid (j ≤ xs.length ∧ PlSt gm tm w wr Mw ms ks vs j)) (fun _ _ _ _ _ i _ => xs.length - (intOf i).toNat)
    case atStart => exact ⟨0, none, 0, [], [], [], rfl, rfl, Nat.zero_le _, HPS.out⟩
    case round =>
      obtain ⟨j, Mw, cw, ms, ks, vs, rfl, rfl, H⟩ := hrel
      clear HPS
      have HPS := Lib.hid H.out.2
      by_cases hlt : j < xs.length
      · have hj63 : j ≤ 40 := by omega
        obtain ⟨b, off, rfl, hbl, d0, d1, d2, d3, d4⟩ := (HH.out.up HPS.out.below).at_ hlt
        have hok := HXO.out _ (List.getElem_mem hlt)
        generalize xs[j] = x at d0 d1 d2 d3 d4 hok
        clear H hbl
        have hml := HPS.out.len
        have hkl := HPS.out.klen
        have hds := do_same HPS.out.good HPS.out.perm x
        have hrf := refdo_fit HPS.out.fit hok
        have hrl := refdo_len ms x
        have HD := Lib.hid (fun W (hW : MapAt (fun q => q < tm) W gm ks vs) (ht : tm ≤ W.heap.size) => bkdo_any (fun q => q < tm) gm ks vs x W hW hok (by omega) (fun t q => by omega))
        have HRD := Lib.hid (fun W (hW : Prs W Mw ms.length ms) => refdo_any Mw cw ms x W hW HPS.out.fit (by omega) hok)
        rw [hds.1] at HRD
        generalize doD ks vs x = dd at HD HRD hds
        generalize (refdoD ms x).1 = ms2 at HRD hds hrf hrl
        obtain ⟨a, ks2, vs2⟩ := dd
        simp only [] at HD HRD hds
        have HDS := Lib.hid (And.intro hds.2 (And.intro hrf (show ms2.length ≤ j + 1 by omega)))
        have HT1 := Lib.hid (fun (A : Option Addr) (c : Nat) W => book_any x a A c W)
        have HT2 := Lib.hid (fun (A : Option Addr) (c : Nat) W => bowerref18_any x a A c W)
        generalize turnsB x a = tb at HT1 HT2
        clear hds hrf hrl hml hkl hok
        have htb : (tb != tb) = false := by simp
        obtain ⟨kind, key, upto, val, limit⟩ := x
        simp only [] at d0 d1 d2 d3 d4
        simp only [opCells] at HD HRD HT1 HT2
        have hba := below_alloc wr (.cells #[.int .i64 kind, .string key, .string upto, .int .u64 (val : Int), .int .i64 limit] 85)
        have hn6 := heap_new wr #[.int .i64 kind, .string key, .string upto, .int .u64 (val : Int), .int .i64 limit] 85
        have hps := HPS.out.up hba
        have hgl : gm < wr.heap.size := HPS.out.map.lt
        go_upto_region 8 with fail
        clear d0 d1 d2 d3 d4
        generalize wr.alloc _ = W7 at hn6 hps hba ⊢
        have hs7 := hba.size
        generalize wr.heap.size = g6 at hn6 hgl ⊢
        have HN6 := Lib.hid hn6
        have HG6 := Lib.hid hgl
        clear hn6 hgl hba hs7 HPS
        have HPS := Lib.hid hps
        clear hps
        obtain ⟨x0, x1, x2, x3, x4⟩ := op5_facts HN6.out
        go_wp2_with fail
        refine (HD.out _ HPS.out.map HPS.out.tl).mono ?_
        rintro e w2 ⟨A1, c1, rfl, hown, hm, hof⟩
        clear x0 x1 x2 x3 x4 HD
        have hbe2 := hof.below HPS.out.below HPS.out.below.size (fun q hq e => by have := HPS.out.wt; omega)
        have hpr2 := prs_offA HPS.out.prs hof HPS.out.far
        have hn62 := (hof.block g6 (Array.getElem?_eq_some_iff.1 HN6.out).1 (by have := HG6.out; omega)).trans HN6.out
        have htl2 := Nat.le_trans HPS.out.tl hof.size
        have hp12 := prs_of_own hown rfl
        have HMX := Lib.hid (own_max hown)
        have HWT := Lib.hid (And.intro HPS.out.wt HPS.out.far)
        have hgm2 := hm.lt
        clear hown hof HPS
        obtain ⟨ac, ak, av, ap⟩ := a
        simp only [anCells] at HRD HT1 HT2 HMX hp12 ⊢
        have hba := below_alloc w2 (.cells #[.int .i64 ac, .string ak, .int .u64 av, .slice A1 ap.length c1] 87)
        have hn7 := heap_new w2 #[.int .i64 ac, .string ak, .int .u64 av, .slice A1 ap.length c1] 87
        have HA := Lib.hid (And.intro (below_of hbe2 hba) (And.intro (hpr2.up hba) (And.intro ((hba.block g6 (Array.getElem?_eq_some_iff.1 hn62).1).trans hn62) (And.intro (Nat.le_trans htl2 hba.size) (And.intro (hp12.up hba) (And.intro (hm.up hba) hn7))))))
        clear hbe2 hpr2 hn62 htl2 hp12 hm hba hn7 HN6
        go_upto_region 9 with fail
        generalize w2.alloc _ = W9 at HA ⊢
        generalize w2.heap.size = g7 at HA hgm2 ⊢
        obtain ⟨x0, x1, x2, x3, x4⟩ := op5_facts HA.out.2.2.1
        go_wp2_with fail
        refine (HRD.out _ HA.out.2.1).mono ?_
        rintro e w3 ⟨M2, c2, A2, c3, rfl, hP2, hor, hown2, hb3⟩
        clear x0 x1 x2 x3 x4 HRD
        have hp2 := prs_of_own hown2 rfl
        have hfar : ∀ b, M2 = some b → b.block ≠ gm := fun b e => by
          rcases hor with h1 | h1
          · exact HWT.out.2 b (h1 ▸ e)
          · have := h1 b e
            have := HA.out.2.2.2.2.2.1.lt
            omega
        have hba := below_alloc w3 (.cells #[.int .i64 ac, .string ak, .int .u64 av, .slice A2 ap.length c3] 87)
        have hn9 := heap_new w3 #[.int .i64 ac, .string ak, .int .u64 av, .slice A2 ap.length c3] 87
        have hbb := below_of hb3 hba
        have hps : PlSt gm tm w _ M2 ms2 ks2 vs2 (j + 1) :=
          { below := below_of HA.out.1 hbb, map := HA.out.2.2.2.2.2.1.up hbb, tl := Nat.le_trans HA.out.2.2.2.1 hbb.size, wt := HWT.out.1, prs := hP2.up hba, far := hfar, good := HDS.out.1.1, perm := HDS.out.1.2, len := HDS.out.2.2, fit := HDS.out.2.1 }
        have hx : B18 _ g6 g7 w3.heap.size ⟨kind, key, upto, val, limit⟩ ⟨ac, ak, av, ap⟩ A1 c1 A2 c3 :=
          ⟨(hbb.block g6 (Array.getElem?_eq_some_iff.1 HA.out.2.2.1).1).trans HA.out.2.2.1, (hbb.block g7 (Array.getElem?_eq_some_iff.1 HA.out.2.2.2.2.2.2).1).trans HA.out.2.2.2.2.2.2, hn9, HA.out.2.2.2.2.1.up hbb, hp2.up hba⟩
        simp only [anCells] at ⊢
        go_upto_region 11 with fail
        clear HA hp2 hfar hba hn9 hbb hb3 hor hown2 hP2
        generalize w3.alloc _ = W at hps hx ⊢
        generalize w3.heap.size = g9 at hx ⊢
        have HPS := Lib.hid hps
        have HX := Lib.hid hx
        clear hps hx
        have HSa := Lib.hid (fun W p1 p2 => refsame17_self ⟨ac, ak, av, ap⟩ A1 A2 c1 c3 W p1 p2 HMX.out)
        simp only [anCells] at HSa
        have hk2 := HPS.out.klen
        have hl2 := HPS.out.len
        have HAl := Lib.hid (fun W hW => pmall_any (fun q => q < tm) gm ks2 vs2 W hW (by omega))
        have HAr := Lib.hid (fun W hW => all06_any M2 c2 ms2 W hW HPS.out.fit (by omega))
        rw [Pl.allM_all HPS.out.good.rows HPS.out.perm] at HAr
        have hzl := Pl.zipP_len HPS.out.good.len
        have hzn : (Pl.zipP ks2 vs2).length ≤ 9223372036854775807 := by omega
        generalize Pl.zipP ks2 vs2 = zz at HAl HAr hzl hzn
        have HSm := Lib.hid (fun A B c d W h k => Calls.to (same06_any A B zz.length c zz.length d zz zz W h k hzn) (congrArg Value.bool (decide_eq_true rfl)))
        clear hk2 hl2 hzl hzn HMX HWT HDS HG6 hgm2
        refine wp_region_held_drew (S := fun w' => Below W.heap.size W w') (by kernel_rfl) (Below.drew (Below.refl _ _)) (fun hcur => ?_)
        replace hcur : Below W.heap.size W W.drew := hcur
        refine wpAnyH_take (i := 0) (v := ?_) rfl (by decide +kernel) (by decide +kernel) (by decide +kernel) (fun _ _ _ h => h) (Or.inl ⟨by rfl, ?hy⟩) hcur ?_
        case hy =>
          intro w1 hSw
          replace hSw : Below W.heap.size W w1 := hSw
          obtain ⟨x0, x1, x2, x3, x4⟩ := op5_facts (HX.out.up hSw).h6
          obtain ⟨y0, y1, y2, y3, -, -, -, -⟩ := an_facts (HX.out.up hSw).h7
          obtain ⟨z0, z1, z2, z3, -, -, -, -⟩ := an_facts (HX.out.up hSw).h9
          go_simp
          (try with_reducible rfl)
        (try simp only [Act.put, List.getElem_toArray, List.getElem_cons_zero, List.getElem_cons_succ, List.setIfInBounds_toArray, List.set_cons_zero, List.set_cons_succ])
        refine wpAnyH_take (i := 1) (v := ?_) rfl (by decide +kernel) (by decide +kernel) (by decide +kernel) (fun _ _ _ h => h) (Or.inl ⟨by rfl, ?hy⟩) hcur ?_
        case hy =>
          intro w1 hSw
          replace hSw : Below W.heap.size W w1 := hSw
          obtain ⟨x0, x1, x2, x3, x4⟩ := op5_facts (HX.out.up hSw).h6
          obtain ⟨y0, y1, y2, y3, -, -, -, -⟩ := an_facts (HX.out.up hSw).h7
          obtain ⟨z0, z1, z2, z3, -, -, -, -⟩ := an_facts (HX.out.up hSw).h9
          go_simp
          (try with_reducible rfl)
        (try simp only [Act.put, List.getElem_toArray, List.getElem_cons_zero, List.getElem_cons_succ, List.setIfInBounds_toArray, List.set_cons_zero, List.set_cons_succ])
        refine wpAnyH_ready (rs := [2]) (by decide +kernel) (by simp) ?_
        refine AllReadyH.cons rfl (fun K hK => ?_) AllReadyH.nil
        go_simp
        refine (HSa.out _ (HX.out.up hcur).p1 (HX.out.up hcur).p2).mono ?_
        rintro e wn ⟨rfl, hbn⟩
        go_wp2_with fail
        refine hK.out _ _ (below_of hcur hbn) (fun _ => ?_)
        clear hK K
        replace hcur := below_of hcur hbn
        clear hbn
        (try simp only [Act.put, List.getElem_toArray, List.getElem_cons_zero, List.getElem_cons_succ, List.setIfInBounds_toArray, List.set_cons_zero, List.set_cons_succ])
        refine wpAnyH_take (i := 3) (v := ?_) rfl (by decide +kernel) (by decide +kernel) (by decide +kernel) (fun _ _ _ h => h) (Or.inl ⟨by rfl, ?hy⟩) hcur ?_
        case hy =>
          intro w1 hSw
          replace hSw : Below W.heap.size W w1 := hSw
          obtain ⟨x0, x1, x2, x3, x4⟩ := op5_facts (HX.out.up hSw).h6
          obtain ⟨y0, y1, y2, y3, -, -, -, -⟩ := an_facts (HX.out.up hSw).h7
          obtain ⟨z0, z1, z2, z3, -, -, -, -⟩ := an_facts (HX.out.up hSw).h9
          go_simp
          (try with_reducible rfl)
        (try simp only [Act.put, List.getElem_toArray, List.getElem_cons_zero, List.getElem_cons_succ, List.setIfInBounds_toArray, List.set_cons_zero, List.set_cons_succ])
        refine wpAnyH_take (i := 4) (v := ?_) rfl (by decide +kernel) (by decide +kernel) (by decide +kernel) (fun _ _ _ h => h) (Or.inl ⟨by rfl, ?hy⟩) hcur ?_
        case hy =>
          intro w1 hSw
          replace hSw : Below W.heap.size W w1 := hSw
          obtain ⟨x0, x1, x2, x3, x4⟩ := op5_facts (HX.out.up hSw).h6
          obtain ⟨y0, y1, y2, y3, -, -, -, -⟩ := an_facts (HX.out.up hSw).h7
          obtain ⟨z0, z1, z2, z3, -, -, -, -⟩ := an_facts (HX.out.up hSw).h9
          go_simp
          (try with_reducible rfl)
        (try simp only [Act.put, List.getElem_toArray, List.getElem_cons_zero, List.getElem_cons_succ, List.setIfInBounds_toArray, List.set_cons_zero, List.set_cons_succ])
        refine wpAnyH_take (i := 5) (v := ?_) rfl (by decide +kernel) (by decide +kernel) (by decide +kernel) (fun _ _ _ h => h) (Or.inl ⟨by rfl, ?hy⟩) hcur ?_
        case hy =>
          intro w1 hSw
          replace hSw : Below W.heap.size W w1 := hSw
          obtain ⟨x0, x1, x2, x3, x4⟩ := op5_facts (HX.out.up hSw).h6
          obtain ⟨y0, y1, y2, y3, -, -, -, -⟩ := an_facts (HX.out.up hSw).h7
          obtain ⟨z0, z1, z2, z3, -, -, -, -⟩ := an_facts (HX.out.up hSw).h9
          go_simp
          (try with_reducible rfl)
        (try simp only [Act.put, List.getElem_toArray, List.getElem_cons_zero, List.getElem_cons_succ, List.setIfInBounds_toArray, List.set_cons_zero, List.set_cons_succ])
        refine wpAnyH_take (i := 7) (v := ?_) rfl (by decide +kernel) (by decide +kernel) (by decide +kernel) (fun _ _ _ h => h) (Or.inl ⟨by rfl, ?hy⟩) hcur ?_
        case hy =>
          intro w1 hSw
          replace hSw : Below W.heap.size W w1 := hSw
          obtain ⟨x0, x1, x2, x3, x4⟩ := op5_facts (HX.out.up hSw).h6
          obtain ⟨y0, y1, y2, y3, -, -, -, -⟩ := an_facts (HX.out.up hSw).h7
          obtain ⟨z0, z1, z2, z3, -, -, -, -⟩ := an_facts (HX.out.up hSw).h9
          go_simp
          (try with_reducible rfl)
        (try simp only [Act.put, List.getElem_toArray, List.getElem_cons_zero, List.getElem_cons_succ, List.setIfInBounds_toArray, List.set_cons_zero, List.set_cons_succ])
        refine wpAnyH_ready (rs := [6]) (by decide +kernel) (by simp) ?_
        refine AllReadyH.cons rfl (fun K hK => ?_) AllReadyH.nil
        go_simp
        refine (HAl.out _ (HPS.out.up hcur).map).mono ?_
        rintro e wn ⟨AHQ1, cHQ1, rfl, hown, hbn⟩
        have HQ1 := Lib.hid (prs_of_own hown rfl)
        skip
        clear hown
        go_wp2_with fail
        refine hK.out _ _ (below_of hcur hbn) (fun _ => ?_)
        clear hK K
        replace hcur := below_of hcur hbn
        clear hbn
        (try simp only [Act.put, List.getElem_toArray, List.getElem_cons_zero, List.getElem_cons_succ, List.setIfInBounds_toArray, List.set_cons_zero, List.set_cons_succ])
        refine wpAnyH_ready (rs := [8]) (by decide +kernel) (by simp) ?_
        refine AllReadyH.cons rfl (fun K hK => ?_) AllReadyH.nil
        go_simp
        refine (HAr.out _ (HPS.out.up hcur).prs).mono ?_
        rintro e wn ⟨AHQ2, cHQ2, rfl, hown, hbn⟩
        have HQ2 := Lib.hid (prs_of_own hown rfl)
        replace HQ1 := Lib.hid (HQ1.out.up hbn)
        clear hown
        go_wp2_with fail
        refine hK.out _ _ (below_of hcur hbn) (fun _ => ?_)
        clear hK K
        replace hcur := below_of hcur hbn
        clear hbn
        (try simp only [Act.put, List.getElem_toArray, List.getElem_cons_zero, List.getElem_cons_succ, List.setIfInBounds_toArray, List.set_cons_zero, List.set_cons_succ])
        refine wpAnyH_ready (rs := [9]) (by decide +kernel) (by simp) ?_
        refine AllReadyH.cons rfl (fun K hK => ?_) AllReadyH.nil
        go_simp
        refine (HSm.out _ _ _ _ _ HQ1.out HQ2.out).mono ?_
        rintro e wn ⟨rfl, hbn⟩
        go_wp2_with fail
        refine hK.out _ _ (below_of hcur hbn) (fun _ => ?_)
        clear hK K
        replace hcur := below_of hcur hbn
        clear hbn
        (try simp only [Act.put, List.getElem_toArray, List.getElem_cons_zero, List.getElem_cons_succ, List.setIfInBounds_toArray, List.set_cons_zero, List.set_cons_succ])
        refine wpAnyH_take (i := 10) (v := ?_) rfl (by decide +kernel) (by decide +kernel) (by decide +kernel) (fun _ _ _ h => h) (Or.inl ⟨by rfl, ?hy⟩) hcur ?_
        case hy =>
          intro w1 hSw
          replace hSw : Below W.heap.size W w1 := hSw
          obtain ⟨x0, x1, x2, x3, x4⟩ := op5_facts (HX.out.up hSw).h6
          obtain ⟨y0, y1, y2, y3, -, -, -, -⟩ := an_facts (HX.out.up hSw).h7
          obtain ⟨z0, z1, z2, z3, -, -, -, -⟩ := an_facts (HX.out.up hSw).h9
          go_simp
          (try with_reducible rfl)
        (try simp only [Act.put, List.getElem_toArray, List.getElem_cons_zero, List.getElem_cons_succ, List.setIfInBounds_toArray, List.set_cons_zero, List.set_cons_succ])
        refine wpAnyH_take (i := 11) (v := ?_) rfl (by decide +kernel) (by decide +kernel) (by decide +kernel) (fun _ _ _ h => h) (Or.inl ⟨by rfl, ?hy⟩) hcur ?_
        case hy =>
          intro w1 hSw
          replace hSw : Below W.heap.size W w1 := hSw
          obtain ⟨x0, x1, x2, x3, x4⟩ := op5_facts (HX.out.up hSw).h6
          obtain ⟨y0, y1, y2, y3, -, -, -, -⟩ := an_facts (HX.out.up hSw).h7
          obtain ⟨z0, z1, z2, z3, -, -, -, -⟩ := an_facts (HX.out.up hSw).h9
          go_simp
          (try with_reducible rfl)
        (try simp only [Act.put, List.getElem_toArray, List.getElem_cons_zero, List.getElem_cons_succ, List.setIfInBounds_toArray, List.set_cons_zero, List.set_cons_succ])
        refine wpAnyH_take (i := 12) (v := ?_) rfl (by decide +kernel) (by decide +kernel) (by decide +kernel) (fun _ _ _ h => h) (Or.inl ⟨by rfl, ?hy⟩) hcur ?_
        case hy =>
          intro w1 hSw
          replace hSw : Below W.heap.size W w1 := hSw
          obtain ⟨x0, x1, x2, x3, x4⟩ := op5_facts (HX.out.up hSw).h6
          obtain ⟨y0, y1, y2, y3, -, -, -, -⟩ := an_facts (HX.out.up hSw).h7
          obtain ⟨z0, z1, z2, z3, -, -, -, -⟩ := an_facts (HX.out.up hSw).h9
          go_simp
          (try with_reducible rfl)
        (try simp only [Act.put, List.getElem_toArray, List.getElem_cons_zero, List.getElem_cons_succ, List.setIfInBounds_toArray, List.set_cons_zero, List.set_cons_succ])
        refine wpAnyH_take (i := 13) (v := ?_) rfl (by decide +kernel) (by decide +kernel) (by decide +kernel) (fun _ _ _ h => h) (Or.inl ⟨by rfl, ?hy⟩) hcur ?_
        case hy =>
          intro w1 hSw
          replace hSw : Below W.heap.size W w1 := hSw
          obtain ⟨x0, x1, x2, x3, x4⟩ := op5_facts (HX.out.up hSw).h6
          obtain ⟨y0, y1, y2, y3, -, -, -, -⟩ := an_facts (HX.out.up hSw).h7
          obtain ⟨z0, z1, z2, z3, -, -, -, -⟩ := an_facts (HX.out.up hSw).h9
          go_simp
          (try with_reducible rfl)
        (try simp only [Act.put, List.getElem_toArray, List.getElem_cons_zero, List.getElem_cons_succ, List.setIfInBounds_toArray, List.set_cons_zero, List.set_cons_succ])
        refine wpAnyH_take (i := 14) (v := ?_) rfl (by decide +kernel) (by decide +kernel) (by decide +kernel) (fun _ _ _ h => h) (Or.inl ⟨by rfl, ?hy⟩) hcur ?_
        case hy =>
          intro w1 hSw
          replace hSw : Below W.heap.size W w1 := hSw
          obtain ⟨x0, x1, x2, x3, x4⟩ := op5_facts (HX.out.up hSw).h6
          obtain ⟨y0, y1, y2, y3, -, -, -, -⟩ := an_facts (HX.out.up hSw).h7
          obtain ⟨z0, z1, z2, z3, -, -, -, -⟩ := an_facts (HX.out.up hSw).h9
          go_simp
          (try with_reducible rfl)
        (try simp only [Act.put, List.getElem_toArray, List.getElem_cons_zero, List.getElem_cons_succ, List.setIfInBounds_toArray, List.set_cons_zero, List.set_cons_succ])
        refine wpAnyH_take (i := 16) (v := ?_) rfl (by decide +kernel) (by decide +kernel) (by decide +kernel) (fun _ _ _ h => h) (Or.inl ⟨by rfl, ?hy⟩) hcur ?_
        case hy =>
          intro w1 hSw
          replace hSw : Below W.heap.size W w1 := hSw
          obtain ⟨x0, x1, x2, x3, x4⟩ := op5_facts (HX.out.up hSw).h6
          obtain ⟨y0, y1, y2, y3, -, -, -, -⟩ := an_facts (HX.out.up hSw).h7
          obtain ⟨z0, z1, z2, z3, -, -, -, -⟩ := an_facts (HX.out.up hSw).h9
          go_simp
          (try with_reducible rfl)
        (try simp only [Act.put, List.getElem_toArray, List.getElem_cons_zero, List.getElem_cons_succ, List.setIfInBounds_toArray, List.set_cons_zero, List.set_cons_succ])
        refine wpAnyH_take (i := 17) (v := ?_) rfl (by decide +kernel) (by decide +kernel) (by decide +kernel) (fun _ _ _ h => h) (Or.inl ⟨by rfl, ?hy⟩) hcur ?_
        case hy =>
          intro w1 hSw
          replace hSw : Below W.heap.size W w1 := hSw
          obtain ⟨x0, x1, x2, x3, x4⟩ := op5_facts (HX.out.up hSw).h6
          obtain ⟨y0, y1, y2, y3, -, -, -, -⟩ := an_facts (HX.out.up hSw).h7
          obtain ⟨z0, z1, z2, z3, -, -, -, -⟩ := an_facts (HX.out.up hSw).h9
          go_simp
          (try with_reducible rfl)
        (try simp only [Act.put, List.getElem_toArray, List.getElem_cons_zero, List.getElem_cons_succ, List.setIfInBounds_toArray, List.set_cons_zero, List.set_cons_succ])
        refine wpAnyH_ready (rs := [15]) (by decide +kernel) (by simp) ?_
        refine AllReadyH.cons rfl (fun K hK => ?_) AllReadyH.nil
        go_simp
        refine (HT1.out _ _ _).mono ?_
        rintro e wn ⟨rfl, hbn⟩
        go_wp2_with fail
        refine hK.out _ _ (below_of hcur hbn) (fun _ => ?_)
        clear hK K
        replace hcur := below_of hcur hbn
        clear hbn
        (try simp only [Act.put, List.getElem_toArray, List.getElem_cons_zero, List.getElem_cons_succ, List.setIfInBounds_toArray, List.set_cons_zero, List.set_cons_succ])
        refine wpAnyH_ready (rs := [18]) (by decide +kernel) (by simp) ?_
        refine AllReadyH.cons rfl (fun K hK => ?_) AllReadyH.nil
        go_simp
        refine (HT2.out _ _ _).mono ?_
        rintro e wn ⟨rfl, hbn⟩
        go_wp2_with fail
        refine hK.out _ _ (below_of hcur hbn) (fun _ => ?_)
        clear hK K
        replace hcur := below_of hcur hbn
        clear hbn
        (try simp only [Act.put, List.getElem_toArray, List.getElem_cons_zero, List.getElem_cons_succ, List.setIfInBounds_toArray, List.set_cons_zero, List.set_cons_succ])
        refine wpAnyH_take (i := 19) (v := ?_) rfl (by decide +kernel) (by decide +kernel) (by decide +kernel) (fun _ _ _ h => h) (Or.inl ⟨by rfl, ?hy⟩) hcur ?_
        case hy =>
          intro w1 hSw
          replace hSw : Below W.heap.size W w1 := hSw
          obtain ⟨x0, x1, x2, x3, x4⟩ := op5_facts (HX.out.up hSw).h6
          obtain ⟨y0, y1, y2, y3, -, -, -, -⟩ := an_facts (HX.out.up hSw).h7
          obtain ⟨z0, z1, z2, z3, -, -, -, -⟩ := an_facts (HX.out.up hSw).h9
          go_simp
          (try with_reducible rfl)
        (try simp only [Act.put, List.getElem_toArray, List.getElem_cons_zero, List.getElem_cons_succ, List.setIfInBounds_toArray, List.set_cons_zero, List.set_cons_succ])
        refine wpAnyH_take (i := 20) (v := ?_) rfl (by decide +kernel) (by decide +kernel) (by decide +kernel) (fun _ _ _ h => h) (Or.inl ⟨by rfl, ?hy⟩) hcur ?_
        case hy =>
          intro w1 hSw
          replace hSw : Below W.heap.size W w1 := hSw
          obtain ⟨x0, x1, x2, x3, x4⟩ := op5_facts (HX.out.up hSw).h6
          obtain ⟨y0, y1, y2, y3, -, -, -, -⟩ := an_facts (HX.out.up hSw).h7
          obtain ⟨z0, z1, z2, z3, -, -, -, -⟩ := an_facts (HX.out.up hSw).h9
          go_simp
          (try with_reducible rfl)
        (try simp only [Act.put, List.getElem_toArray, List.getElem_cons_zero, List.getElem_cons_succ, List.setIfInBounds_toArray, List.set_cons_zero, List.set_cons_succ])
        refine wpAnyH_done (by decide +kernel) ?_ _
        have HZ := Lib.hid (HPS.out.up hcur)
        clear hcur
        go_wp2_with fail
        go_roundw
        case rel => exact ⟨j + 1, M2, c2, ms2, ks2, vs2, by go_num, rfl, by omega, HZ.out⟩
        case measure => simp [intOf]; omega
      · obtain rfl : j = xs.length := by have := H.out.1; omega
        clear H hlt
        go_wp2_with fail
        refine (lives18_any _).mono ?_
        rintro e w9 ⟨rfl, hb9⟩
        go_wp2_with fail
        go_ret
        exact ⟨rfl, below_of HPS.out.below hb9⟩

end Go.Proofs.Ytggjlnjpokdfpaa
