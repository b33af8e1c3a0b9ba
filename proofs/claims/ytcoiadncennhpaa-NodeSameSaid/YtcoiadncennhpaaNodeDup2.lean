/- The law NodeSame: the walk. -/
import Derived.Test.YtcoiadncennhpaaNodeDup
namespace Go.Proofs.Ytcoiadncennhpaa
open Go.RowKit

/-- Two nodes in variables. -/
structure TwoNd (w W : World) (a b : Nd) (A B C A' B' C' : Option Addr) (ca cb cc ca' cb' cc' : Nat) : Prop where
  one : Boxed W w.heap.size a A B C ca cb cc
  two : Boxed W (w.heap.size + 1) b A' B' C' ca' cb' cc'
  sz : w.heap.size + 1 < W.heap.size
  la : Lies W a A B C ca cb cc
  lb : Lies W b A' B' C' ca' cb' cc'
  bel : Below w.heap.size w W
theorem TwoNd.up {w W W' : World} {a b : Nd} {A B C A' B' C' : Option Addr} {ca cb cc ca' cb' cc' : Nat} (h : TwoNd w W a b A B C A' B' C' ca cb cc ca' cb' cc') (hb : Below W.heap.size W W') : TwoNd w W' a b A B C A' B' C' ca cb cc ca' cb' cc' :=
  ⟨h.one.up hb (by have := h.sz; omega), h.two.up hb h.sz, Nat.lt_of_lt_of_le h.sz hb.size, h.la.up hb, h.lb.up hb, below_of h.bel hb⟩

set_option maxRecDepth 100000 in
set_option maxHeartbeats 16000000 in
theorem nodesame_any (a b : Nd) (A B C A' B' C' : Option Addr) (ca cb cc ca' cb' cc' : Nat) (w : World) (h : Lies w a A B C ca cb cc) (k : Lies w b A' B' C' ca' cb' cc') :
    Calls Try.prog 4 #[.agg (ndCells a A B C ca cb cc), .agg (ndCells b A' B' C' ca' cb' cc')] w (Ret (.bool true) w) := by
  obtain ⟨hn1, hn2, hbl, hsz⟩ := two_boxes w a b A B C A' B' C' ca cb cc ca' cb' cc' 26
  have HT := Lib.hid (show TwoNd w _ a b A B C A' B' C' ca cb cc ca' cb' cc' from ⟨hn1, hn2, hsz, h.up hbl, k.up hbl, hbl⟩)
  have HLa := Lib.hid (fun W hW => lightN_any a A B C ca cb cc W hW)
  have HLb := Lib.hid (fun W hW => lightN_any b A' B' C' ca' cb' cc' W hW)
  have HSp := Lib.hid (lightN_spec (d := a))
  clear hn1 hn2 hbl hsz h k
  generalize lightN a = la at HLa HSp
  generalize lightN b = lb at HLb
  obtain ⟨level, low, high, last, next, keys, vals, kids⟩ := a
  obtain ⟨level', low', high', last', next', keys', vals', kids'⟩ := b
  simp only [ndCells] at HT HLa HLb ⊢
  simp only [] at HSp
  go_enter Try.func4, Try.ntmps4
  go_upto_region 1 with fail
  generalize (w.alloc _).alloc _ = W at HT ⊢
  obtain ⟨x0, x1, x2, x3, x4, x5, x6, x7⟩ := HT.out.one
  obtain ⟨y0, y1, y2, y3, y4, y5, y6, y7⟩ := HT.out.two
  simp only [] at x0 x1 x2 x3 x4 x5 x6 x7 y0 y1 y2 y3 y4 y5 y6 y7
  go_wp2_with fail
  refine (HLa.out _ HT.out.la).mono ?_
  rintro e W1 ⟨rfl, hbn⟩
  clear x0 x1 x2 x3 x4 x5 x6 x7 y0 y1 y2 y3 y4 y5 y6 y7
  replace HT := Lib.hid (HT.out.up hbn)
  clear hbn
  cases la
  · go_wp2_with fail
    refine (lives10_any _).mono ?_
    rintro e w2 ⟨rfl, hb2⟩
    go_wp2_with fail
    go_ret
    exact ⟨rfl, below_of HT.out.bel hb2⟩
  · replace HSp := Lib.hid (HSp.out rfl)
    obtain ⟨x0, x1, x2, x3, x4, x5, x6, x7⟩ := HT.out.one
    obtain ⟨y0, y1, y2, y3, y4, y5, y6, y7⟩ := HT.out.two
    simp only [] at x0 x1 x2 x3 x4 x5 x6 x7 y0 y1 y2 y3 y4 y5 y6 y7
    go_wp2_with fail
    refine (HLb.out _ HT.out.lb).mono ?_
    rintro e W ⟨rfl, hbn⟩
    clear x0 x1 x2 x3 x4 x5 x6 x7 y0 y1 y2 y3 y4 y5 y6 y7
    replace HT := Lib.hid (HT.out.up hbn)
    clear hbn
    cases lb
    · go_wp2_with fail
      refine (lives10_any _).mono ?_
      rintro e w2 ⟨rfl, hb2⟩
      go_wp2_with fail
      go_ret
      exact ⟨rfl, below_of HT.out.bel hb2⟩
    · go_upto_region 3 with fail
      go_cut [5, 6] (fun s5 s6 wx => ∃ g5 g6 c1 c2 c3 d1 d2 d3, s5 = .pointer (some ⟨g5, 0, none⟩) ∧ s6 = .pointer (some ⟨g6, 0, none⟩) ∧ Hid (Dup W wx ⟨level, low, high, last, next, keys, vals, kids⟩ g5 g6 c1 c2 c3 d1 d2 d3))
      case first =>
        have hS := Lib.hid (Sx.start W)
        refine wp_region_held_drew (S := fun w' => Below W.heap.size W w') (by kernel_rfl) (Below.drew (Below.refl _ _)) (fun hcur => ?_)
        replace hcur : Below W.heap.size W W.drew := hcur
        generalize W.drew = X at hS hcur ⊢
        refine wpAnyH_take (i := 0) (v := ?_) rfl (by decide +kernel) (by decide +kernel) (by decide +kernel) (fun _ _ _ h => h) (Or.inl ⟨by rfl, ?hy⟩) hcur ?_
        case hy =>
          intro w1 hSw
          replace hSw : Below W.heap.size W w1 := hSw
          obtain ⟨x0, x1, x2, x3, x4, x5, x6, x7⟩ := (HT.out.up hSw).one
          obtain ⟨y0, y1, y2, y3, y4, y5, y6, y7⟩ := (HT.out.up hSw).two
          simp only [] at x0 x1 x2 x3 x4 x5 x6 x7 y0 y1 y2 y3 y4 y5 y6 y7
          (try (obtain ⟨z0, z1, z2, z3, z4, z5, z6, z7⟩ := HQ.out.1.up hSw HQ.out.2.1; simp only [] at z0 z1 z2 z3 z4 z5 z6 z7))
          go_simp
          (try with_reducible rfl)
        (try simp only [Act.put, List.getElem_toArray, List.getElem_cons_zero, List.getElem_cons_succ, List.setIfInBounds_toArray, List.set_cons_zero, List.set_cons_succ])
        refine wpAnyH_take (i := 2) (v := ?_) rfl (by decide +kernel) (by decide +kernel) (by decide +kernel) (fun _ _ _ h => h) (Or.inl ⟨by rfl, ?hy⟩) hcur ?_
        case hy =>
          intro w1 hSw
          replace hSw : Below W.heap.size W w1 := hSw
          obtain ⟨x0, x1, x2, x3, x4, x5, x6, x7⟩ := (HT.out.up hSw).one
          obtain ⟨y0, y1, y2, y3, y4, y5, y6, y7⟩ := (HT.out.up hSw).two
          simp only [] at x0 x1 x2 x3 x4 x5 x6 x7 y0 y1 y2 y3 y4 y5 y6 y7
          (try (obtain ⟨z0, z1, z2, z3, z4, z5, z6, z7⟩ := HQ.out.1.up hSw HQ.out.2.1; simp only [] at z0 z1 z2 z3 z4 z5 z6 z7))
          go_simp
          (try with_reducible rfl)
        (try simp only [Act.put, List.getElem_toArray, List.getElem_cons_zero, List.getElem_cons_succ, List.setIfInBounds_toArray, List.set_cons_zero, List.set_cons_succ])
        refine wpAnyH_ready (rs := [1, 4, 5]) (by decide +kernel) (by simp) ?_
        refine AllReadyH.cons rfl (fun K hK => ?_) (AllReadyH.cons rfl (fun K hK => ?_) (AllReadyH.cons rfl (fun K hK => ?_) AllReadyH.nil))
        · go_simp
          refine (cloneN_any ⟨level, low, high, last, next, keys, vals, kids⟩ A B C ca cb cc _ (HT.out.up hcur).la (by have := HSp.out.2.1; simp only []; omega) (by have := HSp.out.2.2.1; simp only []; omega) (by have := HSp.out.2.2.2.1; simp only []; omega)).mono ?_
          rintro e X ⟨a1, a2, a3, rfl, r1, r2, r3, n12, n13, n23, m1, m2, m3, hbn⟩
          replace hS := Lib.hid (hS.out.rows (d := ⟨level, low, high, last, next, keys, vals, kids⟩) r1 r2 r3 n12 n13 n23 m1 m2 m3 hbn)
          clear r1 r2 r3 n12 n13 n23 m1 m2 m3
          simp only [ndCells]
          go_wp2_with fail
          refine hK.out _ _ (below_of hcur hbn) (fun _ => ?_)
          clear hK K
          replace hcur := below_of hcur hbn
          clear hbn
          (try simp only [Act.put, List.getElem_toArray, List.getElem_cons_zero, List.getElem_cons_succ, List.setIfInBounds_toArray, List.set_cons_zero, List.set_cons_succ])
          refine wpAnyH_ready (rs := [3, 4, 5]) (by decide +kernel) (by simp) ?_
          refine AllReadyH.cons rfl (fun K hK => ?_) (AllReadyH.cons rfl (fun K hK => ?_) (AllReadyH.cons rfl (fun K hK => ?_) AllReadyH.nil))
          · go_simp
            refine (cloneN_any ⟨level, low, high, last, next, keys, vals, kids⟩ A B C ca cb cc _ (HT.out.up hcur).la (by have := HSp.out.2.1; simp only []; omega) (by have := HSp.out.2.2.1; simp only []; omega) (by have := HSp.out.2.2.2.1; simp only []; omega)).mono ?_
            rintro e X ⟨b1, b2, b3, rfl, r1, r2, r3, n12, n13, n23, m1, m2, m3, hbn⟩
            replace hS := Lib.hid (hS.out.rows (d := ⟨level, low, high, last, next, keys, vals, kids⟩) r1 r2 r3 n12 n13 n23 m1 m2 m3 hbn)
            clear r1 r2 r3 n12 n13 n23 m1 m2 m3
            simp only [ndCells]
            go_wp2_with fail
            refine hK.out _ _ (below_of hcur hbn) (fun _ => ?_)
            clear hK K
            replace hcur := below_of hcur hbn
            clear hbn
            (try simp only [Act.put, List.getElem_toArray, List.getElem_cons_zero, List.getElem_cons_succ, List.setIfInBounds_toArray, List.set_cons_zero, List.set_cons_succ])
            refine wpAnyH_ready (rs := [4, 5]) (by decide +kernel) (by simp) ?_
            refine AllReadyH.cons rfl (fun K hK => ?_) (AllReadyH.cons rfl (fun K hK => ?_) AllReadyH.nil)
            · go_simp
              refine hK.out _ _ (below_of hcur (below_alloc _ _)) (fun hcur2 => ?_)
              clear hK K
              replace hS := Lib.hid (hS.out.alloc (.cells #[.int .i64 0, .string ⟨#[]⟩, .string ⟨#[]⟩, .bool false, .int .i64 0, .slice none 0 0, .slice none 0 0, .slice none 0 0] 26))
              replace hcur : Below W.heap.size W _ := hcur2
              clear hcur2
              (try simp only [Act.put, List.getElem_toArray, List.getElem_cons_zero, List.getElem_cons_succ, List.setIfInBounds_toArray, List.set_cons_zero, List.set_cons_succ])
              generalize X.heap.size = g5 at hS ⊢
              generalize X.alloc _ = X at hS hcur ⊢
              refine wpAnyH_ready (rs := [5]) (by decide +kernel) (by simp) ?_
              refine AllReadyH.cons rfl (fun K hK => ?_) AllReadyH.nil
              go_simp
              refine hK.out _ _ (below_of hcur (below_alloc _ _)) (fun hcur2 => ?_)
              clear hK K
              replace hS := Lib.hid (hS.out.alloc (.cells #[.int .i64 0, .string ⟨#[]⟩, .string ⟨#[]⟩, .bool false, .int .i64 0, .slice none 0 0, .slice none 0 0, .slice none 0 0] 26))
              replace hcur : Below W.heap.size W _ := hcur2
              clear hcur2
              (try simp only [Act.put, List.getElem_toArray, List.getElem_cons_zero, List.getElem_cons_succ, List.setIfInBounds_toArray, List.set_cons_zero, List.set_cons_succ])
              generalize X.heap.size = g6 at hS ⊢
              generalize X.alloc _ = X at hS hcur ⊢
              refine wpAnyH_ready (rs := [6]) (by decide +kernel) (by simp) ?_
              refine AllReadyH.cons rfl (fun K hK => ?_) AllReadyH.nil
              obtain ⟨e0, e1, e2, e3, e4, e5, e6, e7, f0, f1, f2, f3, f4, f5, f6, f7⟩ := nd_facts (hS.out.has 6 _ _ rfl).1
              go_simp
              replace hS := Lib.hid (hS.out.store 6 rfl (.int .i64 level) (.string low) (.string high) (.bool last) (.int .i64 next) (.slice (some ⟨a1, 0, none⟩) keys.length keys.length) (.slice (some ⟨a2, 0, none⟩) vals.length vals.length) (.slice (some ⟨a3, 0, none⟩) kids.length kids.length))
              clear e0 e1 e2 e3 e4 e5 e6 e7 f0 f1 f2 f3 f4 f5 f6 f7
              simp only [set8] at hS
              refine hK.out _ _ hS.out.below (fun _ => ?_)
              clear hK K
              replace hcur := hS.out.below
              (try simp only [Act.put, List.getElem_toArray, List.getElem_cons_zero, List.getElem_cons_succ, List.setIfInBounds_toArray, List.set_cons_zero, List.set_cons_succ])
              generalize World.setCell _ _ _ = X at hS hcur ⊢
              refine wpAnyH_ready (rs := [7]) (by decide +kernel) (by simp) ?_
              refine AllReadyH.cons rfl (fun K hK => ?_) AllReadyH.nil
              obtain ⟨e0, e1, e2, e3, e4, e5, e6, e7, f0, f1, f2, f3, f4, f5, f6, f7⟩ := nd_facts (hS.out.has 7 _ _ rfl).1
              go_simp
              replace hS := Lib.hid (hS.out.store 7 rfl (.int .i64 level) (.string low) (.string high) (.bool last) (.int .i64 next) (.slice (some ⟨b1, 0, none⟩) keys.length keys.length) (.slice (some ⟨b2, 0, none⟩) vals.length vals.length) (.slice (some ⟨b3, 0, none⟩) kids.length kids.length))
              clear e0 e1 e2 e3 e4 e5 e6 e7 f0 f1 f2 f3 f4 f5 f6 f7
              simp only [set8] at hS
              refine hK.out _ _ hS.out.below (fun _ => ?_)
              clear hK K
              replace hcur := hS.out.below
              (try simp only [Act.put, List.getElem_toArray, List.getElem_cons_zero, List.getElem_cons_succ, List.setIfInBounds_toArray, List.set_cons_zero, List.set_cons_succ])
              generalize World.setCell _ _ _ = X at hS hcur ⊢
              refine wpAnyH_done (by decide +kernel) ?_ _
              go_wp2_with fail
              go_meet
              exact ⟨g5, g6, a1, a2, a3, b1, b2, b3, rfl, rfl, Lib.hid (hS.out.dup 6 7 0 3 rfl rfl rfl rfl rfl rfl rfl rfl (by decide) (by decide) (by decide) (by decide))⟩
            · go_simp
              refine hK.out _ _ (below_of hcur (below_alloc _ _)) (fun hcur2 => ?_)
              clear hK K
              replace hS := Lib.hid (hS.out.alloc (.cells #[.int .i64 0, .string ⟨#[]⟩, .string ⟨#[]⟩, .bool false, .int .i64 0, .slice none 0 0, .slice none 0 0, .slice none 0 0] 26))
              replace hcur : Below W.heap.size W _ := hcur2
              clear hcur2
              (try simp only [Act.put, List.getElem_toArray, List.getElem_cons_zero, List.getElem_cons_succ, List.setIfInBounds_toArray, List.set_cons_zero, List.set_cons_succ])
              generalize X.heap.size = g6 at hS ⊢
              generalize X.alloc _ = X at hS hcur ⊢
              refine wpAnyH_ready (rs := [4]) (by decide +kernel) (by simp) ?_
              refine AllReadyH.cons rfl (fun K hK => ?_) AllReadyH.nil
              go_simp
              refine hK.out _ _ (below_of hcur (below_alloc _ _)) (fun hcur2 => ?_)
              clear hK K
              replace hS := Lib.hid (hS.out.alloc (.cells #[.int .i64 0, .string ⟨#[]⟩, .string ⟨#[]⟩, .bool false, .int .i64 0, .slice none 0 0, .slice none 0 0, .slice none 0 0] 26))
              replace hcur : Below W.heap.size W _ := hcur2
              clear hcur2
              (try simp only [Act.put, List.getElem_toArray, List.getElem_cons_zero, List.getElem_cons_succ, List.setIfInBounds_toArray, List.set_cons_zero, List.set_cons_succ])
              generalize X.heap.size = g5 at hS ⊢
              generalize X.alloc _ = X at hS hcur ⊢
              refine wpAnyH_ready (rs := [6]) (by decide +kernel) (by simp) ?_
              refine AllReadyH.cons rfl (fun K hK => ?_) AllReadyH.nil
              obtain ⟨e0, e1, e2, e3, e4, e5, e6, e7, f0, f1, f2, f3, f4, f5, f6, f7⟩ := nd_facts (hS.out.has 7 _ _ rfl).1
              go_simp
              replace hS := Lib.hid (hS.out.store 7 rfl (.int .i64 level) (.string low) (.string high) (.bool last) (.int .i64 next) (.slice (some ⟨a1, 0, none⟩) keys.length keys.length) (.slice (some ⟨a2, 0, none⟩) vals.length vals.length) (.slice (some ⟨a3, 0, none⟩) kids.length kids.length))
              clear e0 e1 e2 e3 e4 e5 e6 e7 f0 f1 f2 f3 f4 f5 f6 f7
              simp only [set8] at hS
              refine hK.out _ _ hS.out.below (fun _ => ?_)
              clear hK K
              replace hcur := hS.out.below
              (try simp only [Act.put, List.getElem_toArray, List.getElem_cons_zero, List.getElem_cons_succ, List.setIfInBounds_toArray, List.set_cons_zero, List.set_cons_succ])
              generalize World.setCell _ _ _ = X at hS hcur ⊢
              refine wpAnyH_ready (rs := [7]) (by decide +kernel) (by simp) ?_
              refine AllReadyH.cons rfl (fun K hK => ?_) AllReadyH.nil
              obtain ⟨e0, e1, e2, e3, e4, e5, e6, e7, f0, f1, f2, f3, f4, f5, f6, f7⟩ := nd_facts (hS.out.has 6 _ _ rfl).1
              go_simp
              replace hS := Lib.hid (hS.out.store 6 rfl (.int .i64 level) (.string low) (.string high) (.bool last) (.int .i64 next) (.slice (some ⟨b1, 0, none⟩) keys.length keys.length) (.slice (some ⟨b2, 0, none⟩) vals.length vals.length) (.slice (some ⟨b3, 0, none⟩) kids.length kids.length))
              clear e0 e1 e2 e3 e4 e5 e6 e7 f0 f1 f2 f3 f4 f5 f6 f7
              simp only [set8] at hS
              refine hK.out _ _ hS.out.below (fun _ => ?_)
              clear hK K
              replace hcur := hS.out.below
              (try simp only [Act.put, List.getElem_toArray, List.getElem_cons_zero, List.getElem_cons_succ, List.setIfInBounds_toArray, List.set_cons_zero, List.set_cons_succ])
              generalize World.setCell _ _ _ = X at hS hcur ⊢
              refine wpAnyH_done (by decide +kernel) ?_ _
              go_wp2_with fail
              go_meet
              exact ⟨g5, g6, a1, a2, a3, b1, b2, b3, rfl, rfl, Lib.hid (hS.out.dup 7 6 0 3 rfl rfl rfl rfl rfl rfl rfl rfl (by decide) (by decide) (by decide) (by decide))⟩
          · go_simp
            refine hK.out _ _ (below_of hcur (below_alloc _ _)) (fun hcur2 => ?_)
            clear hK K
            replace hS := Lib.hid (hS.out.alloc (.cells #[.int .i64 0, .string ⟨#[]⟩, .string ⟨#[]⟩, .bool false, .int .i64 0, .slice none 0 0, .slice none 0 0, .slice none 0 0] 26))
            replace hcur : Below W.heap.size W _ := hcur2
            clear hcur2
            (try simp only [Act.put, List.getElem_toArray, List.getElem_cons_zero, List.getElem_cons_succ, List.setIfInBounds_toArray, List.set_cons_zero, List.set_cons_succ])
            generalize X.heap.size = g5 at hS ⊢
            generalize X.alloc _ = X at hS hcur ⊢
            refine wpAnyH_ready (rs := [3, 5]) (by decide +kernel) (by simp) ?_
            refine AllReadyH.cons rfl (fun K hK => ?_) (AllReadyH.cons rfl (fun K hK => ?_) AllReadyH.nil)
            · go_simp
              refine (cloneN_any ⟨level, low, high, last, next, keys, vals, kids⟩ A B C ca cb cc _ (HT.out.up hcur).la (by have := HSp.out.2.1; simp only []; omega) (by have := HSp.out.2.2.1; simp only []; omega) (by have := HSp.out.2.2.2.1; simp only []; omega)).mono ?_
              rintro e X ⟨b1, b2, b3, rfl, r1, r2, r3, n12, n13, n23, m1, m2, m3, hbn⟩
              replace hS := Lib.hid (hS.out.rows (d := ⟨level, low, high, last, next, keys, vals, kids⟩) r1 r2 r3 n12 n13 n23 m1 m2 m3 hbn)
              clear r1 r2 r3 n12 n13 n23 m1 m2 m3
              simp only [ndCells]
              go_wp2_with fail
              refine hK.out _ _ (below_of hcur hbn) (fun _ => ?_)
              clear hK K
              replace hcur := below_of hcur hbn
              clear hbn
              (try simp only [Act.put, List.getElem_toArray, List.getElem_cons_zero, List.getElem_cons_succ, List.setIfInBounds_toArray, List.set_cons_zero, List.set_cons_succ])
              refine wpAnyH_ready (rs := [5]) (by decide +kernel) (by simp) ?_
              refine AllReadyH.cons rfl (fun K hK => ?_) AllReadyH.nil
              go_simp
              refine hK.out _ _ (below_of hcur (below_alloc _ _)) (fun hcur2 => ?_)
              clear hK K
              replace hS := Lib.hid (hS.out.alloc (.cells #[.int .i64 0, .string ⟨#[]⟩, .string ⟨#[]⟩, .bool false, .int .i64 0, .slice none 0 0, .slice none 0 0, .slice none 0 0] 26))
              replace hcur : Below W.heap.size W _ := hcur2
              clear hcur2
              (try simp only [Act.put, List.getElem_toArray, List.getElem_cons_zero, List.getElem_cons_succ, List.setIfInBounds_toArray, List.set_cons_zero, List.set_cons_succ])
              generalize X.heap.size = g6 at hS ⊢
              generalize X.alloc _ = X at hS hcur ⊢
              refine wpAnyH_ready (rs := [6]) (by decide +kernel) (by simp) ?_
              refine AllReadyH.cons rfl (fun K hK => ?_) AllReadyH.nil
              obtain ⟨e0, e1, e2, e3, e4, e5, e6, e7, f0, f1, f2, f3, f4, f5, f6, f7⟩ := nd_facts (hS.out.has 3 _ _ rfl).1
              go_simp
              replace hS := Lib.hid (hS.out.store 3 rfl (.int .i64 level) (.string low) (.string high) (.bool last) (.int .i64 next) (.slice (some ⟨a1, 0, none⟩) keys.length keys.length) (.slice (some ⟨a2, 0, none⟩) vals.length vals.length) (.slice (some ⟨a3, 0, none⟩) kids.length kids.length))
              clear e0 e1 e2 e3 e4 e5 e6 e7 f0 f1 f2 f3 f4 f5 f6 f7
              simp only [set8] at hS
              refine hK.out _ _ hS.out.below (fun _ => ?_)
              clear hK K
              replace hcur := hS.out.below
              (try simp only [Act.put, List.getElem_toArray, List.getElem_cons_zero, List.getElem_cons_succ, List.setIfInBounds_toArray, List.set_cons_zero, List.set_cons_succ])
              generalize World.setCell _ _ _ = X at hS hcur ⊢
              refine wpAnyH_ready (rs := [7]) (by decide +kernel) (by simp) ?_
              refine AllReadyH.cons rfl (fun K hK => ?_) AllReadyH.nil
              obtain ⟨e0, e1, e2, e3, e4, e5, e6, e7, f0, f1, f2, f3, f4, f5, f6, f7⟩ := nd_facts (hS.out.has 7 _ _ rfl).1
              go_simp
              replace hS := Lib.hid (hS.out.store 7 rfl (.int .i64 level) (.string low) (.string high) (.bool last) (.int .i64 next) (.slice (some ⟨b1, 0, none⟩) keys.length keys.length) (.slice (some ⟨b2, 0, none⟩) vals.length vals.length) (.slice (some ⟨b3, 0, none⟩) kids.length kids.length))
              clear e0 e1 e2 e3 e4 e5 e6 e7 f0 f1 f2 f3 f4 f5 f6 f7
              simp only [set8] at hS
              refine hK.out _ _ hS.out.below (fun _ => ?_)
              clear hK K
              replace hcur := hS.out.below
              (try simp only [Act.put, List.getElem_toArray, List.getElem_cons_zero, List.getElem_cons_succ, List.setIfInBounds_toArray, List.set_cons_zero, List.set_cons_succ])
              generalize World.setCell _ _ _ = X at hS hcur ⊢
              refine wpAnyH_done (by decide +kernel) ?_ _
              go_wp2_with fail
              go_meet
              exact ⟨g5, g6, a1, a2, a3, b1, b2, b3, rfl, rfl, Lib.hid (hS.out.dup 3 7 0 4 rfl rfl rfl rfl rfl rfl rfl rfl (by decide) (by decide) (by decide) (by decide))⟩
            · go_simp
              refine hK.out _ _ (below_of hcur (below_alloc _ _)) (fun hcur2 => ?_)
              clear hK K
              replace hS := Lib.hid (hS.out.alloc (.cells #[.int .i64 0, .string ⟨#[]⟩, .string ⟨#[]⟩, .bool false, .int .i64 0, .slice none 0 0, .slice none 0 0, .slice none 0 0] 26))
              replace hcur : Below W.heap.size W _ := hcur2
              clear hcur2
              (try simp only [Act.put, List.getElem_toArray, List.getElem_cons_zero, List.getElem_cons_succ, List.setIfInBounds_toArray, List.set_cons_zero, List.set_cons_succ])
              generalize X.heap.size = g6 at hS ⊢
              generalize X.alloc _ = X at hS hcur ⊢
              refine wpAnyH_ready (rs := [3]) (by decide +kernel) (by simp) ?_
              refine AllReadyH.cons rfl (fun K hK => ?_) AllReadyH.nil
              go_simp
              refine (cloneN_any ⟨level, low, high, last, next, keys, vals, kids⟩ A B C ca cb cc _ (HT.out.up hcur).la (by have := HSp.out.2.1; simp only []; omega) (by have := HSp.out.2.2.1; simp only []; omega) (by have := HSp.out.2.2.2.1; simp only []; omega)).mono ?_
              rintro e X ⟨b1, b2, b3, rfl, r1, r2, r3, n12, n13, n23, m1, m2, m3, hbn⟩
              replace hS := Lib.hid (hS.out.rows (d := ⟨level, low, high, last, next, keys, vals, kids⟩) r1 r2 r3 n12 n13 n23 m1 m2 m3 hbn)
              clear r1 r2 r3 n12 n13 n23 m1 m2 m3
              simp only [ndCells]
              go_wp2_with fail
              refine hK.out _ _ (below_of hcur hbn) (fun _ => ?_)
              clear hK K
              replace hcur := below_of hcur hbn
              clear hbn
              (try simp only [Act.put, List.getElem_toArray, List.getElem_cons_zero, List.getElem_cons_succ, List.setIfInBounds_toArray, List.set_cons_zero, List.set_cons_succ])
              refine wpAnyH_ready (rs := [6]) (by decide +kernel) (by simp) ?_
              refine AllReadyH.cons rfl (fun K hK => ?_) AllReadyH.nil
              obtain ⟨e0, e1, e2, e3, e4, e5, e6, e7, f0, f1, f2, f3, f4, f5, f6, f7⟩ := nd_facts (hS.out.has 3 _ _ rfl).1
              go_simp
              replace hS := Lib.hid (hS.out.store 3 rfl (.int .i64 level) (.string low) (.string high) (.bool last) (.int .i64 next) (.slice (some ⟨a1, 0, none⟩) keys.length keys.length) (.slice (some ⟨a2, 0, none⟩) vals.length vals.length) (.slice (some ⟨a3, 0, none⟩) kids.length kids.length))
              clear e0 e1 e2 e3 e4 e5 e6 e7 f0 f1 f2 f3 f4 f5 f6 f7
              simp only [set8] at hS
              refine hK.out _ _ hS.out.below (fun _ => ?_)
              clear hK K
              replace hcur := hS.out.below
              (try simp only [Act.put, List.getElem_toArray, List.getElem_cons_zero, List.getElem_cons_succ, List.setIfInBounds_toArray, List.set_cons_zero, List.set_cons_succ])
              generalize World.setCell _ _ _ = X at hS hcur ⊢
              refine wpAnyH_ready (rs := [7]) (by decide +kernel) (by simp) ?_
              refine AllReadyH.cons rfl (fun K hK => ?_) AllReadyH.nil
              obtain ⟨e0, e1, e2, e3, e4, e5, e6, e7, f0, f1, f2, f3, f4, f5, f6, f7⟩ := nd_facts (hS.out.has 4 _ _ rfl).1
              go_simp
              replace hS := Lib.hid (hS.out.store 4 rfl (.int .i64 level) (.string low) (.string high) (.bool last) (.int .i64 next) (.slice (some ⟨b1, 0, none⟩) keys.length keys.length) (.slice (some ⟨b2, 0, none⟩) vals.length vals.length) (.slice (some ⟨b3, 0, none⟩) kids.length kids.length))
              clear e0 e1 e2 e3 e4 e5 e6 e7 f0 f1 f2 f3 f4 f5 f6 f7
              simp only [set8] at hS
              refine hK.out _ _ hS.out.below (fun _ => ?_)
              clear hK K
              replace hcur := hS.out.below
              (try simp only [Act.put, List.getElem_toArray, List.getElem_cons_zero, List.getElem_cons_succ, List.setIfInBounds_toArray, List.set_cons_zero, List.set_cons_succ])
              generalize World.setCell _ _ _ = X at hS hcur ⊢
              refine wpAnyH_done (by decide +kernel) ?_ _
              go_wp2_with fail
              go_meet
              exact ⟨g5, g6, a1, a2, a3, b1, b2, b3, rfl, rfl, Lib.hid (hS.out.dup 3 4 0 5 rfl rfl rfl rfl rfl rfl rfl rfl (by decide) (by decide) (by decide) (by decide))⟩
          · go_simp
            refine hK.out _ _ (below_of hcur (below_alloc _ _)) (fun hcur2 => ?_)
            clear hK K
            replace hS := Lib.hid (hS.out.alloc (.cells #[.int .i64 0, .string ⟨#[]⟩, .string ⟨#[]⟩, .bool false, .int .i64 0, .slice none 0 0, .slice none 0 0, .slice none 0 0] 26))
            replace hcur : Below W.heap.size W _ := hcur2
            clear hcur2
            (try simp only [Act.put, List.getElem_toArray, List.getElem_cons_zero, List.getElem_cons_succ, List.setIfInBounds_toArray, List.set_cons_zero, List.set_cons_succ])
            generalize X.heap.size = g6 at hS ⊢
            generalize X.alloc _ = X at hS hcur ⊢
            refine wpAnyH_ready (rs := [3, 4]) (by decide +kernel) (by simp) ?_
            refine AllReadyH.cons rfl (fun K hK => ?_) (AllReadyH.cons rfl (fun K hK => ?_) AllReadyH.nil)
            · go_simp
              refine (cloneN_any ⟨level, low, high, last, next, keys, vals, kids⟩ A B C ca cb cc _ (HT.out.up hcur).la (by have := HSp.out.2.1; simp only []; omega) (by have := HSp.out.2.2.1; simp only []; omega) (by have := HSp.out.2.2.2.1; simp only []; omega)).mono ?_
              rintro e X ⟨b1, b2, b3, rfl, r1, r2, r3, n12, n13, n23, m1, m2, m3, hbn⟩
              replace hS := Lib.hid (hS.out.rows (d := ⟨level, low, high, last, next, keys, vals, kids⟩) r1 r2 r3 n12 n13 n23 m1 m2 m3 hbn)
              clear r1 r2 r3 n12 n13 n23 m1 m2 m3
              simp only [ndCells]
              go_wp2_with fail
              refine hK.out _ _ (below_of hcur hbn) (fun _ => ?_)
              clear hK K
              replace hcur := below_of hcur hbn
              clear hbn
              (try simp only [Act.put, List.getElem_toArray, List.getElem_cons_zero, List.getElem_cons_succ, List.setIfInBounds_toArray, List.set_cons_zero, List.set_cons_succ])
              refine wpAnyH_ready (rs := [4]) (by decide +kernel) (by simp) ?_
              refine AllReadyH.cons rfl (fun K hK => ?_) AllReadyH.nil
              go_simp
              refine hK.out _ _ (below_of hcur (below_alloc _ _)) (fun hcur2 => ?_)
              clear hK K
              replace hS := Lib.hid (hS.out.alloc (.cells #[.int .i64 0, .string ⟨#[]⟩, .string ⟨#[]⟩, .bool false, .int .i64 0, .slice none 0 0, .slice none 0 0, .slice none 0 0] 26))
              replace hcur : Below W.heap.size W _ := hcur2
              clear hcur2
              (try simp only [Act.put, List.getElem_toArray, List.getElem_cons_zero, List.getElem_cons_succ, List.setIfInBounds_toArray, List.set_cons_zero, List.set_cons_succ])
              generalize X.heap.size = g5 at hS ⊢
              generalize X.alloc _ = X at hS hcur ⊢
              refine wpAnyH_ready (rs := [6]) (by decide +kernel) (by simp) ?_
              refine AllReadyH.cons rfl (fun K hK => ?_) AllReadyH.nil
              obtain ⟨e0, e1, e2, e3, e4, e5, e6, e7, f0, f1, f2, f3, f4, f5, f6, f7⟩ := nd_facts (hS.out.has 7 _ _ rfl).1
              go_simp
              replace hS := Lib.hid (hS.out.store 7 rfl (.int .i64 level) (.string low) (.string high) (.bool last) (.int .i64 next) (.slice (some ⟨a1, 0, none⟩) keys.length keys.length) (.slice (some ⟨a2, 0, none⟩) vals.length vals.length) (.slice (some ⟨a3, 0, none⟩) kids.length kids.length))
              clear e0 e1 e2 e3 e4 e5 e6 e7 f0 f1 f2 f3 f4 f5 f6 f7
              simp only [set8] at hS
              refine hK.out _ _ hS.out.below (fun _ => ?_)
              clear hK K
              replace hcur := hS.out.below
              (try simp only [Act.put, List.getElem_toArray, List.getElem_cons_zero, List.getElem_cons_succ, List.setIfInBounds_toArray, List.set_cons_zero, List.set_cons_succ])
              generalize World.setCell _ _ _ = X at hS hcur ⊢
              refine wpAnyH_ready (rs := [7]) (by decide +kernel) (by simp) ?_
              refine AllReadyH.cons rfl (fun K hK => ?_) AllReadyH.nil
              obtain ⟨e0, e1, e2, e3, e4, e5, e6, e7, f0, f1, f2, f3, f4, f5, f6, f7⟩ := nd_facts (hS.out.has 3 _ _ rfl).1
              go_simp
              replace hS := Lib.hid (hS.out.store 3 rfl (.int .i64 level) (.string low) (.string high) (.bool last) (.int .i64 next) (.slice (some ⟨b1, 0, none⟩) keys.length keys.length) (.slice (some ⟨b2, 0, none⟩) vals.length vals.length) (.slice (some ⟨b3, 0, none⟩) kids.length kids.length))
              clear e0 e1 e2 e3 e4 e5 e6 e7 f0 f1 f2 f3 f4 f5 f6 f7
              simp only [set8] at hS
              refine hK.out _ _ hS.out.below (fun _ => ?_)
              clear hK K
              replace hcur := hS.out.below
              (try simp only [Act.put, List.getElem_toArray, List.getElem_cons_zero, List.getElem_cons_succ, List.setIfInBounds_toArray, List.set_cons_zero, List.set_cons_succ])
              generalize World.setCell _ _ _ = X at hS hcur ⊢
              refine wpAnyH_done (by decide +kernel) ?_ _
              go_wp2_with fail
              go_meet
              exact ⟨g5, g6, a1, a2, a3, b1, b2, b3, rfl, rfl, Lib.hid (hS.out.dup 7 3 0 4 rfl rfl rfl rfl rfl rfl rfl rfl (by decide) (by decide) (by decide) (by decide))⟩
            · go_simp
              refine hK.out _ _ (below_of hcur (below_alloc _ _)) (fun hcur2 => ?_)
              clear hK K
              replace hS := Lib.hid (hS.out.alloc (.cells #[.int .i64 0, .string ⟨#[]⟩, .string ⟨#[]⟩, .bool false, .int .i64 0, .slice none 0 0, .slice none 0 0, .slice none 0 0] 26))
              replace hcur : Below W.heap.size W _ := hcur2
              clear hcur2
              (try simp only [Act.put, List.getElem_toArray, List.getElem_cons_zero, List.getElem_cons_succ, List.setIfInBounds_toArray, List.set_cons_zero, List.set_cons_succ])
              generalize X.heap.size = g5 at hS ⊢
              generalize X.alloc _ = X at hS hcur ⊢
              refine wpAnyH_ready (rs := [3]) (by decide +kernel) (by simp) ?_
              refine AllReadyH.cons rfl (fun K hK => ?_) AllReadyH.nil
              go_simp
              refine (cloneN_any ⟨level, low, high, last, next, keys, vals, kids⟩ A B C ca cb cc _ (HT.out.up hcur).la (by have := HSp.out.2.1; simp only []; omega) (by have := HSp.out.2.2.1; simp only []; omega) (by have := HSp.out.2.2.2.1; simp only []; omega)).mono ?_
              rintro e X ⟨b1, b2, b3, rfl, r1, r2, r3, n12, n13, n23, m1, m2, m3, hbn⟩
              replace hS := Lib.hid (hS.out.rows (d := ⟨level, low, high, last, next, keys, vals, kids⟩) r1 r2 r3 n12 n13 n23 m1 m2 m3 hbn)
              clear r1 r2 r3 n12 n13 n23 m1 m2 m3
              simp only [ndCells]
              go_wp2_with fail
              refine hK.out _ _ (below_of hcur hbn) (fun _ => ?_)
              clear hK K
              replace hcur := below_of hcur hbn
              clear hbn
              (try simp only [Act.put, List.getElem_toArray, List.getElem_cons_zero, List.getElem_cons_succ, List.setIfInBounds_toArray, List.set_cons_zero, List.set_cons_succ])
              refine wpAnyH_ready (rs := [6]) (by decide +kernel) (by simp) ?_
              refine AllReadyH.cons rfl (fun K hK => ?_) AllReadyH.nil
              obtain ⟨e0, e1, e2, e3, e4, e5, e6, e7, f0, f1, f2, f3, f4, f5, f6, f7⟩ := nd_facts (hS.out.has 4 _ _ rfl).1
              go_simp
              replace hS := Lib.hid (hS.out.store 4 rfl (.int .i64 level) (.string low) (.string high) (.bool last) (.int .i64 next) (.slice (some ⟨a1, 0, none⟩) keys.length keys.length) (.slice (some ⟨a2, 0, none⟩) vals.length vals.length) (.slice (some ⟨a3, 0, none⟩) kids.length kids.length))
              clear e0 e1 e2 e3 e4 e5 e6 e7 f0 f1 f2 f3 f4 f5 f6 f7
              simp only [set8] at hS
              refine hK.out _ _ hS.out.below (fun _ => ?_)
              clear hK K
              replace hcur := hS.out.below
              (try simp only [Act.put, List.getElem_toArray, List.getElem_cons_zero, List.getElem_cons_succ, List.setIfInBounds_toArray, List.set_cons_zero, List.set_cons_succ])
              generalize World.setCell _ _ _ = X at hS hcur ⊢
              refine wpAnyH_ready (rs := [7]) (by decide +kernel) (by simp) ?_
              refine AllReadyH.cons rfl (fun K hK => ?_) AllReadyH.nil
              obtain ⟨e0, e1, e2, e3, e4, e5, e6, e7, f0, f1, f2, f3, f4, f5, f6, f7⟩ := nd_facts (hS.out.has 3 _ _ rfl).1
              go_simp
              replace hS := Lib.hid (hS.out.store 3 rfl (.int .i64 level) (.string low) (.string high) (.bool last) (.int .i64 next) (.slice (some ⟨b1, 0, none⟩) keys.length keys.length) (.slice (some ⟨b2, 0, none⟩) vals.length vals.length) (.slice (some ⟨b3, 0, none⟩) kids.length kids.length))
              clear e0 e1 e2 e3 e4 e5 e6 e7 f0 f1 f2 f3 f4 f5 f6 f7
              simp only [set8] at hS
              refine hK.out _ _ hS.out.below (fun _ => ?_)
              clear hK K
              replace hcur := hS.out.below
              (try simp only [Act.put, List.getElem_toArray, List.getElem_cons_zero, List.getElem_cons_succ, List.setIfInBounds_toArray, List.set_cons_zero, List.set_cons_succ])
              generalize World.setCell _ _ _ = X at hS hcur ⊢
              refine wpAnyH_done (by decide +kernel) ?_ _
              go_wp2_with fail
              go_meet
              exact ⟨g5, g6, a1, a2, a3, b1, b2, b3, rfl, rfl, Lib.hid (hS.out.dup 4 3 0 5 rfl rfl rfl rfl rfl rfl rfl rfl (by decide) (by decide) (by decide) (by decide))⟩
        · go_simp
          refine hK.out _ _ (below_of hcur (below_alloc _ _)) (fun hcur2 => ?_)
          clear hK K
          replace hS := Lib.hid (hS.out.alloc (.cells #[.int .i64 0, .string ⟨#[]⟩, .string ⟨#[]⟩, .bool false, .int .i64 0, .slice none 0 0, .slice none 0 0, .slice none 0 0] 26))
          replace hcur : Below W.heap.size W _ := hcur2
          clear hcur2
          (try simp only [Act.put, List.getElem_toArray, List.getElem_cons_zero, List.getElem_cons_succ, List.setIfInBounds_toArray, List.set_cons_zero, List.set_cons_succ])
          generalize X.heap.size = g5 at hS ⊢
          generalize X.alloc _ = X at hS hcur ⊢
          refine wpAnyH_ready (rs := [1, 5]) (by decide +kernel) (by simp) ?_
          refine AllReadyH.cons rfl (fun K hK => ?_) (AllReadyH.cons rfl (fun K hK => ?_) AllReadyH.nil)
          · go_simp
            refine (cloneN_any ⟨level, low, high, last, next, keys, vals, kids⟩ A B C ca cb cc _ (HT.out.up hcur).la (by have := HSp.out.2.1; simp only []; omega) (by have := HSp.out.2.2.1; simp only []; omega) (by have := HSp.out.2.2.2.1; simp only []; omega)).mono ?_
            rintro e X ⟨a1, a2, a3, rfl, r1, r2, r3, n12, n13, n23, m1, m2, m3, hbn⟩
            replace hS := Lib.hid (hS.out.rows (d := ⟨level, low, high, last, next, keys, vals, kids⟩) r1 r2 r3 n12 n13 n23 m1 m2 m3 hbn)
            clear r1 r2 r3 n12 n13 n23 m1 m2 m3
            simp only [ndCells]
            go_wp2_with fail
            refine hK.out _ _ (below_of hcur hbn) (fun _ => ?_)
            clear hK K
            replace hcur := below_of hcur hbn
            clear hbn
            (try simp only [Act.put, List.getElem_toArray, List.getElem_cons_zero, List.getElem_cons_succ, List.setIfInBounds_toArray, List.set_cons_zero, List.set_cons_succ])
            refine wpAnyH_ready (rs := [3, 5]) (by decide +kernel) (by simp) ?_
            refine AllReadyH.cons rfl (fun K hK => ?_) (AllReadyH.cons rfl (fun K hK => ?_) AllReadyH.nil)
            · go_simp
              refine (cloneN_any ⟨level, low, high, last, next, keys, vals, kids⟩ A B C ca cb cc _ (HT.out.up hcur).la (by have := HSp.out.2.1; simp only []; omega) (by have := HSp.out.2.2.1; simp only []; omega) (by have := HSp.out.2.2.2.1; simp only []; omega)).mono ?_
              rintro e X ⟨b1, b2, b3, rfl, r1, r2, r3, n12, n13, n23, m1, m2, m3, hbn⟩
              replace hS := Lib.hid (hS.out.rows (d := ⟨level, low, high, last, next, keys, vals, kids⟩) r1 r2 r3 n12 n13 n23 m1 m2 m3 hbn)
              clear r1 r2 r3 n12 n13 n23 m1 m2 m3
              simp only [ndCells]
              go_wp2_with fail
              refine hK.out _ _ (below_of hcur hbn) (fun _ => ?_)
              clear hK K
              replace hcur := below_of hcur hbn
              clear hbn
              (try simp only [Act.put, List.getElem_toArray, List.getElem_cons_zero, List.getElem_cons_succ, List.setIfInBounds_toArray, List.set_cons_zero, List.set_cons_succ])
              refine wpAnyH_ready (rs := [5]) (by decide +kernel) (by simp) ?_
              refine AllReadyH.cons rfl (fun K hK => ?_) AllReadyH.nil
              go_simp
              refine hK.out _ _ (below_of hcur (below_alloc _ _)) (fun hcur2 => ?_)
              clear hK K
              replace hS := Lib.hid (hS.out.alloc (.cells #[.int .i64 0, .string ⟨#[]⟩, .string ⟨#[]⟩, .bool false, .int .i64 0, .slice none 0 0, .slice none 0 0, .slice none 0 0] 26))
              replace hcur : Below W.heap.size W _ := hcur2
              clear hcur2
              (try simp only [Act.put, List.getElem_toArray, List.getElem_cons_zero, List.getElem_cons_succ, List.setIfInBounds_toArray, List.set_cons_zero, List.set_cons_succ])
              generalize X.heap.size = g6 at hS ⊢
              generalize X.alloc _ = X at hS hcur ⊢
              refine wpAnyH_ready (rs := [6]) (by decide +kernel) (by simp) ?_
              refine AllReadyH.cons rfl (fun K hK => ?_) AllReadyH.nil
              obtain ⟨e0, e1, e2, e3, e4, e5, e6, e7, f0, f1, f2, f3, f4, f5, f6, f7⟩ := nd_facts (hS.out.has 0 _ _ rfl).1
              go_simp
              replace hS := Lib.hid (hS.out.store 0 rfl (.int .i64 level) (.string low) (.string high) (.bool last) (.int .i64 next) (.slice (some ⟨a1, 0, none⟩) keys.length keys.length) (.slice (some ⟨a2, 0, none⟩) vals.length vals.length) (.slice (some ⟨a3, 0, none⟩) kids.length kids.length))
              clear e0 e1 e2 e3 e4 e5 e6 e7 f0 f1 f2 f3 f4 f5 f6 f7
              simp only [set8] at hS
              refine hK.out _ _ hS.out.below (fun _ => ?_)
              clear hK K
              replace hcur := hS.out.below
              (try simp only [Act.put, List.getElem_toArray, List.getElem_cons_zero, List.getElem_cons_succ, List.setIfInBounds_toArray, List.set_cons_zero, List.set_cons_succ])
              generalize World.setCell _ _ _ = X at hS hcur ⊢
              refine wpAnyH_ready (rs := [7]) (by decide +kernel) (by simp) ?_
              refine AllReadyH.cons rfl (fun K hK => ?_) AllReadyH.nil
              obtain ⟨e0, e1, e2, e3, e4, e5, e6, e7, f0, f1, f2, f3, f4, f5, f6, f7⟩ := nd_facts (hS.out.has 7 _ _ rfl).1
              go_simp
              replace hS := Lib.hid (hS.out.store 7 rfl (.int .i64 level) (.string low) (.string high) (.bool last) (.int .i64 next) (.slice (some ⟨b1, 0, none⟩) keys.length keys.length) (.slice (some ⟨b2, 0, none⟩) vals.length vals.length) (.slice (some ⟨b3, 0, none⟩) kids.length kids.length))
              clear e0 e1 e2 e3 e4 e5 e6 e7 f0 f1 f2 f3 f4 f5 f6 f7
              simp only [set8] at hS
              refine hK.out _ _ hS.out.below (fun _ => ?_)
              clear hK K
              replace hcur := hS.out.below
              (try simp only [Act.put, List.getElem_toArray, List.getElem_cons_zero, List.getElem_cons_succ, List.setIfInBounds_toArray, List.set_cons_zero, List.set_cons_succ])
              generalize World.setCell _ _ _ = X at hS hcur ⊢
              refine wpAnyH_done (by decide +kernel) ?_ _
              go_wp2_with fail
              go_meet
              exact ⟨g5, g6, a1, a2, a3, b1, b2, b3, rfl, rfl, Lib.hid (hS.out.dup 0 7 1 4 rfl rfl rfl rfl rfl rfl rfl rfl (by decide) (by decide) (by decide) (by decide))⟩
            · go_simp
              refine hK.out _ _ (below_of hcur (below_alloc _ _)) (fun hcur2 => ?_)
              clear hK K
              replace hS := Lib.hid (hS.out.alloc (.cells #[.int .i64 0, .string ⟨#[]⟩, .string ⟨#[]⟩, .bool false, .int .i64 0, .slice none 0 0, .slice none 0 0, .slice none 0 0] 26))
              replace hcur : Below W.heap.size W _ := hcur2
              clear hcur2
              (try simp only [Act.put, List.getElem_toArray, List.getElem_cons_zero, List.getElem_cons_succ, List.setIfInBounds_toArray, List.set_cons_zero, List.set_cons_succ])
              generalize X.heap.size = g6 at hS ⊢
              generalize X.alloc _ = X at hS hcur ⊢
              refine wpAnyH_ready (rs := [3]) (by decide +kernel) (by simp) ?_
              refine AllReadyH.cons rfl (fun K hK => ?_) AllReadyH.nil
              go_simp
              refine (cloneN_any ⟨level, low, high, last, next, keys, vals, kids⟩ A B C ca cb cc _ (HT.out.up hcur).la (by have := HSp.out.2.1; simp only []; omega) (by have := HSp.out.2.2.1; simp only []; omega) (by have := HSp.out.2.2.2.1; simp only []; omega)).mono ?_
              rintro e X ⟨b1, b2, b3, rfl, r1, r2, r3, n12, n13, n23, m1, m2, m3, hbn⟩
              replace hS := Lib.hid (hS.out.rows (d := ⟨level, low, high, last, next, keys, vals, kids⟩) r1 r2 r3 n12 n13 n23 m1 m2 m3 hbn)
              clear r1 r2 r3 n12 n13 n23 m1 m2 m3
              simp only [ndCells]
              go_wp2_with fail
              refine hK.out _ _ (below_of hcur hbn) (fun _ => ?_)
              clear hK K
              replace hcur := below_of hcur hbn
              clear hbn
              (try simp only [Act.put, List.getElem_toArray, List.getElem_cons_zero, List.getElem_cons_succ, List.setIfInBounds_toArray, List.set_cons_zero, List.set_cons_succ])
              refine wpAnyH_ready (rs := [6]) (by decide +kernel) (by simp) ?_
              refine AllReadyH.cons rfl (fun K hK => ?_) AllReadyH.nil
              obtain ⟨e0, e1, e2, e3, e4, e5, e6, e7, f0, f1, f2, f3, f4, f5, f6, f7⟩ := nd_facts (hS.out.has 0 _ _ rfl).1
              go_simp
              replace hS := Lib.hid (hS.out.store 0 rfl (.int .i64 level) (.string low) (.string high) (.bool last) (.int .i64 next) (.slice (some ⟨a1, 0, none⟩) keys.length keys.length) (.slice (some ⟨a2, 0, none⟩) vals.length vals.length) (.slice (some ⟨a3, 0, none⟩) kids.length kids.length))
              clear e0 e1 e2 e3 e4 e5 e6 e7 f0 f1 f2 f3 f4 f5 f6 f7
              simp only [set8] at hS
              refine hK.out _ _ hS.out.below (fun _ => ?_)
              clear hK K
              replace hcur := hS.out.below
              (try simp only [Act.put, List.getElem_toArray, List.getElem_cons_zero, List.getElem_cons_succ, List.setIfInBounds_toArray, List.set_cons_zero, List.set_cons_succ])
              generalize World.setCell _ _ _ = X at hS hcur ⊢
              refine wpAnyH_ready (rs := [7]) (by decide +kernel) (by simp) ?_
              refine AllReadyH.cons rfl (fun K hK => ?_) AllReadyH.nil
              obtain ⟨e0, e1, e2, e3, e4, e5, e6, e7, f0, f1, f2, f3, f4, f5, f6, f7⟩ := nd_facts (hS.out.has 4 _ _ rfl).1
              go_simp
              replace hS := Lib.hid (hS.out.store 4 rfl (.int .i64 level) (.string low) (.string high) (.bool last) (.int .i64 next) (.slice (some ⟨b1, 0, none⟩) keys.length keys.length) (.slice (some ⟨b2, 0, none⟩) vals.length vals.length) (.slice (some ⟨b3, 0, none⟩) kids.length kids.length))
              clear e0 e1 e2 e3 e4 e5 e6 e7 f0 f1 f2 f3 f4 f5 f6 f7
              simp only [set8] at hS
              refine hK.out _ _ hS.out.below (fun _ => ?_)
              clear hK K
              replace hcur := hS.out.below
              (try simp only [Act.put, List.getElem_toArray, List.getElem_cons_zero, List.getElem_cons_succ, List.setIfInBounds_toArray, List.set_cons_zero, List.set_cons_succ])
              generalize World.setCell _ _ _ = X at hS hcur ⊢
              refine wpAnyH_done (by decide +kernel) ?_ _
              go_wp2_with fail
              go_meet
              exact ⟨g5, g6, a1, a2, a3, b1, b2, b3, rfl, rfl, Lib.hid (hS.out.dup 0 4 1 5 rfl rfl rfl rfl rfl rfl rfl rfl (by decide) (by decide) (by decide) (by decide))⟩
          · go_simp
            refine hK.out _ _ (below_of hcur (below_alloc _ _)) (fun hcur2 => ?_)
            clear hK K
            replace hS := Lib.hid (hS.out.alloc (.cells #[.int .i64 0, .string ⟨#[]⟩, .string ⟨#[]⟩, .bool false, .int .i64 0, .slice none 0 0, .slice none 0 0, .slice none 0 0] 26))
            replace hcur : Below W.heap.size W _ := hcur2
            clear hcur2
            (try simp only [Act.put, List.getElem_toArray, List.getElem_cons_zero, List.getElem_cons_succ, List.setIfInBounds_toArray, List.set_cons_zero, List.set_cons_succ])
            generalize X.heap.size = g6 at hS ⊢
            generalize X.alloc _ = X at hS hcur ⊢
            refine wpAnyH_ready (rs := [1]) (by decide +kernel) (by simp) ?_
            refine AllReadyH.cons rfl (fun K hK => ?_) AllReadyH.nil
            go_simp
            refine (cloneN_any ⟨level, low, high, last, next, keys, vals, kids⟩ A B C ca cb cc _ (HT.out.up hcur).la (by have := HSp.out.2.1; simp only []; omega) (by have := HSp.out.2.2.1; simp only []; omega) (by have := HSp.out.2.2.2.1; simp only []; omega)).mono ?_
            rintro e X ⟨a1, a2, a3, rfl, r1, r2, r3, n12, n13, n23, m1, m2, m3, hbn⟩
            replace hS := Lib.hid (hS.out.rows (d := ⟨level, low, high, last, next, keys, vals, kids⟩) r1 r2 r3 n12 n13 n23 m1 m2 m3 hbn)
            clear r1 r2 r3 n12 n13 n23 m1 m2 m3
            simp only [ndCells]
            go_wp2_with fail
            refine hK.out _ _ (below_of hcur hbn) (fun _ => ?_)
            clear hK K
            replace hcur := below_of hcur hbn
            clear hbn
            (try simp only [Act.put, List.getElem_toArray, List.getElem_cons_zero, List.getElem_cons_succ, List.setIfInBounds_toArray, List.set_cons_zero, List.set_cons_succ])
            refine wpAnyH_ready (rs := [3]) (by decide +kernel) (by simp) ?_
            refine AllReadyH.cons rfl (fun K hK => ?_) AllReadyH.nil
            go_simp
            refine (cloneN_any ⟨level, low, high, last, next, keys, vals, kids⟩ A B C ca cb cc _ (HT.out.up hcur).la (by have := HSp.out.2.1; simp only []; omega) (by have := HSp.out.2.2.1; simp only []; omega) (by have := HSp.out.2.2.2.1; simp only []; omega)).mono ?_
            rintro e X ⟨b1, b2, b3, rfl, r1, r2, r3, n12, n13, n23, m1, m2, m3, hbn⟩
            replace hS := Lib.hid (hS.out.rows (d := ⟨level, low, high, last, next, keys, vals, kids⟩) r1 r2 r3 n12 n13 n23 m1 m2 m3 hbn)
            clear r1 r2 r3 n12 n13 n23 m1 m2 m3
            simp only [ndCells]
            go_wp2_with fail
            refine hK.out _ _ (below_of hcur hbn) (fun _ => ?_)
            clear hK K
            replace hcur := below_of hcur hbn
            clear hbn
            (try simp only [Act.put, List.getElem_toArray, List.getElem_cons_zero, List.getElem_cons_succ, List.setIfInBounds_toArray, List.set_cons_zero, List.set_cons_succ])
            refine wpAnyH_ready (rs := [6]) (by decide +kernel) (by simp) ?_
            refine AllReadyH.cons rfl (fun K hK => ?_) AllReadyH.nil
            obtain ⟨e0, e1, e2, e3, e4, e5, e6, e7, f0, f1, f2, f3, f4, f5, f6, f7⟩ := nd_facts (hS.out.has 0 _ _ rfl).1
            go_simp
            replace hS := Lib.hid (hS.out.store 0 rfl (.int .i64 level) (.string low) (.string high) (.bool last) (.int .i64 next) (.slice (some ⟨a1, 0, none⟩) keys.length keys.length) (.slice (some ⟨a2, 0, none⟩) vals.length vals.length) (.slice (some ⟨a3, 0, none⟩) kids.length kids.length))
            clear e0 e1 e2 e3 e4 e5 e6 e7 f0 f1 f2 f3 f4 f5 f6 f7
            simp only [set8] at hS
            refine hK.out _ _ hS.out.below (fun _ => ?_)
            clear hK K
            replace hcur := hS.out.below
            (try simp only [Act.put, List.getElem_toArray, List.getElem_cons_zero, List.getElem_cons_succ, List.setIfInBounds_toArray, List.set_cons_zero, List.set_cons_succ])
            generalize World.setCell _ _ _ = X at hS hcur ⊢
            refine wpAnyH_ready (rs := [7]) (by decide +kernel) (by simp) ?_
            refine AllReadyH.cons rfl (fun K hK => ?_) AllReadyH.nil
            obtain ⟨e0, e1, e2, e3, e4, e5, e6, e7, f0, f1, f2, f3, f4, f5, f6, f7⟩ := nd_facts (hS.out.has 1 _ _ rfl).1
            go_simp
            replace hS := Lib.hid (hS.out.store 1 rfl (.int .i64 level) (.string low) (.string high) (.bool last) (.int .i64 next) (.slice (some ⟨b1, 0, none⟩) keys.length keys.length) (.slice (some ⟨b2, 0, none⟩) vals.length vals.length) (.slice (some ⟨b3, 0, none⟩) kids.length kids.length))
            clear e0 e1 e2 e3 e4 e5 e6 e7 f0 f1 f2 f3 f4 f5 f6 f7
            simp only [set8] at hS
            refine hK.out _ _ hS.out.below (fun _ => ?_)
            clear hK K
            replace hcur := hS.out.below
            (try simp only [Act.put, List.getElem_toArray, List.getElem_cons_zero, List.getElem_cons_succ, List.setIfInBounds_toArray, List.set_cons_zero, List.set_cons_succ])
            generalize World.setCell _ _ _ = X at hS hcur ⊢
            refine wpAnyH_done (by decide +kernel) ?_ _
            go_wp2_with fail
            go_meet
            exact ⟨g5, g6, a1, a2, a3, b1, b2, b3, rfl, rfl, Lib.hid (hS.out.dup 0 1 2 5 rfl rfl rfl rfl rfl rfl rfl rfl (by decide) (by decide) (by decide) (by decide))⟩
        · go_simp
          refine hK.out _ _ (below_of hcur (below_alloc _ _)) (fun hcur2 => ?_)
          clear hK K
          replace hS := Lib.hid (hS.out.alloc (.cells #[.int .i64 0, .string ⟨#[]⟩, .string ⟨#[]⟩, .bool false, .int .i64 0, .slice none 0 0, .slice none 0 0, .slice none 0 0] 26))
          replace hcur : Below W.heap.size W _ := hcur2
          clear hcur2
          (try simp only [Act.put, List.getElem_toArray, List.getElem_cons_zero, List.getElem_cons_succ, List.setIfInBounds_toArray, List.set_cons_zero, List.set_cons_succ])
          generalize X.heap.size = g6 at hS ⊢
          generalize X.alloc _ = X at hS hcur ⊢
          refine wpAnyH_ready (rs := [1, 4]) (by decide +kernel) (by simp) ?_
          refine AllReadyH.cons rfl (fun K hK => ?_) (AllReadyH.cons rfl (fun K hK => ?_) AllReadyH.nil)
          · go_simp
            refine (cloneN_any ⟨level, low, high, last, next, keys, vals, kids⟩ A B C ca cb cc _ (HT.out.up hcur).la (by have := HSp.out.2.1; simp only []; omega) (by have := HSp.out.2.2.1; simp only []; omega) (by have := HSp.out.2.2.2.1; simp only []; omega)).mono ?_
            rintro e X ⟨a1, a2, a3, rfl, r1, r2, r3, n12, n13, n23, m1, m2, m3, hbn⟩
            replace hS := Lib.hid (hS.out.rows (d := ⟨level, low, high, last, next, keys, vals, kids⟩) r1 r2 r3 n12 n13 n23 m1 m2 m3 hbn)
            clear r1 r2 r3 n12 n13 n23 m1 m2 m3
            simp only [ndCells]
            go_wp2_with fail
            refine hK.out _ _ (below_of hcur hbn) (fun _ => ?_)
            clear hK K
            replace hcur := below_of hcur hbn
            clear hbn
            (try simp only [Act.put, List.getElem_toArray, List.getElem_cons_zero, List.getElem_cons_succ, List.setIfInBounds_toArray, List.set_cons_zero, List.set_cons_succ])
            refine wpAnyH_ready (rs := [3, 4]) (by decide +kernel) (by simp) ?_
            refine AllReadyH.cons rfl (fun K hK => ?_) (AllReadyH.cons rfl (fun K hK => ?_) AllReadyH.nil)
            · go_simp
              refine (cloneN_any ⟨level, low, high, last, next, keys, vals, kids⟩ A B C ca cb cc _ (HT.out.up hcur).la (by have := HSp.out.2.1; simp only []; omega) (by have := HSp.out.2.2.1; simp only []; omega) (by have := HSp.out.2.2.2.1; simp only []; omega)).mono ?_
              rintro e X ⟨b1, b2, b3, rfl, r1, r2, r3, n12, n13, n23, m1, m2, m3, hbn⟩
              replace hS := Lib.hid (hS.out.rows (d := ⟨level, low, high, last, next, keys, vals, kids⟩) r1 r2 r3 n12 n13 n23 m1 m2 m3 hbn)
              clear r1 r2 r3 n12 n13 n23 m1 m2 m3
              simp only [ndCells]
              go_wp2_with fail
              refine hK.out _ _ (below_of hcur hbn) (fun _ => ?_)
              clear hK K
              replace hcur := below_of hcur hbn
              clear hbn
              (try simp only [Act.put, List.getElem_toArray, List.getElem_cons_zero, List.getElem_cons_succ, List.setIfInBounds_toArray, List.set_cons_zero, List.set_cons_succ])
              refine wpAnyH_ready (rs := [4]) (by decide +kernel) (by simp) ?_
              refine AllReadyH.cons rfl (fun K hK => ?_) AllReadyH.nil
              go_simp
              refine hK.out _ _ (below_of hcur (below_alloc _ _)) (fun hcur2 => ?_)
              clear hK K
              replace hS := Lib.hid (hS.out.alloc (.cells #[.int .i64 0, .string ⟨#[]⟩, .string ⟨#[]⟩, .bool false, .int .i64 0, .slice none 0 0, .slice none 0 0, .slice none 0 0] 26))
              replace hcur : Below W.heap.size W _ := hcur2
              clear hcur2
              (try simp only [Act.put, List.getElem_toArray, List.getElem_cons_zero, List.getElem_cons_succ, List.setIfInBounds_toArray, List.set_cons_zero, List.set_cons_succ])
              generalize X.heap.size = g5 at hS ⊢
              generalize X.alloc _ = X at hS hcur ⊢
              refine wpAnyH_ready (rs := [6]) (by decide +kernel) (by simp) ?_
              refine AllReadyH.cons rfl (fun K hK => ?_) AllReadyH.nil
              obtain ⟨e0, e1, e2, e3, e4, e5, e6, e7, f0, f1, f2, f3, f4, f5, f6, f7⟩ := nd_facts (hS.out.has 7 _ _ rfl).1
              go_simp
              replace hS := Lib.hid (hS.out.store 7 rfl (.int .i64 level) (.string low) (.string high) (.bool last) (.int .i64 next) (.slice (some ⟨a1, 0, none⟩) keys.length keys.length) (.slice (some ⟨a2, 0, none⟩) vals.length vals.length) (.slice (some ⟨a3, 0, none⟩) kids.length kids.length))
              clear e0 e1 e2 e3 e4 e5 e6 e7 f0 f1 f2 f3 f4 f5 f6 f7
              simp only [set8] at hS
              refine hK.out _ _ hS.out.below (fun _ => ?_)
              clear hK K
              replace hcur := hS.out.below
              (try simp only [Act.put, List.getElem_toArray, List.getElem_cons_zero, List.getElem_cons_succ, List.setIfInBounds_toArray, List.set_cons_zero, List.set_cons_succ])
              generalize World.setCell _ _ _ = X at hS hcur ⊢
              refine wpAnyH_ready (rs := [7]) (by decide +kernel) (by simp) ?_
              refine AllReadyH.cons rfl (fun K hK => ?_) AllReadyH.nil
              obtain ⟨e0, e1, e2, e3, e4, e5, e6, e7, f0, f1, f2, f3, f4, f5, f6, f7⟩ := nd_facts (hS.out.has 0 _ _ rfl).1
              go_simp
              replace hS := Lib.hid (hS.out.store 0 rfl (.int .i64 level) (.string low) (.string high) (.bool last) (.int .i64 next) (.slice (some ⟨b1, 0, none⟩) keys.length keys.length) (.slice (some ⟨b2, 0, none⟩) vals.length vals.length) (.slice (some ⟨b3, 0, none⟩) kids.length kids.length))
              clear e0 e1 e2 e3 e4 e5 e6 e7 f0 f1 f2 f3 f4 f5 f6 f7
              simp only [set8] at hS
              refine hK.out _ _ hS.out.below (fun _ => ?_)
              clear hK K
              replace hcur := hS.out.below
              (try simp only [Act.put, List.getElem_toArray, List.getElem_cons_zero, List.getElem_cons_succ, List.setIfInBounds_toArray, List.set_cons_zero, List.set_cons_succ])
              generalize World.setCell _ _ _ = X at hS hcur ⊢
              refine wpAnyH_done (by decide +kernel) ?_ _
              go_wp2_with fail
              go_meet
              exact ⟨g5, g6, a1, a2, a3, b1, b2, b3, rfl, rfl, Lib.hid (hS.out.dup 7 0 1 4 rfl rfl rfl rfl rfl rfl rfl rfl (by decide) (by decide) (by decide) (by decide))⟩
            · go_simp
              refine hK.out _ _ (below_of hcur (below_alloc _ _)) (fun hcur2 => ?_)
              clear hK K
              replace hS := Lib.hid (hS.out.alloc (.cells #[.int .i64 0, .string ⟨#[]⟩, .string ⟨#[]⟩, .bool false, .int .i64 0, .slice none 0 0, .slice none 0 0, .slice none 0 0] 26))
              replace hcur : Below W.heap.size W _ := hcur2
              clear hcur2
              (try simp only [Act.put, List.getElem_toArray, List.getElem_cons_zero, List.getElem_cons_succ, List.setIfInBounds_toArray, List.set_cons_zero, List.set_cons_succ])
              generalize X.heap.size = g5 at hS ⊢
              generalize X.alloc _ = X at hS hcur ⊢
              refine wpAnyH_ready (rs := [3]) (by decide +kernel) (by simp) ?_
              refine AllReadyH.cons rfl (fun K hK => ?_) AllReadyH.nil
              go_simp
              refine (cloneN_any ⟨level, low, high, last, next, keys, vals, kids⟩ A B C ca cb cc _ (HT.out.up hcur).la (by have := HSp.out.2.1; simp only []; omega) (by have := HSp.out.2.2.1; simp only []; omega) (by have := HSp.out.2.2.2.1; simp only []; omega)).mono ?_
              rintro e X ⟨b1, b2, b3, rfl, r1, r2, r3, n12, n13, n23, m1, m2, m3, hbn⟩
              replace hS := Lib.hid (hS.out.rows (d := ⟨level, low, high, last, next, keys, vals, kids⟩) r1 r2 r3 n12 n13 n23 m1 m2 m3 hbn)
              clear r1 r2 r3 n12 n13 n23 m1 m2 m3
              simp only [ndCells]
              go_wp2_with fail
              refine hK.out _ _ (below_of hcur hbn) (fun _ => ?_)
              clear hK K
              replace hcur := below_of hcur hbn
              clear hbn
              (try simp only [Act.put, List.getElem_toArray, List.getElem_cons_zero, List.getElem_cons_succ, List.setIfInBounds_toArray, List.set_cons_zero, List.set_cons_succ])
              refine wpAnyH_ready (rs := [6]) (by decide +kernel) (by simp) ?_
              refine AllReadyH.cons rfl (fun K hK => ?_) AllReadyH.nil
              obtain ⟨e0, e1, e2, e3, e4, e5, e6, e7, f0, f1, f2, f3, f4, f5, f6, f7⟩ := nd_facts (hS.out.has 4 _ _ rfl).1
              go_simp
              replace hS := Lib.hid (hS.out.store 4 rfl (.int .i64 level) (.string low) (.string high) (.bool last) (.int .i64 next) (.slice (some ⟨a1, 0, none⟩) keys.length keys.length) (.slice (some ⟨a2, 0, none⟩) vals.length vals.length) (.slice (some ⟨a3, 0, none⟩) kids.length kids.length))
              clear e0 e1 e2 e3 e4 e5 e6 e7 f0 f1 f2 f3 f4 f5 f6 f7
              simp only [set8] at hS
              refine hK.out _ _ hS.out.below (fun _ => ?_)
              clear hK K
              replace hcur := hS.out.below
              (try simp only [Act.put, List.getElem_toArray, List.getElem_cons_zero, List.getElem_cons_succ, List.setIfInBounds_toArray, List.set_cons_zero, List.set_cons_succ])
              generalize World.setCell _ _ _ = X at hS hcur ⊢
              refine wpAnyH_ready (rs := [7]) (by decide +kernel) (by simp) ?_
              refine AllReadyH.cons rfl (fun K hK => ?_) AllReadyH.nil
              obtain ⟨e0, e1, e2, e3, e4, e5, e6, e7, f0, f1, f2, f3, f4, f5, f6, f7⟩ := nd_facts (hS.out.has 0 _ _ rfl).1
              go_simp
              replace hS := Lib.hid (hS.out.store 0 rfl (.int .i64 level) (.string low) (.string high) (.bool last) (.int .i64 next) (.slice (some ⟨b1, 0, none⟩) keys.length keys.length) (.slice (some ⟨b2, 0, none⟩) vals.length vals.length) (.slice (some ⟨b3, 0, none⟩) kids.length kids.length))
              clear e0 e1 e2 e3 e4 e5 e6 e7 f0 f1 f2 f3 f4 f5 f6 f7
              simp only [set8] at hS
              refine hK.out _ _ hS.out.below (fun _ => ?_)
              clear hK K
              replace hcur := hS.out.below
              (try simp only [Act.put, List.getElem_toArray, List.getElem_cons_zero, List.getElem_cons_succ, List.setIfInBounds_toArray, List.set_cons_zero, List.set_cons_succ])
              generalize World.setCell _ _ _ = X at hS hcur ⊢
              refine wpAnyH_done (by decide +kernel) ?_ _
              go_wp2_with fail
              go_meet
              exact ⟨g5, g6, a1, a2, a3, b1, b2, b3, rfl, rfl, Lib.hid (hS.out.dup 4 0 1 5 rfl rfl rfl rfl rfl rfl rfl rfl (by decide) (by decide) (by decide) (by decide))⟩
          · go_simp
            refine hK.out _ _ (below_of hcur (below_alloc _ _)) (fun hcur2 => ?_)
            clear hK K
            replace hS := Lib.hid (hS.out.alloc (.cells #[.int .i64 0, .string ⟨#[]⟩, .string ⟨#[]⟩, .bool false, .int .i64 0, .slice none 0 0, .slice none 0 0, .slice none 0 0] 26))
            replace hcur : Below W.heap.size W _ := hcur2
            clear hcur2
            (try simp only [Act.put, List.getElem_toArray, List.getElem_cons_zero, List.getElem_cons_succ, List.setIfInBounds_toArray, List.set_cons_zero, List.set_cons_succ])
            generalize X.heap.size = g5 at hS ⊢
            generalize X.alloc _ = X at hS hcur ⊢
            refine wpAnyH_ready (rs := [1]) (by decide +kernel) (by simp) ?_
            refine AllReadyH.cons rfl (fun K hK => ?_) AllReadyH.nil
            go_simp
            refine (cloneN_any ⟨level, low, high, last, next, keys, vals, kids⟩ A B C ca cb cc _ (HT.out.up hcur).la (by have := HSp.out.2.1; simp only []; omega) (by have := HSp.out.2.2.1; simp only []; omega) (by have := HSp.out.2.2.2.1; simp only []; omega)).mono ?_
            rintro e X ⟨a1, a2, a3, rfl, r1, r2, r3, n12, n13, n23, m1, m2, m3, hbn⟩
            replace hS := Lib.hid (hS.out.rows (d := ⟨level, low, high, last, next, keys, vals, kids⟩) r1 r2 r3 n12 n13 n23 m1 m2 m3 hbn)
            clear r1 r2 r3 n12 n13 n23 m1 m2 m3
            simp only [ndCells]
            go_wp2_with fail
            refine hK.out _ _ (below_of hcur hbn) (fun _ => ?_)
            clear hK K
            replace hcur := below_of hcur hbn
            clear hbn
            (try simp only [Act.put, List.getElem_toArray, List.getElem_cons_zero, List.getElem_cons_succ, List.setIfInBounds_toArray, List.set_cons_zero, List.set_cons_succ])
            refine wpAnyH_ready (rs := [3]) (by decide +kernel) (by simp) ?_
            refine AllReadyH.cons rfl (fun K hK => ?_) AllReadyH.nil
            go_simp
            refine (cloneN_any ⟨level, low, high, last, next, keys, vals, kids⟩ A B C ca cb cc _ (HT.out.up hcur).la (by have := HSp.out.2.1; simp only []; omega) (by have := HSp.out.2.2.1; simp only []; omega) (by have := HSp.out.2.2.2.1; simp only []; omega)).mono ?_
            rintro e X ⟨b1, b2, b3, rfl, r1, r2, r3, n12, n13, n23, m1, m2, m3, hbn⟩
            replace hS := Lib.hid (hS.out.rows (d := ⟨level, low, high, last, next, keys, vals, kids⟩) r1 r2 r3 n12 n13 n23 m1 m2 m3 hbn)
            clear r1 r2 r3 n12 n13 n23 m1 m2 m3
            simp only [ndCells]
            go_wp2_with fail
            refine hK.out _ _ (below_of hcur hbn) (fun _ => ?_)
            clear hK K
            replace hcur := below_of hcur hbn
            clear hbn
            (try simp only [Act.put, List.getElem_toArray, List.getElem_cons_zero, List.getElem_cons_succ, List.setIfInBounds_toArray, List.set_cons_zero, List.set_cons_succ])
            refine wpAnyH_ready (rs := [6]) (by decide +kernel) (by simp) ?_
            refine AllReadyH.cons rfl (fun K hK => ?_) AllReadyH.nil
            obtain ⟨e0, e1, e2, e3, e4, e5, e6, e7, f0, f1, f2, f3, f4, f5, f6, f7⟩ := nd_facts (hS.out.has 1 _ _ rfl).1
            go_simp
            replace hS := Lib.hid (hS.out.store 1 rfl (.int .i64 level) (.string low) (.string high) (.bool last) (.int .i64 next) (.slice (some ⟨a1, 0, none⟩) keys.length keys.length) (.slice (some ⟨a2, 0, none⟩) vals.length vals.length) (.slice (some ⟨a3, 0, none⟩) kids.length kids.length))
            clear e0 e1 e2 e3 e4 e5 e6 e7 f0 f1 f2 f3 f4 f5 f6 f7
            simp only [set8] at hS
            refine hK.out _ _ hS.out.below (fun _ => ?_)
            clear hK K
            replace hcur := hS.out.below
            (try simp only [Act.put, List.getElem_toArray, List.getElem_cons_zero, List.getElem_cons_succ, List.setIfInBounds_toArray, List.set_cons_zero, List.set_cons_succ])
            generalize World.setCell _ _ _ = X at hS hcur ⊢
            refine wpAnyH_ready (rs := [7]) (by decide +kernel) (by simp) ?_
            refine AllReadyH.cons rfl (fun K hK => ?_) AllReadyH.nil
            obtain ⟨e0, e1, e2, e3, e4, e5, e6, e7, f0, f1, f2, f3, f4, f5, f6, f7⟩ := nd_facts (hS.out.has 0 _ _ rfl).1
            go_simp
            replace hS := Lib.hid (hS.out.store 0 rfl (.int .i64 level) (.string low) (.string high) (.bool last) (.int .i64 next) (.slice (some ⟨b1, 0, none⟩) keys.length keys.length) (.slice (some ⟨b2, 0, none⟩) vals.length vals.length) (.slice (some ⟨b3, 0, none⟩) kids.length kids.length))
            clear e0 e1 e2 e3 e4 e5 e6 e7 f0 f1 f2 f3 f4 f5 f6 f7
            simp only [set8] at hS
            refine hK.out _ _ hS.out.below (fun _ => ?_)
            clear hK K
            replace hcur := hS.out.below
            (try simp only [Act.put, List.getElem_toArray, List.getElem_cons_zero, List.getElem_cons_succ, List.setIfInBounds_toArray, List.set_cons_zero, List.set_cons_succ])
            generalize World.setCell _ _ _ = X at hS hcur ⊢
            refine wpAnyH_done (by decide +kernel) ?_ _
            go_wp2_with fail
            go_meet
            exact ⟨g5, g6, a1, a2, a3, b1, b2, b3, rfl, rfl, Lib.hid (hS.out.dup 1 0 2 5 rfl rfl rfl rfl rfl rfl rfl rfl (by decide) (by decide) (by decide) (by decide))⟩
      case rest =>
        obtain ⟨g5, g6, c1, c2, c3, d1, d2, d3, rfl, rfl, HD⟩ := hcut
        have HT0 := HT
        replace HT := Lib.hid (HT.out.up HD.out.below)
        have HQ := Lib.hid (And.intro (boxed_at HD.out.one) (And.intro (Array.getElem?_eq_some_iff.1 HD.out.one).1 (HD.out.liesC HT.out.la)))
        have HSm := Lib.hid (fun W hA hB => sameN_any ⟨level, low, high, last, next, keys, vals, kids⟩ ⟨level', low', high', last', next', keys', vals', kids'⟩ A B C A' B' C' ca cb cc ca' cb' cc' W hA hB)
        have HSr := Lib.hid (fun W hA hB => refsameN_any ⟨level, low, high, last, next, keys, vals, kids⟩ ⟨level', low', high', last', next', keys', vals', kids'⟩ A B C A' B' C' ca cb cc ca' cb' cc' W hA hB)
        generalize sameB ⟨level, low, high, last, next, keys, vals, kids⟩ ⟨level', low', high', last', next', keys', vals', kids'⟩ = sm at HSm HSr
        simp only [ndCells] at HSm HSr
        simp only [] at HQ
        generalize wc = W at HT HD HQ ⊢
        have hle := HD.out.below.size
        go_upto_region 4 with fail
        refine wp_region_held_drew (S := fun w' => Below W.heap.size W w') (by kernel_rfl) (Below.drew (Below.refl _ _)) (fun hcur => ?_)
        replace hcur : Below W.heap.size W W.drew := hcur
        refine wpAnyH_take (i := 0) (v := ?_) rfl (by decide +kernel) (by decide +kernel) (by decide +kernel) (fun _ _ _ h => h) (Or.inl ⟨by rfl, ?hy⟩) hcur ?_
        case hy =>
          intro w1 hSw
          replace hSw : Below W.heap.size W w1 := hSw
          obtain ⟨x0, x1, x2, x3, x4, x5, x6, x7⟩ := (HT.out.up hSw).one
          obtain ⟨y0, y1, y2, y3, y4, y5, y6, y7⟩ := (HT.out.up hSw).two
          simp only [] at x0 x1 x2 x3 x4 x5 x6 x7 y0 y1 y2 y3 y4 y5 y6 y7
          (try (obtain ⟨z0, z1, z2, z3, z4, z5, z6, z7⟩ := HQ.out.1.up hSw HQ.out.2.1; simp only [] at z0 z1 z2 z3 z4 z5 z6 z7))
          go_simp
          (try with_reducible rfl)
        (try simp only [Act.put, List.getElem_toArray, List.getElem_cons_zero, List.getElem_cons_succ, List.setIfInBounds_toArray, List.set_cons_zero, List.set_cons_succ])
        refine wpAnyH_take (i := 1) (v := ?_) rfl (by decide +kernel) (by decide +kernel) (by decide +kernel) (fun _ _ _ h => h) (Or.inl ⟨by rfl, ?hy⟩) hcur ?_
        case hy =>
          intro w1 hSw
          replace hSw : Below W.heap.size W w1 := hSw
          obtain ⟨x0, x1, x2, x3, x4, x5, x6, x7⟩ := (HT.out.up hSw).one
          obtain ⟨y0, y1, y2, y3, y4, y5, y6, y7⟩ := (HT.out.up hSw).two
          simp only [] at x0 x1 x2 x3 x4 x5 x6 x7 y0 y1 y2 y3 y4 y5 y6 y7
          (try (obtain ⟨z0, z1, z2, z3, z4, z5, z6, z7⟩ := HQ.out.1.up hSw HQ.out.2.1; simp only [] at z0 z1 z2 z3 z4 z5 z6 z7))
          go_simp
          (try with_reducible rfl)
        (try simp only [Act.put, List.getElem_toArray, List.getElem_cons_zero, List.getElem_cons_succ, List.setIfInBounds_toArray, List.set_cons_zero, List.set_cons_succ])
        refine wpAnyH_take (i := 3) (v := ?_) rfl (by decide +kernel) (by decide +kernel) (by decide +kernel) (fun _ _ _ h => h) (Or.inl ⟨by rfl, ?hy⟩) hcur ?_
        case hy =>
          intro w1 hSw
          replace hSw : Below W.heap.size W w1 := hSw
          obtain ⟨x0, x1, x2, x3, x4, x5, x6, x7⟩ := (HT.out.up hSw).one
          obtain ⟨y0, y1, y2, y3, y4, y5, y6, y7⟩ := (HT.out.up hSw).two
          simp only [] at x0 x1 x2 x3 x4 x5 x6 x7 y0 y1 y2 y3 y4 y5 y6 y7
          (try (obtain ⟨z0, z1, z2, z3, z4, z5, z6, z7⟩ := HQ.out.1.up hSw HQ.out.2.1; simp only [] at z0 z1 z2 z3 z4 z5 z6 z7))
          go_simp
          (try with_reducible rfl)
        (try simp only [Act.put, List.getElem_toArray, List.getElem_cons_zero, List.getElem_cons_succ, List.setIfInBounds_toArray, List.set_cons_zero, List.set_cons_succ])
        refine wpAnyH_take (i := 4) (v := ?_) rfl (by decide +kernel) (by decide +kernel) (by decide +kernel) (fun _ _ _ h => h) (Or.inl ⟨by rfl, ?hy⟩) hcur ?_
        case hy =>
          intro w1 hSw
          replace hSw : Below W.heap.size W w1 := hSw
          obtain ⟨x0, x1, x2, x3, x4, x5, x6, x7⟩ := (HT.out.up hSw).one
          obtain ⟨y0, y1, y2, y3, y4, y5, y6, y7⟩ := (HT.out.up hSw).two
          simp only [] at x0 x1 x2 x3 x4 x5 x6 x7 y0 y1 y2 y3 y4 y5 y6 y7
          (try (obtain ⟨z0, z1, z2, z3, z4, z5, z6, z7⟩ := HQ.out.1.up hSw HQ.out.2.1; simp only [] at z0 z1 z2 z3 z4 z5 z6 z7))
          go_simp
          (try with_reducible rfl)
        (try simp only [Act.put, List.getElem_toArray, List.getElem_cons_zero, List.getElem_cons_succ, List.setIfInBounds_toArray, List.set_cons_zero, List.set_cons_succ])
        refine wpAnyH_ready (rs := [2]) (by decide +kernel) (by simp) ?_
        refine AllReadyH.cons rfl (fun K hK => ?_) AllReadyH.nil
        go_simp
        refine (HSm.out _ (HT.out.up hcur).la (HT.out.up hcur).lb).mono ?_
        rintro e wn ⟨rfl, hbn⟩
        go_wp2_with fail
        refine hK.out _ _ (below_of hcur hbn) (fun _ => ?_)
        clear hK K
        replace hcur := below_of hcur hbn
        clear hbn
        (try simp only [Act.put, List.getElem_toArray, List.getElem_cons_zero, List.getElem_cons_succ, List.setIfInBounds_toArray, List.set_cons_zero, List.set_cons_succ])
        refine wpAnyH_ready (rs := [5]) (by decide +kernel) (by simp) ?_
        refine AllReadyH.cons rfl (fun K hK => ?_) AllReadyH.nil
        go_simp
        refine (HSr.out _ (HT.out.up hcur).la (HT.out.up hcur).lb).mono ?_
        rintro e wn ⟨rfl, hbn⟩
        go_wp2_with fail
        refine hK.out _ _ (below_of hcur hbn) (fun _ => ?_)
        clear hK K
        replace hcur := below_of hcur hbn
        clear hbn
        (try simp only [Act.put, List.getElem_toArray, List.getElem_cons_zero, List.getElem_cons_succ, List.setIfInBounds_toArray, List.set_cons_zero, List.set_cons_succ])
        refine wpAnyH_take (i := 6) (v := ?_) rfl (by decide +kernel) (by decide +kernel) (by decide +kernel) (fun _ _ _ h => h) (Or.inl ⟨by rfl, ?hy⟩) hcur ?_
        case hy =>
          intro w1 hSw
          replace hSw : Below W.heap.size W w1 := hSw
          obtain ⟨x0, x1, x2, x3, x4, x5, x6, x7⟩ := (HT.out.up hSw).one
          obtain ⟨y0, y1, y2, y3, y4, y5, y6, y7⟩ := (HT.out.up hSw).two
          simp only [] at x0 x1 x2 x3 x4 x5 x6 x7 y0 y1 y2 y3 y4 y5 y6 y7
          (try (obtain ⟨z0, z1, z2, z3, z4, z5, z6, z7⟩ := HQ.out.1.up hSw HQ.out.2.1; simp only [] at z0 z1 z2 z3 z4 z5 z6 z7))
          go_simp
          (try with_reducible rfl)
        (try simp only [Act.put, List.getElem_toArray, List.getElem_cons_zero, List.getElem_cons_succ, List.setIfInBounds_toArray, List.set_cons_zero, List.set_cons_succ])
        refine wpAnyH_take (i := 7) (v := ?_) rfl (by decide +kernel) (by decide +kernel) (by decide +kernel) (fun _ _ _ h => h) (Or.inl ⟨by rfl, ?hy⟩) hcur ?_
        case hy =>
          intro w1 hSw
          replace hSw : Below W.heap.size W w1 := hSw
          obtain ⟨x0, x1, x2, x3, x4, x5, x6, x7⟩ := (HT.out.up hSw).one
          obtain ⟨y0, y1, y2, y3, y4, y5, y6, y7⟩ := (HT.out.up hSw).two
          simp only [] at x0 x1 x2 x3 x4 x5 x6 x7 y0 y1 y2 y3 y4 y5 y6 y7
          (try (obtain ⟨z0, z1, z2, z3, z4, z5, z6, z7⟩ := HQ.out.1.up hSw HQ.out.2.1; simp only [] at z0 z1 z2 z3 z4 z5 z6 z7))
          go_simp
          (try with_reducible rfl)
        (try simp only [Act.put, List.getElem_toArray, List.getElem_cons_zero, List.getElem_cons_succ, List.setIfInBounds_toArray, List.set_cons_zero, List.set_cons_succ])
        refine wpAnyH_take (i := 8) (v := ?_) rfl (by decide +kernel) (by decide +kernel) (by decide +kernel) (fun _ _ _ h => h) (Or.inl ⟨by rfl, ?hy⟩) hcur ?_
        case hy =>
          intro w1 hSw
          replace hSw : Below W.heap.size W w1 := hSw
          obtain ⟨x0, x1, x2, x3, x4, x5, x6, x7⟩ := (HT.out.up hSw).one
          obtain ⟨y0, y1, y2, y3, y4, y5, y6, y7⟩ := (HT.out.up hSw).two
          simp only [] at x0 x1 x2 x3 x4 x5 x6 x7 y0 y1 y2 y3 y4 y5 y6 y7
          (try (obtain ⟨z0, z1, z2, z3, z4, z5, z6, z7⟩ := HQ.out.1.up hSw HQ.out.2.1; simp only [] at z0 z1 z2 z3 z4 z5 z6 z7))
          go_simp
          (try with_reducible rfl)
        (try simp only [Act.put, List.getElem_toArray, List.getElem_cons_zero, List.getElem_cons_succ, List.setIfInBounds_toArray, List.set_cons_zero, List.set_cons_succ])
        refine wpAnyH_take (i := 9) (v := ?_) rfl (by decide +kernel) (by decide +kernel) (by decide +kernel) (fun _ _ _ h => h) (Or.inl ⟨by rfl, ?hy⟩) hcur ?_
        case hy =>
          intro w1 hSw
          replace hSw : Below W.heap.size W w1 := hSw
          obtain ⟨x0, x1, x2, x3, x4, x5, x6, x7⟩ := (HT.out.up hSw).one
          obtain ⟨y0, y1, y2, y3, y4, y5, y6, y7⟩ := (HT.out.up hSw).two
          simp only [] at x0 x1 x2 x3 x4 x5 x6 x7 y0 y1 y2 y3 y4 y5 y6 y7
          (try (obtain ⟨z0, z1, z2, z3, z4, z5, z6, z7⟩ := HQ.out.1.up hSw HQ.out.2.1; simp only [] at z0 z1 z2 z3 z4 z5 z6 z7))
          go_simp
          (try with_reducible rfl)
        (try simp only [Act.put, List.getElem_toArray, List.getElem_cons_zero, List.getElem_cons_succ, List.setIfInBounds_toArray, List.set_cons_zero, List.set_cons_succ])
        refine wpAnyH_ready (rs := [10]) (by decide +kernel) (by simp) ?_
        refine AllReadyH.cons rfl (fun K hK => ?_) AllReadyH.nil
        go_simp
        refine (Ret.to (refsameN_any ⟨level, low, high, last, next, keys, vals, kids⟩ ⟨level, low, high, last, next, keys, vals, kids⟩ (some ⟨c1, 0, none⟩) (some ⟨c2, 0, none⟩) (some ⟨c3, 0, none⟩) A B C keys.length vals.length kids.length ca cb cc _ (HQ.out.2.2.up hcur) (HT.out.up hcur).la) (congrArg Value.bool (sameB_self _))).mono ?_
        rintro e wn ⟨rfl, hbn⟩
        go_wp2_with fail
        refine hK.out _ _ (below_of hcur hbn) (fun _ => ?_)
        clear hK K
        replace hcur := below_of hcur hbn
        clear hbn
        (try simp only [Act.put, List.getElem_toArray, List.getElem_cons_zero, List.getElem_cons_succ, List.setIfInBounds_toArray, List.set_cons_zero, List.set_cons_succ])
        refine wpAnyH_take (i := 11) (v := ?_) rfl (by decide +kernel) (by decide +kernel) (by decide +kernel) (fun _ _ _ h => h) (Or.inl ⟨by rfl, ?hy⟩) hcur ?_
        case hy =>
          intro w1 hSw
          replace hSw : Below W.heap.size W w1 := hSw
          obtain ⟨x0, x1, x2, x3, x4, x5, x6, x7⟩ := (HT.out.up hSw).one
          obtain ⟨y0, y1, y2, y3, y4, y5, y6, y7⟩ := (HT.out.up hSw).two
          simp only [] at x0 x1 x2 x3 x4 x5 x6 x7 y0 y1 y2 y3 y4 y5 y6 y7
          (try (obtain ⟨z0, z1, z2, z3, z4, z5, z6, z7⟩ := HQ.out.1.up hSw HQ.out.2.1; simp only [] at z0 z1 z2 z3 z4 z5 z6 z7))
          go_simp
          (try with_reducible rfl)
        (try simp only [Act.put, List.getElem_toArray, List.getElem_cons_zero, List.getElem_cons_succ, List.setIfInBounds_toArray, List.set_cons_zero, List.set_cons_succ])
        refine wpAnyH_take (i := 12) (v := ?_) rfl (by decide +kernel) (by decide +kernel) (by decide +kernel) (fun _ _ _ h => h) (Or.inl ⟨by rfl, ?hy⟩) hcur ?_
        case hy =>
          intro w1 hSw
          replace hSw : Below W.heap.size W w1 := hSw
          obtain ⟨x0, x1, x2, x3, x4, x5, x6, x7⟩ := (HT.out.up hSw).one
          obtain ⟨y0, y1, y2, y3, y4, y5, y6, y7⟩ := (HT.out.up hSw).two
          simp only [] at x0 x1 x2 x3 x4 x5 x6 x7 y0 y1 y2 y3 y4 y5 y6 y7
          (try (obtain ⟨z0, z1, z2, z3, z4, z5, z6, z7⟩ := HQ.out.1.up hSw HQ.out.2.1; simp only [] at z0 z1 z2 z3 z4 z5 z6 z7))
          go_simp
          (try with_reducible rfl)
        (try simp only [Act.put, List.getElem_toArray, List.getElem_cons_zero, List.getElem_cons_succ, List.setIfInBounds_toArray, List.set_cons_zero, List.set_cons_succ])
        refine wpAnyH_take (i := 13) (v := ?_) rfl (by decide +kernel) (by decide +kernel) (by decide +kernel) (fun _ _ _ h => h) (Or.inl ⟨by rfl, ?hy⟩) hcur ?_
        case hy =>
          intro w1 hSw
          replace hSw : Below W.heap.size W w1 := hSw
          obtain ⟨x0, x1, x2, x3, x4, x5, x6, x7⟩ := (HT.out.up hSw).one
          obtain ⟨y0, y1, y2, y3, y4, y5, y6, y7⟩ := (HT.out.up hSw).two
          simp only [] at x0 x1 x2 x3 x4 x5 x6 x7 y0 y1 y2 y3 y4 y5 y6 y7
          (try (obtain ⟨z0, z1, z2, z3, z4, z5, z6, z7⟩ := HQ.out.1.up hSw HQ.out.2.1; simp only [] at z0 z1 z2 z3 z4 z5 z6 z7))
          go_simp
          (try with_reducible rfl)
        (try simp only [Act.put, List.getElem_toArray, List.getElem_cons_zero, List.getElem_cons_succ, List.setIfInBounds_toArray, List.set_cons_zero, List.set_cons_succ])
        refine wpAnyH_take (i := 14) (v := ?_) rfl (by decide +kernel) (by decide +kernel) (by decide +kernel) (fun _ _ _ h => h) (Or.inl ⟨by rfl, ?hy⟩) hcur ?_
        case hy =>
          intro w1 hSw
          replace hSw : Below W.heap.size W w1 := hSw
          obtain ⟨x0, x1, x2, x3, x4, x5, x6, x7⟩ := (HT.out.up hSw).one
          obtain ⟨y0, y1, y2, y3, y4, y5, y6, y7⟩ := (HT.out.up hSw).two
          simp only [] at x0 x1 x2 x3 x4 x5 x6 x7 y0 y1 y2 y3 y4 y5 y6 y7
          (try (obtain ⟨z0, z1, z2, z3, z4, z5, z6, z7⟩ := HQ.out.1.up hSw HQ.out.2.1; simp only [] at z0 z1 z2 z3 z4 z5 z6 z7))
          go_simp
          (try with_reducible rfl)
        (try simp only [Act.put, List.getElem_toArray, List.getElem_cons_zero, List.getElem_cons_succ, List.setIfInBounds_toArray, List.set_cons_zero, List.set_cons_succ])
        refine wpAnyH_take (i := 15) (v := ?_) rfl (by decide +kernel) (by decide +kernel) (by decide +kernel) (fun _ _ _ h => h) (Or.inl ⟨by rfl, ?hy⟩) hcur ?_
        case hy =>
          intro w1 hSw
          replace hSw : Below W.heap.size W w1 := hSw
          obtain ⟨x0, x1, x2, x3, x4, x5, x6, x7⟩ := (HT.out.up hSw).one
          obtain ⟨y0, y1, y2, y3, y4, y5, y6, y7⟩ := (HT.out.up hSw).two
          simp only [] at x0 x1 x2 x3 x4 x5 x6 x7 y0 y1 y2 y3 y4 y5 y6 y7
          (try (obtain ⟨z0, z1, z2, z3, z4, z5, z6, z7⟩ := HQ.out.1.up hSw HQ.out.2.1; simp only [] at z0 z1 z2 z3 z4 z5 z6 z7))
          go_simp
          (try with_reducible rfl)
        (try simp only [Act.put, List.getElem_toArray, List.getElem_cons_zero, List.getElem_cons_succ, List.setIfInBounds_toArray, List.set_cons_zero, List.set_cons_succ])
        refine wpAnyH_ready (rs := [16]) (by decide +kernel) (by simp) ?_
        refine AllReadyH.cons rfl (fun K hK => ?_) AllReadyH.nil
        go_simp
        refine (Ret.to (sameN_any ⟨level, low, high, last, next, keys, vals, kids⟩ ⟨level, low, high, last, next, keys, vals, kids⟩ A B C (some ⟨c1, 0, none⟩) (some ⟨c2, 0, none⟩) (some ⟨c3, 0, none⟩) ca cb cc keys.length vals.length kids.length _ (HT.out.up hcur).la (HQ.out.2.2.up hcur)) (congrArg Value.bool (sameB_self _))).mono ?_
        rintro e wn ⟨rfl, hbn⟩
        go_wp2_with fail
        refine hK.out _ _ (below_of hcur hbn) (fun _ => ?_)
        clear hK K
        replace hcur := below_of hcur hbn
        clear hbn
        (try simp only [Act.put, List.getElem_toArray, List.getElem_cons_zero, List.getElem_cons_succ, List.setIfInBounds_toArray, List.set_cons_zero, List.set_cons_succ])
        refine wpAnyH_take (i := 17) (v := ?_) rfl (by decide +kernel) (by decide +kernel) (by decide +kernel) (fun _ _ _ h => h) (Or.inl ⟨by rfl, ?hy⟩) hcur ?_
        case hy =>
          intro w1 hSw
          replace hSw : Below W.heap.size W w1 := hSw
          obtain ⟨x0, x1, x2, x3, x4, x5, x6, x7⟩ := (HT.out.up hSw).one
          obtain ⟨y0, y1, y2, y3, y4, y5, y6, y7⟩ := (HT.out.up hSw).two
          simp only [] at x0 x1 x2 x3 x4 x5 x6 x7 y0 y1 y2 y3 y4 y5 y6 y7
          (try (obtain ⟨z0, z1, z2, z3, z4, z5, z6, z7⟩ := HQ.out.1.up hSw HQ.out.2.1; simp only [] at z0 z1 z2 z3 z4 z5 z6 z7))
          go_simp
          (try with_reducible rfl)
        (try simp only [Act.put, List.getElem_toArray, List.getElem_cons_zero, List.getElem_cons_succ, List.setIfInBounds_toArray, List.set_cons_zero, List.set_cons_succ])
        refine wpAnyH_take (i := 18) (v := ?_) rfl (by decide +kernel) (by decide +kernel) (by decide +kernel) (fun _ _ _ h => h) (Or.inl ⟨by rfl, ?hy⟩) hcur ?_
        case hy =>
          intro w1 hSw
          replace hSw : Below W.heap.size W w1 := hSw
          obtain ⟨x0, x1, x2, x3, x4, x5, x6, x7⟩ := (HT.out.up hSw).one
          obtain ⟨y0, y1, y2, y3, y4, y5, y6, y7⟩ := (HT.out.up hSw).two
          simp only [] at x0 x1 x2 x3 x4 x5 x6 x7 y0 y1 y2 y3 y4 y5 y6 y7
          (try (obtain ⟨z0, z1, z2, z3, z4, z5, z6, z7⟩ := HQ.out.1.up hSw HQ.out.2.1; simp only [] at z0 z1 z2 z3 z4 z5 z6 z7))
          go_simp
          (try with_reducible rfl)
        (try simp only [Act.put, List.getElem_toArray, List.getElem_cons_zero, List.getElem_cons_succ, List.setIfInBounds_toArray, List.set_cons_zero, List.set_cons_succ])
        refine wpAnyH_done (by decide +kernel) ?_ _
        replace HD := Lib.hid (HD.out.up hcur hle)
        replace hle := Nat.le_trans hle hcur.size
        clear HSm HSr HQ HT HLa HLb
        generalize wn = Wb at HD hle ⊢
        have hkl := HSp.out.2.1
        have hvl := HSp.out.2.2.1
        have hil := HSp.out.2.2.2.1
        have hg6 := (Array.getElem?_eq_some_iff.1 HD.out.two).1
        have hz := HD.out.one
        simp only [ndCells] at hz
        obtain ⟨z0, z1, z2, z3, z4, z5, z6, z7, -, -, -, -, -, -, -, -⟩ := nd_facts hz
        clear hz
        go_wp2_with fail
        go_loopw [7, 45] (fun _ i wr => ∃ j : Nat, i = .int .i64 j ∧ Hid (j ≤ keys.length ∧ Off (fun k => k = c1) Wb wr ∧ ∃ ss : List ByteArray, ss.length = keys.length ∧ wr.heap[c1]? = some (.cells (strs ss).toArray 9 (0, 0)) ∧ ∀ (q : Nat) (hq : q < ss.length), j ≤ q → ss[q].size ≤ 100)) (fun _ i _ => keys.length - (intOf i).toNat)
        case atStart => exact ⟨0, rfl, Nat.zero_le _, Off.refl _ _, keys, rfl, HD.out.k1, fun q hq _ => HSp.out.1 q hq⟩
        case round =>
          obtain ⟨j, rfl, HJ⟩ := hrel
          have hk := HD.out.keep HJ.out.2.1 (fun k e => .inl e) hle
          have hz := hk.1
          simp only [ndCells] at hz
          clear z0 z1 z2 z3 z4 z5 z6 z7 hk
          obtain ⟨z0, z1, z2, z3, z4, z5, z6, z7, -, -, -, -, -, -, -, -⟩ := nd_facts hz
          clear hz
          by_cases hlt : j < keys.length
          · obtain ⟨ss, hl, hr, hs⟩ := HJ.out.2.2
            have hjs : j < ss.length := by omega
            have cj : wr.cell? ⟨c1, j, none⟩ = some (.string ss[j]) := (cell_of_row wr c1 j _ _ _ hr).trans (by simp [strs, hjs])
            have fj : wr.frozen? ⟨c1, j, none⟩ = false := heap_frozen hr j
            have hsz := hs j hjs (Nat.le_refl _)
            generalize ss[j] = s at cj hsz
            have hsz1 : s.size + 1 ≤ 9223372036854775807 := by omega
            have HR := Lib.hid (And.intro hl (And.intro hr hs))
            clear hl hr hs hjs
            go_wp2_with fail
            go_roundw
            case rel =>
              refine ⟨j + 1, by go_num, by omega, Off.set HJ.out.2.1 (p := ⟨c1, j, none⟩) rfl _, ss.set j (s ++ ⟨#[120]⟩), by rw [List.length_set]; exact HR.out.1, ?_, fun q hq hjq => ?_⟩
              · have h := row_set (j := j) (v := .string (s ++ ⟨#[120]⟩)) HR.out.2.1
                rw [show (strs ss).set j (.string (s ++ ⟨#[120]⟩)) = strs (ss.set j (s ++ ⟨#[120]⟩)) from by simp [strs, List.map_set]] at h
                exact h
              · rw [List.getElem_set_ne (by omega)]
                exact HR.out.2.2 q (by simpa using hq) (by omega)
            case measure => simp [intOf]; omega
          · have HO1 := Lib.hid HJ.out.2.1
            have hr1 := HO1.out
            go_wp2_with fail
            go_loopw [8, 59] (fun _ i wr => ∃ j : Nat, i = .int .i64 j ∧ Hid (j ≤ vals.length ∧ Off (fun k => k = c1 ∨ k = c2) Wb wr ∧ ∃ zs : List Int, zs.length = vals.length ∧ wr.heap[c2]? = some (.cells (u64s zs).toArray 35 (0, 0)))) (fun _ i _ => vals.length - (intOf i).toNat)
            case atStart => exact ⟨0, rfl, Nat.zero_le _, HO1.out.mono (fun _ _ e => .inl e), vals, rfl, (HO1.out.block c2 (Array.getElem?_eq_some_iff.1 HD.out.k2).1 (fun e => HD.out.ne.2.2.1 e.symm)).trans HD.out.k2⟩
            case round =>
              obtain ⟨j, rfl, HJ⟩ := hrel
              have hk := HD.out.keep HJ.out.2.1 (fun k e => e.elim .inl (fun e => .inr (.inl e))) hle
              have hz := hk.1
              simp only [ndCells] at hz
              clear z0 z1 z2 z3 z4 z5 z6 z7 hk
              obtain ⟨z0, z1, z2, z3, z4, z5, z6, z7, -, -, -, -, -, -, -, -⟩ := nd_facts hz
              clear hz
              by_cases hlt : j < vals.length
              · obtain ⟨zs, hl, hr⟩ := HJ.out.2.2
                have hjs : j < zs.length := by omega
                have cj : wr.cell? ⟨c2, j, none⟩ = some (.int .u64 zs[j]) := (cell_of_row wr c2 j _ _ _ hr).trans (by simp [u64s, hjs])
                have fj : wr.frozen? ⟨c2, j, none⟩ = false := heap_frozen hr j
                generalize zs[j] = s at cj
                have HR := Lib.hid (And.intro hl hr)
                clear hl hr hjs
                go_wp2_with fail
                go_roundw
                case rel =>
                  refine ⟨j + 1, by go_num, by omega, Off.set HJ.out.2.1 (p := ⟨c2, j, none⟩) (.inr rfl) _, zs.set j (IntKind.u64.wrap (s + 1)), by rw [List.length_set]; exact HR.out.1, ?_⟩
                  have h := row_set (j := j) (v := .int .u64 (IntKind.u64.wrap (s + 1))) HR.out.2
                  rw [show (u64s zs).set j (.int .u64 (IntKind.u64.wrap (s + 1))) = u64s (zs.set j (IntKind.u64.wrap (s + 1))) from by simp [u64s, List.map_set]] at h
                  exact h
                case measure => simp [intOf]; omega
              · have HO2 := Lib.hid HJ.out.2.1
                go_wp2_with fail
                go_loopw [9, 73] (fun _ i wr => ∃ j : Nat, i = .int .i64 j ∧ Hid (j ≤ kids.length ∧ Off (fun k => k = c1 ∨ k = c2 ∨ k = c3) Wb wr ∧ ∃ zs : List Int, zs.length = kids.length ∧ wr.heap[c3]? = some (.cells (i64s zs).toArray 3 (0, 0)))) (fun _ i _ => kids.length - (intOf i).toNat)
                case atStart => exact ⟨0, rfl, Nat.zero_le _, HO2.out.mono (fun _ _ e => e.elim .inl (fun e => .inr (.inl e))), kids, rfl, (HO2.out.block c3 (Array.getElem?_eq_some_iff.1 HD.out.k3).1 (fun e => e.elim (fun e => HD.out.ne.2.2.2.1 e.symm) (fun e => HD.out.ne.2.2.2.2.2.2.2.2.2.1 e.symm))).trans HD.out.k3⟩
                case round =>
                  obtain ⟨j, rfl, HJ⟩ := hrel
                  have hk := HD.out.keep HJ.out.2.1 (fun k e => e) hle
                  have hz := hk.1
                  simp only [ndCells] at hz
                  clear z0 z1 z2 z3 z4 z5 z6 z7
                  obtain ⟨z0, z1, z2, z3, z4, z5, z6, z7, -, -, -, -, -, -, -, -⟩ := nd_facts hz
                  have HK := Lib.hid hk
                  clear hz hk
                  by_cases hlt : j < kids.length
                  · obtain ⟨zs, hl, hr⟩ := HJ.out.2.2
                    have hjs : j < zs.length := by omega
                    have cj : wr.cell? ⟨c3, j, none⟩ = some (.int .i64 zs[j]) := (cell_of_row wr c3 j _ _ _ hr).trans (by simp [i64s, hjs])
                    have fj : wr.frozen? ⟨c3, j, none⟩ = false := heap_frozen hr j
                    generalize zs[j] = s at cj
                    have HR := Lib.hid (And.intro hl hr)
                    clear hl hr hjs
                    go_wp2_with fail
                    go_roundw
                    case rel =>
                      refine ⟨j + 1, by go_num, by omega, Off.set HJ.out.2.1 (p := ⟨c3, j, none⟩) (.inr (.inr rfl)) _, zs.set j (wrap64 (s + 1)), by rw [List.length_set]; exact HR.out.1, ?_⟩
                      have h := row_set (j := j) (v := .int .i64 (wrap64 (s + 1))) HR.out.2
                      rw [show (i64s zs).set j (.int .i64 (wrap64 (s + 1))) = i64s (zs.set j (wrap64 (s + 1))) from by simp [i64s, List.map_set]] at h
                      exact h
                    case measure => simp [intOf]; omega
                  · have HT2 := Lib.hid (HT0.out.up HK.out.2.2.2.2.2)
                    have hz := HK.out.2.1
                    simp only [ndCells] at hz
                    obtain ⟨v0, v1, v2, v3, v4, v5, v6, v7, -, -, -, -, -, -, -, -⟩ := nd_facts hz
                    obtain ⟨x0, x1, x2, x3, x4, x5, x6, x7⟩ := HT2.out.one
                    simp only [] at x0 x1 x2 x3 x4 x5 x6 x7
                    clear hz z0 z1 z2 z3 z4 z5 z6 z7
                    go_wp2_with fail
                    refine (Ret.to (refsameN_any ⟨level, low, high, last, next, keys, vals, kids⟩ ⟨level, low, high, last, next, keys, vals, kids⟩ (some ⟨d1, 0, none⟩) (some ⟨d2, 0, none⟩) (some ⟨d3, 0, none⟩) A B C keys.length vals.length kids.length ca cb cc _ (liesD HT2.out.la HK.out.2.2.1 HK.out.2.2.2.1 HK.out.2.2.2.2.1) HT2.out.la) (congrArg Value.bool (sameB_self _))).mono ?_
                    rintro e w8 ⟨rfl, hb8⟩
                    have H8 := Lib.hid (below_of HT2.out.bel hb8)
                    clear hb8 v0 v1 v2 v3 v4 v5 v6 v7 x0 x1 x2 x3 x4 x5 x6 x7
                    go_wp2_with fail
                    refine (lives10_any _).mono ?_
                    rintro e w9 ⟨rfl, hb9⟩
                    go_wp2_with fail
                    go_ret
                    exact ⟨rfl, below_of H8.out hb9⟩

end Go.Proofs.Ytcoiadncennhpaa
