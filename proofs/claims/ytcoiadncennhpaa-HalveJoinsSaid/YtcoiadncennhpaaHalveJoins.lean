/- The law HalveJoins: the walk. -/
import Derived.Test.YtcoiadncennhpaaHRef5
import Derived.Test.YtcoiadncennhpaaHal8
namespace Go.Proofs.Ytcoiadncennhpaa
open Go.RowKit

/-- Nodes that lie in memory. -/
def LL (W : World) (L : List (Nd × Option Addr × Option Addr × Option Addr × Nat × Nat × Nat)) : Prop :=
  ∀ (i : Nat) (d : Nd) (A B C : Option Addr) (ca cb cc : Nat), L[i]? = some (d, A, B, C, ca, cb, cc) → Lies W d A B C ca cb cc
theorem LL.start (W : World) : LL W [] := fun i d A B C ca cb cc q => by simp at q
theorem LL.up {W W' : World} {L : List (Nd × Option Addr × Option Addr × Option Addr × Nat × Nat × Nat)} (h : LL W L) (hb : Below W.heap.size W W') : LL W' L := fun i d A B C ca cb cc q => (h i d A B C ca cb cc q).up hb
theorem LL.add {W : World} {L : List (Nd × Option Addr × Option Addr × Option Addr × Nat × Nat × Nat)} (h : LL W L) {d : Nd} {A B C : Option Addr} {ca cb cc : Nat} (hl : Lies W d A B C ca cb cc) : LL W (L ++ [(d, A, B, C, ca, cb, cc)]) := by
  intro i d' A' B' C' ca' cb' cc' q
  rcases Nat.lt_or_ge i L.length with g | g
  · rw [List.getElem?_append_left g] at q
    exact h _ _ _ _ _ _ _ _ q
  · rw [List.getElem?_append_right g] at q
    rcases hz : i - L.length with _ | m
    · rw [hz] at q
      injection q with q
      injection q with q1 q
      injection q with q2 q
      injection q with q3 q
      injection q with q4 q
      injection q with q5 q
      injection q with q6 q
      subst q1; subst q2; subst q3; subst q4; subst q5; subst q6; subst q
      exact hl
    · rw [hz] at q
      simp at q

theorem Sx.pick {B : Nat} {W0 W : World} {L : List (Nat × Obj)} (h : Sx B W0 W L) (f : Nat → Nat) (M : List (Nat × Obj)) (hf : ∀ i j, i < M.length → j < M.length → i ≠ j → f i ≠ f j) (hm : ∀ (i : Nat) (p : Nat × Obj), M[i]? = some p → L[f i]? = some p) : Sx B W0 W M :=
  ⟨h.below, h.le, fun i g o hi => h.has _ g o (hm i _ hi), fun i j p q hij hi hj => h.ne _ _ p q (hf i j (List.getElem?_eq_some_iff.1 hi).1 (List.getElem?_eq_some_iff.1 hj).1 hij) (hm i p hi) (hm j q hj)⟩
theorem Sx.pick4 {B : Nat} {W0 W : World} {L : List (Nat × Obj)} (h : Sx B W0 W L) {p q r s : Nat × Obj} (x y : Nat) (h0 : L[0]? = some p) (h1 : L[1]? = some q) (h2 : L[x]? = some r) (h3 : L[y]? = some s) (hx : 2 ≤ x) (hy : 2 ≤ y) (hxy : x ≠ y) : Sx B W0 W [p, q, r, s] := by
  refine h.pick (fun i => match i with | 0 => 0 | 1 => 1 | 2 => x | _ => y) _ (fun i j hi hj hij => ?_) (fun i t ht => ?_)
  · simp only [List.length_cons, List.length_nil] at hi hj
    rcases i with _ | _ | _ | _ | i <;> rcases j with _ | _ | _ | _ | j <;> simp only [] <;> omega
  · rcases i with _ | _ | _ | _ | i
    · simp at ht; subst ht; exact h0
    · simp at ht; subst ht; exact h1
    · simp at ht; subst ht; exact h2
    · simp at ht; subst ht; exact h3
    · simp at ht

set_option maxRecDepth 100000 in
set_option maxHeartbeats 16000000 in
theorem halvejoins_any (a b : Nd) (fan : Int) (A B C A' B' C' : Option Addr) (ca cb cc ca' cb' cc' : Nat) (w : World) (h : Lies w a A B C ca cb cc) (k : Lies w b A' B' C' ca' cb' cc') :
    Calls Try.prog 10 #[.agg (ndCells a A B C ca cb cc), .agg (ndCells b A' B' C' ca' cb' cc'), .int .i64 fan] w (Ret (.bool true) w) := by
  have hS := Lib.hid (Sx.start2 w (.cells (ndCells a A B C ca cb cc) 26) (.cells (ndCells b A' B' C' ca' cb' cc') 26))
  have H1 := Lib.hid h
  have H2 := Lib.hid k
  have HLa := Lib.hid (fun W hW => lightN_any a A B C ca cb cc W hW)
  have HLb := Lib.hid (fun W hW => lightN_any b A' B' C' ca' cb' cc' W hW)
  have HSpa := Lib.hid (lightN_spec (d := a))
  have HSpb := Lib.hid (lightN_spec (d := b))
  have HMe := Lib.hid (fun W hW kW => merge_any a b fan A B C A' B' C' ca cb cc ca' cb' cc' W hW kW)
  have HEv := Lib.hid (fun W hW kW => even_any a b A B C A' B' C' ca cb cc ca' cb' cc' W hW kW)
  have HMeR := Lib.hid (fun (A B C A' B' C' : Option Addr) (ca cb cc ca' cb' cc' : Nat) W hW kW => refmerge_any a b fan A B C A' B' C' ca cb cc ca' cb' cc' W hW kW)
  have HEvR := Lib.hid (fun (A B C A' B' C' : Option Addr) (ca cb cc ca' cb' cc' : Nat) W hW kW => refeven_any a b A B C A' B' C' ca cb cc ca' cb' cc' W hW kW)
  have HSM := Lib.hid (fun (o : Nd) (A B C A' B' C' : Option Addr) (ca cb cc ca' cb' cc' : Nat) (W : World) h k => Ret.to (refsameN_any o o A B C A' B' C' ca cb cc ca' cb' cc' W h k) (congrArg Value.bool (sameB_self o)))
  clear h k
  generalize lightN a = la at HLa HSpa
  generalize lightN b = lb at HLb HSpb
  generalize mergeD a b fan = o1 at HMe HMeR
  generalize evenD a b = o2 at HEv HEvR
  obtain ⟨ok1, level1, nlow1, high1, last1, next1, keys1, vals1, kids1⟩ := o1
  obtain ⟨ok2, ⟨level2, nlow2, high2, last2, next2, keys2, vals2, kids2⟩, ⟨level3, nlow3, high3, last3, next3, keys3, vals3, kids3⟩⟩ := o2
  obtain ⟨level, nlow, high, last, next, keys, vals, kids⟩ := a
  obtain ⟨level', nlow', high', last', next', keys', vals', kids'⟩ := b
  simp only [ndCells] at hS HLa HLb HMe HEv HMeR HEvR HSM ⊢
  simp only [] at HSpa HSpb
  go_enter Try.func10, Try.ntmps10
  go_upto_region 1 with fail
  generalize (w.alloc _).alloc _ = W at hS ⊢
  obtain ⟨x0, x1, x2, x3, x4, x5, x6, x7, f0, f1, f2, f3, f4, f5, f6, f7⟩ := nd_facts (hS.out.has 0 _ _ rfl).1
  obtain ⟨y0, y1, y2, y3, y4, y5, y6, y7, q0, q1, q2, q3, q4, q5, q6, q7⟩ := nd_facts (hS.out.has 1 _ _ rfl).1
  go_wp2_with fail
  refine (HLa.out _ (H1.out.up hS.out.below)).mono ?_
  rintro e W1 ⟨rfl, hbn⟩
  clear x0 x1 x2 x3 x4 x5 x6 x7 f0 f1 f2 f3 f4 f5 f6 f7
  clear y0 y1 y2 y3 y4 y5 y6 y7 q0 q1 q2 q3 q4 q5 q6 q7
  replace hS := Lib.hid (hS.out.call hbn)
  clear hbn
  cases la
  · go_wp2_with fail
    refine (lives13_any _).mono ?_
    rintro e w2 ⟨rfl, hb2⟩
    go_wp2_with fail
    go_ret
    exact ⟨rfl, (hS.out.call hb2).below⟩
  · replace HSpa := Lib.hid (HSpa.out (by trivial))
    obtain ⟨x0, x1, x2, x3, x4, x5, x6, x7, f0, f1, f2, f3, f4, f5, f6, f7⟩ := nd_facts (hS.out.has 0 _ _ rfl).1
    obtain ⟨y0, y1, y2, y3, y4, y5, y6, y7, q0, q1, q2, q3, q4, q5, q6, q7⟩ := nd_facts (hS.out.has 1 _ _ rfl).1
    go_wp2_with fail
    refine (HLb.out _ (H2.out.up hS.out.below)).mono ?_
    rintro e W2 ⟨rfl, hbn⟩
    clear x0 x1 x2 x3 x4 x5 x6 x7 f0 f1 f2 f3 f4 f5 f6 f7
    clear y0 y1 y2 y3 y4 y5 y6 y7 q0 q1 q2 q3 q4 q5 q6 q7
    replace hS := Lib.hid (hS.out.call hbn)
    clear hbn
    cases lb
    · go_wp2_with fail
      refine (lives13_any _).mono ?_
      rintro e w2 ⟨rfl, hb2⟩
      go_wp2_with fail
      go_ret
      exact ⟨rfl, (hS.out.call hb2).below⟩
    · replace HSpb := Lib.hid (HSpb.out (by trivial))
      go_upto_region 3 with fail
      go_cut [7, 8] (fun s7 s8 wx => ∃ g7 g8 a1 a2 a3 b1 b2 b3, s7 = .pointer (some ⟨g7, 0, none⟩) ∧ s8 = .pointer (some ⟨g8, 0, none⟩) ∧ Hid (Sx w.heap.size w wx [(w.heap.size, .cells #[.int .i64 level, .string nlow, .string high, .bool last, .int .i64 next, .slice A keys.length ca, .slice B vals.length cb, .slice C kids.length cc] 26), (w.heap.size + 1, .cells #[.int .i64 level', .string nlow', .string high', .bool last', .int .i64 next', .slice A' keys'.length ca', .slice B' vals'.length cb', .slice C' kids'.length cc'] 26), (g7, .cells #[.int .i64 level, .string nlow, .string high, .bool last, .int .i64 next, .slice (some ⟨a1, 0, none⟩) keys.length keys.length, .slice (some ⟨a2, 0, none⟩) vals.length vals.length, .slice (some ⟨a3, 0, none⟩) kids.length kids.length] 26), (g8, .cells #[.int .i64 level', .string nlow', .string high', .bool last', .int .i64 next', .slice (some ⟨b1, 0, none⟩) keys'.length keys'.length, .slice (some ⟨b2, 0, none⟩) vals'.length vals'.length, .slice (some ⟨b3, 0, none⟩) kids'.length kids'.length] 26)] ∧ Lies wx ⟨level, nlow, high, last, next, keys, vals, kids⟩ (some ⟨a1, 0, none⟩) (some ⟨a2, 0, none⟩) (some ⟨a3, 0, none⟩) keys.length vals.length kids.length ∧ Lies wx ⟨level', nlow', high', last', next', keys', vals', kids'⟩ (some ⟨b1, 0, none⟩) (some ⟨b2, 0, none⟩) (some ⟨b3, 0, none⟩) keys'.length vals'.length kids'.length))
      case first =>
        have hd := Below.drew (Below.refl W2.heap.size W2)
        replace hS := Lib.hid (hS.out.call hd)
        clear hd
        refine wp_region_held_drew (S := fun w' => Sx w.heap.size w w' [(w.heap.size, .cells #[.int .i64 level, .string nlow, .string high, .bool last, .int .i64 next, .slice A keys.length ca, .slice B vals.length cb, .slice C kids.length cc] 26), (w.heap.size + 1, .cells #[.int .i64 level', .string nlow', .string high', .bool last', .int .i64 next', .slice A' keys'.length ca', .slice B' vals'.length cb', .slice C' kids'.length cc'] 26)]) (by kernel_rfl) hS.out (fun hcur => ?_)
        (try dsimp only at hcur)
        generalize W2.drew = X at hS hcur ⊢
        refine wpAnyH_take (i := 0) (v := ?_) rfl (by decide +kernel) (by decide +kernel) (by decide +kernel) (fun _ _ _ h => h) (Or.inl ⟨by rfl, ?hy⟩) hcur ?_
        case hy =>
          intro w1 hSw
          (try dsimp only at hSw)
          obtain ⟨x0, x1, x2, x3, x4, x5, x6, x7, -, -, -, -, -, -, -, -⟩ := nd_facts (hSw.has 0 _ _ rfl).1
          obtain ⟨y0, y1, y2, y3, y4, y5, y6, y7, -, -, -, -, -, -, -, -⟩ := nd_facts (hSw.has 1 _ _ rfl).1
          go_simp
          (try with_reducible rfl)
        (try simp only [Act.put, List.getElem_toArray, List.getElem_cons_zero, List.getElem_cons_succ, List.setIfInBounds_toArray, List.set_cons_zero, List.set_cons_succ])
        refine wpAnyH_take (i := 2) (v := ?_) rfl (by decide +kernel) (by decide +kernel) (by decide +kernel) (fun _ _ _ h => h) (Or.inl ⟨by rfl, ?hy⟩) hcur ?_
        case hy =>
          intro w1 hSw
          (try dsimp only at hSw)
          obtain ⟨x0, x1, x2, x3, x4, x5, x6, x7, -, -, -, -, -, -, -, -⟩ := nd_facts (hSw.has 0 _ _ rfl).1
          obtain ⟨y0, y1, y2, y3, y4, y5, y6, y7, -, -, -, -, -, -, -, -⟩ := nd_facts (hSw.has 1 _ _ rfl).1
          go_simp
          (try with_reducible rfl)
        (try simp only [Act.put, List.getElem_toArray, List.getElem_cons_zero, List.getElem_cons_succ, List.setIfInBounds_toArray, List.set_cons_zero, List.set_cons_succ])
        refine wpAnyH_ready (rs := [1, 4, 5]) (by decide +kernel) (by simp) ?_
        refine AllReadyH.cons rfl (fun K hK => ?_) (AllReadyH.cons rfl (fun K hK => ?_) (AllReadyH.cons rfl (fun K hK => ?_) AllReadyH.nil))
        · go_simp
          refine (cloneN_any ⟨level, nlow, high, last, next, keys, vals, kids⟩ A B C ca cb cc _ (H1.out.up hS.out.below) (by have := HSpa.out; simp only []; omega) (by have := HSpa.out; simp only []; omega) (by have := HSpa.out; simp only []; omega)).mono ?_
          rintro e X ⟨a1, a2, a3, rfl, r1, r2, r3, n12, n13, n23, m1, m2, m3, hbn⟩
          replace hS := Lib.hid (hS.out.rows (d := ⟨level, nlow, high, last, next, keys, vals, kids⟩) r1 r2 r3 n12 n13 n23 m1 m2 m3 hbn)
          clear r1 r2 r3 n12 n13 n23 m1 m2 m3 hbn
          simp only [rows3, List.cons_append, List.nil_append] at hS
          simp only [ndCells]
          go_wp2_with fail
          refine hK.out _ _ (hS.out.top 2) (fun hcur2 => ?_)
          clear hK K
          replace hcur := hcur2
          (try dsimp only at hcur)
          clear hcur2
          (try simp only [Act.put, List.getElem_toArray, List.getElem_cons_zero, List.getElem_cons_succ, List.setIfInBounds_toArray, List.set_cons_zero, List.set_cons_succ])
          refine wpAnyH_ready (rs := [3, 4, 5]) (by decide +kernel) (by simp) ?_
          refine AllReadyH.cons rfl (fun K hK => ?_) (AllReadyH.cons rfl (fun K hK => ?_) (AllReadyH.cons rfl (fun K hK => ?_) AllReadyH.nil))
          · go_simp
            refine (cloneN_any ⟨level', nlow', high', last', next', keys', vals', kids'⟩ A' B' C' ca' cb' cc' _ (H2.out.up hS.out.below) (by have := HSpb.out; simp only []; omega) (by have := HSpb.out; simp only []; omega) (by have := HSpb.out; simp only []; omega)).mono ?_
            rintro e X ⟨b1, b2, b3, rfl, r1, r2, r3, n12, n13, n23, m1, m2, m3, hbn⟩
            replace hS := Lib.hid (hS.out.rows (d := ⟨level', nlow', high', last', next', keys', vals', kids'⟩) r1 r2 r3 n12 n13 n23 m1 m2 m3 hbn)
            clear r1 r2 r3 n12 n13 n23 m1 m2 m3 hbn
            simp only [rows3, List.cons_append, List.nil_append] at hS
            simp only [ndCells]
            go_wp2_with fail
            refine hK.out _ _ (hS.out.top 2) (fun hcur2 => ?_)
            clear hK K
            replace hcur := hcur2
            (try dsimp only at hcur)
            clear hcur2
            (try simp only [Act.put, List.getElem_toArray, List.getElem_cons_zero, List.getElem_cons_succ, List.setIfInBounds_toArray, List.set_cons_zero, List.set_cons_succ])
            refine wpAnyH_ready (rs := [4, 5]) (by decide +kernel) (by simp) ?_
            refine AllReadyH.cons rfl (fun K hK => ?_) (AllReadyH.cons rfl (fun K hK => ?_) AllReadyH.nil)
            · go_simp
              replace hS := Lib.hid (hS.out.alloc (.cells #[.int .i64 0, .string ⟨#[]⟩, .string ⟨#[]⟩, .bool false, .int .i64 0, .slice none 0 0, .slice none 0 0, .slice none 0 0] 26))
              simp only [List.cons_append, List.nil_append, List.set_cons_zero, List.set_cons_succ] at hS
              refine hK.out _ _ (hS.out.top 2) (fun hcur2 => ?_)
              clear hK K
              replace hcur := hcur2
              (try dsimp only at hcur)
              clear hcur2
              (try simp only [Act.put, List.getElem_toArray, List.getElem_cons_zero, List.getElem_cons_succ, List.setIfInBounds_toArray, List.set_cons_zero, List.set_cons_succ])
              generalize X.heap.size = g7 at hS ⊢
              generalize X.alloc _ = X at hS hcur ⊢
              refine wpAnyH_ready (rs := [5]) (by decide +kernel) (by simp) ?_
              refine AllReadyH.cons rfl (fun K hK => ?_) AllReadyH.nil
              go_simp
              replace hS := Lib.hid (hS.out.alloc (.cells #[.int .i64 0, .string ⟨#[]⟩, .string ⟨#[]⟩, .bool false, .int .i64 0, .slice none 0 0, .slice none 0 0, .slice none 0 0] 26))
              simp only [List.cons_append, List.nil_append, List.set_cons_zero, List.set_cons_succ] at hS
              refine hK.out _ _ (hS.out.top 2) (fun hcur2 => ?_)
              clear hK K
              replace hcur := hcur2
              (try dsimp only at hcur)
              clear hcur2
              (try simp only [Act.put, List.getElem_toArray, List.getElem_cons_zero, List.getElem_cons_succ, List.setIfInBounds_toArray, List.set_cons_zero, List.set_cons_succ])
              generalize X.heap.size = g8 at hS ⊢
              generalize X.alloc _ = X at hS hcur ⊢
              refine wpAnyH_ready (rs := [6]) (by decide +kernel) (by simp) ?_
              refine AllReadyH.cons rfl (fun K hK => ?_) AllReadyH.nil
              obtain ⟨y0, y1, y2, y3, y4, y5, y6, y7, q0, q1, q2, q3, q4, q5, q6, q7⟩ := nd_facts (hS.out.has 8 _ _ rfl).1
              go_simp
              have hZ := hS.out.store 8 rfl (.int .i64 level) (.string nlow) (.string high) (.bool last) (.int .i64 next) (.slice (some ⟨a1, 0, none⟩) keys.length keys.length) (.slice (some ⟨a2, 0, none⟩) vals.length vals.length) (.slice (some ⟨a3, 0, none⟩) kids.length kids.length)
              simp only [set8] at hZ
              replace hS := Lib.hid hZ
              clear hZ
              simp only [List.cons_append, List.nil_append, List.set_cons_zero, List.set_cons_succ] at hS
              clear y0 y1 y2 y3 y4 y5 y6 y7 q0 q1 q2 q3 q4 q5 q6 q7
              refine hK.out _ _ (hS.out.top 2) (fun hcur2 => ?_)
              clear hK K
              replace hcur := hcur2
              (try dsimp only at hcur)
              clear hcur2
              (try simp only [Act.put, List.getElem_toArray, List.getElem_cons_zero, List.getElem_cons_succ, List.setIfInBounds_toArray, List.set_cons_zero, List.set_cons_succ])
              generalize World.setCell _ _ _ = X at hS hcur ⊢
              refine wpAnyH_ready (rs := [7]) (by decide +kernel) (by simp) ?_
              refine AllReadyH.cons rfl (fun K hK => ?_) AllReadyH.nil
              obtain ⟨y0, y1, y2, y3, y4, y5, y6, y7, q0, q1, q2, q3, q4, q5, q6, q7⟩ := nd_facts (hS.out.has 9 _ _ rfl).1
              go_simp
              have hZ := hS.out.store 9 rfl (.int .i64 level') (.string nlow') (.string high') (.bool last') (.int .i64 next') (.slice (some ⟨b1, 0, none⟩) keys'.length keys'.length) (.slice (some ⟨b2, 0, none⟩) vals'.length vals'.length) (.slice (some ⟨b3, 0, none⟩) kids'.length kids'.length)
              simp only [set8] at hZ
              replace hS := Lib.hid hZ
              clear hZ
              simp only [List.cons_append, List.nil_append, List.set_cons_zero, List.set_cons_succ] at hS
              clear y0 y1 y2 y3 y4 y5 y6 y7 q0 q1 q2 q3 q4 q5 q6 q7
              refine hK.out _ _ (hS.out.top 2) (fun hcur2 => ?_)
              clear hK K
              replace hcur := hcur2
              (try dsimp only at hcur)
              clear hcur2
              (try simp only [Act.put, List.getElem_toArray, List.getElem_cons_zero, List.getElem_cons_succ, List.setIfInBounds_toArray, List.set_cons_zero, List.set_cons_succ])
              generalize World.setCell _ _ _ = X at hS hcur ⊢
              refine wpAnyH_done (by decide +kernel) ?_ _
              clear hcur
              have HF := Lib.hid (And.intro (hS.out.pick4 8 9 rfl rfl rfl rfl (by omega) (by omega) (by omega)) (And.intro (liesD (d := ⟨level, nlow, high, last, next, keys, vals, kids⟩) H1.out (hS.out.has 2 _ _ rfl).1 (hS.out.has (2 + 1) _ _ rfl).1 (hS.out.has (2 + 2) _ _ rfl).1) (liesD (d := ⟨level', nlow', high', last', next', keys', vals', kids'⟩) H2.out (hS.out.has 5 _ _ rfl).1 (hS.out.has (5 + 1) _ _ rfl).1 (hS.out.has (5 + 2) _ _ rfl).1)))
              clear hS
              go_wp2_with fail
              go_meet
              exact ⟨g7, g8, a1, a2, a3, b1, b2, b3, rfl, rfl, HF⟩
            · go_simp
              replace hS := Lib.hid (hS.out.alloc (.cells #[.int .i64 0, .string ⟨#[]⟩, .string ⟨#[]⟩, .bool false, .int .i64 0, .slice none 0 0, .slice none 0 0, .slice none 0 0] 26))
              simp only [List.cons_append, List.nil_append, List.set_cons_zero, List.set_cons_succ] at hS
              refine hK.out _ _ (hS.out.top 2) (fun hcur2 => ?_)
              clear hK K
              replace hcur := hcur2
              (try dsimp only at hcur)
              clear hcur2
              (try simp only [Act.put, List.getElem_toArray, List.getElem_cons_zero, List.getElem_cons_succ, List.setIfInBounds_toArray, List.set_cons_zero, List.set_cons_succ])
              generalize X.heap.size = g8 at hS ⊢
              generalize X.alloc _ = X at hS hcur ⊢
              refine wpAnyH_ready (rs := [4]) (by decide +kernel) (by simp) ?_
              refine AllReadyH.cons rfl (fun K hK => ?_) AllReadyH.nil
              go_simp
              replace hS := Lib.hid (hS.out.alloc (.cells #[.int .i64 0, .string ⟨#[]⟩, .string ⟨#[]⟩, .bool false, .int .i64 0, .slice none 0 0, .slice none 0 0, .slice none 0 0] 26))
              simp only [List.cons_append, List.nil_append, List.set_cons_zero, List.set_cons_succ] at hS
              refine hK.out _ _ (hS.out.top 2) (fun hcur2 => ?_)
              clear hK K
              replace hcur := hcur2
              (try dsimp only at hcur)
              clear hcur2
              (try simp only [Act.put, List.getElem_toArray, List.getElem_cons_zero, List.getElem_cons_succ, List.setIfInBounds_toArray, List.set_cons_zero, List.set_cons_succ])
              generalize X.heap.size = g7 at hS ⊢
              generalize X.alloc _ = X at hS hcur ⊢
              refine wpAnyH_ready (rs := [6]) (by decide +kernel) (by simp) ?_
              refine AllReadyH.cons rfl (fun K hK => ?_) AllReadyH.nil
              obtain ⟨y0, y1, y2, y3, y4, y5, y6, y7, q0, q1, q2, q3, q4, q5, q6, q7⟩ := nd_facts (hS.out.has 9 _ _ rfl).1
              go_simp
              have hZ := hS.out.store 9 rfl (.int .i64 level) (.string nlow) (.string high) (.bool last) (.int .i64 next) (.slice (some ⟨a1, 0, none⟩) keys.length keys.length) (.slice (some ⟨a2, 0, none⟩) vals.length vals.length) (.slice (some ⟨a3, 0, none⟩) kids.length kids.length)
              simp only [set8] at hZ
              replace hS := Lib.hid hZ
              clear hZ
              simp only [List.cons_append, List.nil_append, List.set_cons_zero, List.set_cons_succ] at hS
              clear y0 y1 y2 y3 y4 y5 y6 y7 q0 q1 q2 q3 q4 q5 q6 q7
              refine hK.out _ _ (hS.out.top 2) (fun hcur2 => ?_)
              clear hK K
              replace hcur := hcur2
              (try dsimp only at hcur)
              clear hcur2
              (try simp only [Act.put, List.getElem_toArray, List.getElem_cons_zero, List.getElem_cons_succ, List.setIfInBounds_toArray, List.set_cons_zero, List.set_cons_succ])
              generalize World.setCell _ _ _ = X at hS hcur ⊢
              refine wpAnyH_ready (rs := [7]) (by decide +kernel) (by simp) ?_
              refine AllReadyH.cons rfl (fun K hK => ?_) AllReadyH.nil
              obtain ⟨y0, y1, y2, y3, y4, y5, y6, y7, q0, q1, q2, q3, q4, q5, q6, q7⟩ := nd_facts (hS.out.has 8 _ _ rfl).1
              go_simp
              have hZ := hS.out.store 8 rfl (.int .i64 level') (.string nlow') (.string high') (.bool last') (.int .i64 next') (.slice (some ⟨b1, 0, none⟩) keys'.length keys'.length) (.slice (some ⟨b2, 0, none⟩) vals'.length vals'.length) (.slice (some ⟨b3, 0, none⟩) kids'.length kids'.length)
              simp only [set8] at hZ
              replace hS := Lib.hid hZ
              clear hZ
              simp only [List.cons_append, List.nil_append, List.set_cons_zero, List.set_cons_succ] at hS
              clear y0 y1 y2 y3 y4 y5 y6 y7 q0 q1 q2 q3 q4 q5 q6 q7
              refine hK.out _ _ (hS.out.top 2) (fun hcur2 => ?_)
              clear hK K
              replace hcur := hcur2
              (try dsimp only at hcur)
              clear hcur2
              (try simp only [Act.put, List.getElem_toArray, List.getElem_cons_zero, List.getElem_cons_succ, List.setIfInBounds_toArray, List.set_cons_zero, List.set_cons_succ])
              generalize World.setCell _ _ _ = X at hS hcur ⊢
              refine wpAnyH_done (by decide +kernel) ?_ _
              clear hcur
              have HF := Lib.hid (And.intro (hS.out.pick4 9 8 rfl rfl rfl rfl (by omega) (by omega) (by omega)) (And.intro (liesD (d := ⟨level, nlow, high, last, next, keys, vals, kids⟩) H1.out (hS.out.has 2 _ _ rfl).1 (hS.out.has (2 + 1) _ _ rfl).1 (hS.out.has (2 + 2) _ _ rfl).1) (liesD (d := ⟨level', nlow', high', last', next', keys', vals', kids'⟩) H2.out (hS.out.has 5 _ _ rfl).1 (hS.out.has (5 + 1) _ _ rfl).1 (hS.out.has (5 + 2) _ _ rfl).1)))
              clear hS
              go_wp2_with fail
              go_meet
              exact ⟨g7, g8, a1, a2, a3, b1, b2, b3, rfl, rfl, HF⟩
          · go_simp
            replace hS := Lib.hid (hS.out.alloc (.cells #[.int .i64 0, .string ⟨#[]⟩, .string ⟨#[]⟩, .bool false, .int .i64 0, .slice none 0 0, .slice none 0 0, .slice none 0 0] 26))
            simp only [List.cons_append, List.nil_append, List.set_cons_zero, List.set_cons_succ] at hS
            refine hK.out _ _ (hS.out.top 2) (fun hcur2 => ?_)
            clear hK K
            replace hcur := hcur2
            (try dsimp only at hcur)
            clear hcur2
            (try simp only [Act.put, List.getElem_toArray, List.getElem_cons_zero, List.getElem_cons_succ, List.setIfInBounds_toArray, List.set_cons_zero, List.set_cons_succ])
            generalize X.heap.size = g7 at hS ⊢
            generalize X.alloc _ = X at hS hcur ⊢
            refine wpAnyH_ready (rs := [3, 5]) (by decide +kernel) (by simp) ?_
            refine AllReadyH.cons rfl (fun K hK => ?_) (AllReadyH.cons rfl (fun K hK => ?_) AllReadyH.nil)
            · go_simp
              refine (cloneN_any ⟨level', nlow', high', last', next', keys', vals', kids'⟩ A' B' C' ca' cb' cc' _ (H2.out.up hS.out.below) (by have := HSpb.out; simp only []; omega) (by have := HSpb.out; simp only []; omega) (by have := HSpb.out; simp only []; omega)).mono ?_
              rintro e X ⟨b1, b2, b3, rfl, r1, r2, r3, n12, n13, n23, m1, m2, m3, hbn⟩
              replace hS := Lib.hid (hS.out.rows (d := ⟨level', nlow', high', last', next', keys', vals', kids'⟩) r1 r2 r3 n12 n13 n23 m1 m2 m3 hbn)
              clear r1 r2 r3 n12 n13 n23 m1 m2 m3 hbn
              simp only [rows3, List.cons_append, List.nil_append] at hS
              simp only [ndCells]
              go_wp2_with fail
              refine hK.out _ _ (hS.out.top 2) (fun hcur2 => ?_)
              clear hK K
              replace hcur := hcur2
              (try dsimp only at hcur)
              clear hcur2
              (try simp only [Act.put, List.getElem_toArray, List.getElem_cons_zero, List.getElem_cons_succ, List.setIfInBounds_toArray, List.set_cons_zero, List.set_cons_succ])
              refine wpAnyH_ready (rs := [5]) (by decide +kernel) (by simp) ?_
              refine AllReadyH.cons rfl (fun K hK => ?_) AllReadyH.nil
              go_simp
              replace hS := Lib.hid (hS.out.alloc (.cells #[.int .i64 0, .string ⟨#[]⟩, .string ⟨#[]⟩, .bool false, .int .i64 0, .slice none 0 0, .slice none 0 0, .slice none 0 0] 26))
              simp only [List.cons_append, List.nil_append, List.set_cons_zero, List.set_cons_succ] at hS
              refine hK.out _ _ (hS.out.top 2) (fun hcur2 => ?_)
              clear hK K
              replace hcur := hcur2
              (try dsimp only at hcur)
              clear hcur2
              (try simp only [Act.put, List.getElem_toArray, List.getElem_cons_zero, List.getElem_cons_succ, List.setIfInBounds_toArray, List.set_cons_zero, List.set_cons_succ])
              generalize X.heap.size = g8 at hS ⊢
              generalize X.alloc _ = X at hS hcur ⊢
              refine wpAnyH_ready (rs := [6]) (by decide +kernel) (by simp) ?_
              refine AllReadyH.cons rfl (fun K hK => ?_) AllReadyH.nil
              obtain ⟨y0, y1, y2, y3, y4, y5, y6, y7, q0, q1, q2, q3, q4, q5, q6, q7⟩ := nd_facts (hS.out.has 5 _ _ rfl).1
              go_simp
              have hZ := hS.out.store 5 rfl (.int .i64 level) (.string nlow) (.string high) (.bool last) (.int .i64 next) (.slice (some ⟨a1, 0, none⟩) keys.length keys.length) (.slice (some ⟨a2, 0, none⟩) vals.length vals.length) (.slice (some ⟨a3, 0, none⟩) kids.length kids.length)
              simp only [set8] at hZ
              replace hS := Lib.hid hZ
              clear hZ
              simp only [List.cons_append, List.nil_append, List.set_cons_zero, List.set_cons_succ] at hS
              clear y0 y1 y2 y3 y4 y5 y6 y7 q0 q1 q2 q3 q4 q5 q6 q7
              refine hK.out _ _ (hS.out.top 2) (fun hcur2 => ?_)
              clear hK K
              replace hcur := hcur2
              (try dsimp only at hcur)
              clear hcur2
              (try simp only [Act.put, List.getElem_toArray, List.getElem_cons_zero, List.getElem_cons_succ, List.setIfInBounds_toArray, List.set_cons_zero, List.set_cons_succ])
              generalize World.setCell _ _ _ = X at hS hcur ⊢
              refine wpAnyH_ready (rs := [7]) (by decide +kernel) (by simp) ?_
              refine AllReadyH.cons rfl (fun K hK => ?_) AllReadyH.nil
              obtain ⟨y0, y1, y2, y3, y4, y5, y6, y7, q0, q1, q2, q3, q4, q5, q6, q7⟩ := nd_facts (hS.out.has 9 _ _ rfl).1
              go_simp
              have hZ := hS.out.store 9 rfl (.int .i64 level') (.string nlow') (.string high') (.bool last') (.int .i64 next') (.slice (some ⟨b1, 0, none⟩) keys'.length keys'.length) (.slice (some ⟨b2, 0, none⟩) vals'.length vals'.length) (.slice (some ⟨b3, 0, none⟩) kids'.length kids'.length)
              simp only [set8] at hZ
              replace hS := Lib.hid hZ
              clear hZ
              simp only [List.cons_append, List.nil_append, List.set_cons_zero, List.set_cons_succ] at hS
              clear y0 y1 y2 y3 y4 y5 y6 y7 q0 q1 q2 q3 q4 q5 q6 q7
              refine hK.out _ _ (hS.out.top 2) (fun hcur2 => ?_)
              clear hK K
              replace hcur := hcur2
              (try dsimp only at hcur)
              clear hcur2
              (try simp only [Act.put, List.getElem_toArray, List.getElem_cons_zero, List.getElem_cons_succ, List.setIfInBounds_toArray, List.set_cons_zero, List.set_cons_succ])
              generalize World.setCell _ _ _ = X at hS hcur ⊢
              refine wpAnyH_done (by decide +kernel) ?_ _
              clear hcur
              have HF := Lib.hid (And.intro (hS.out.pick4 5 9 rfl rfl rfl rfl (by omega) (by omega) (by omega)) (And.intro (liesD (d := ⟨level, nlow, high, last, next, keys, vals, kids⟩) H1.out (hS.out.has 2 _ _ rfl).1 (hS.out.has (2 + 1) _ _ rfl).1 (hS.out.has (2 + 2) _ _ rfl).1) (liesD (d := ⟨level', nlow', high', last', next', keys', vals', kids'⟩) H2.out (hS.out.has 6 _ _ rfl).1 (hS.out.has (6 + 1) _ _ rfl).1 (hS.out.has (6 + 2) _ _ rfl).1)))
              clear hS
              go_wp2_with fail
              go_meet
              exact ⟨g7, g8, a1, a2, a3, b1, b2, b3, rfl, rfl, HF⟩
            · go_simp
              replace hS := Lib.hid (hS.out.alloc (.cells #[.int .i64 0, .string ⟨#[]⟩, .string ⟨#[]⟩, .bool false, .int .i64 0, .slice none 0 0, .slice none 0 0, .slice none 0 0] 26))
              simp only [List.cons_append, List.nil_append, List.set_cons_zero, List.set_cons_succ] at hS
              refine hK.out _ _ (hS.out.top 2) (fun hcur2 => ?_)
              clear hK K
              replace hcur := hcur2
              (try dsimp only at hcur)
              clear hcur2
              (try simp only [Act.put, List.getElem_toArray, List.getElem_cons_zero, List.getElem_cons_succ, List.setIfInBounds_toArray, List.set_cons_zero, List.set_cons_succ])
              generalize X.heap.size = g8 at hS ⊢
              generalize X.alloc _ = X at hS hcur ⊢
              refine wpAnyH_ready (rs := [3]) (by decide +kernel) (by simp) ?_
              refine AllReadyH.cons rfl (fun K hK => ?_) AllReadyH.nil
              go_simp
              refine (cloneN_any ⟨level', nlow', high', last', next', keys', vals', kids'⟩ A' B' C' ca' cb' cc' _ (H2.out.up hS.out.below) (by have := HSpb.out; simp only []; omega) (by have := HSpb.out; simp only []; omega) (by have := HSpb.out; simp only []; omega)).mono ?_
              rintro e X ⟨b1, b2, b3, rfl, r1, r2, r3, n12, n13, n23, m1, m2, m3, hbn⟩
              replace hS := Lib.hid (hS.out.rows (d := ⟨level', nlow', high', last', next', keys', vals', kids'⟩) r1 r2 r3 n12 n13 n23 m1 m2 m3 hbn)
              clear r1 r2 r3 n12 n13 n23 m1 m2 m3 hbn
              simp only [rows3, List.cons_append, List.nil_append] at hS
              simp only [ndCells]
              go_wp2_with fail
              refine hK.out _ _ (hS.out.top 2) (fun hcur2 => ?_)
              clear hK K
              replace hcur := hcur2
              (try dsimp only at hcur)
              clear hcur2
              (try simp only [Act.put, List.getElem_toArray, List.getElem_cons_zero, List.getElem_cons_succ, List.setIfInBounds_toArray, List.set_cons_zero, List.set_cons_succ])
              refine wpAnyH_ready (rs := [6]) (by decide +kernel) (by simp) ?_
              refine AllReadyH.cons rfl (fun K hK => ?_) AllReadyH.nil
              obtain ⟨y0, y1, y2, y3, y4, y5, y6, y7, q0, q1, q2, q3, q4, q5, q6, q7⟩ := nd_facts (hS.out.has 5 _ _ rfl).1
              go_simp
              have hZ := hS.out.store 5 rfl (.int .i64 level) (.string nlow) (.string high) (.bool last) (.int .i64 next) (.slice (some ⟨a1, 0, none⟩) keys.length keys.length) (.slice (some ⟨a2, 0, none⟩) vals.length vals.length) (.slice (some ⟨a3, 0, none⟩) kids.length kids.length)
              simp only [set8] at hZ
              replace hS := Lib.hid hZ
              clear hZ
              simp only [List.cons_append, List.nil_append, List.set_cons_zero, List.set_cons_succ] at hS
              clear y0 y1 y2 y3 y4 y5 y6 y7 q0 q1 q2 q3 q4 q5 q6 q7
              refine hK.out _ _ (hS.out.top 2) (fun hcur2 => ?_)
              clear hK K
              replace hcur := hcur2
              (try dsimp only at hcur)
              clear hcur2
              (try simp only [Act.put, List.getElem_toArray, List.getElem_cons_zero, List.getElem_cons_succ, List.setIfInBounds_toArray, List.set_cons_zero, List.set_cons_succ])
              generalize World.setCell _ _ _ = X at hS hcur ⊢
              refine wpAnyH_ready (rs := [7]) (by decide +kernel) (by simp) ?_
              refine AllReadyH.cons rfl (fun K hK => ?_) AllReadyH.nil
              obtain ⟨y0, y1, y2, y3, y4, y5, y6, y7, q0, q1, q2, q3, q4, q5, q6, q7⟩ := nd_facts (hS.out.has 6 _ _ rfl).1
              go_simp
              have hZ := hS.out.store 6 rfl (.int .i64 level') (.string nlow') (.string high') (.bool last') (.int .i64 next') (.slice (some ⟨b1, 0, none⟩) keys'.length keys'.length) (.slice (some ⟨b2, 0, none⟩) vals'.length vals'.length) (.slice (some ⟨b3, 0, none⟩) kids'.length kids'.length)
              simp only [set8] at hZ
              replace hS := Lib.hid hZ
              clear hZ
              simp only [List.cons_append, List.nil_append, List.set_cons_zero, List.set_cons_succ] at hS
              clear y0 y1 y2 y3 y4 y5 y6 y7 q0 q1 q2 q3 q4 q5 q6 q7
              refine hK.out _ _ (hS.out.top 2) (fun hcur2 => ?_)
              clear hK K
              replace hcur := hcur2
              (try dsimp only at hcur)
              clear hcur2
              (try simp only [Act.put, List.getElem_toArray, List.getElem_cons_zero, List.getElem_cons_succ, List.setIfInBounds_toArray, List.set_cons_zero, List.set_cons_succ])
              generalize World.setCell _ _ _ = X at hS hcur ⊢
              refine wpAnyH_done (by decide +kernel) ?_ _
              clear hcur
              have HF := Lib.hid (And.intro (hS.out.pick4 5 6 rfl rfl rfl rfl (by omega) (by omega) (by omega)) (And.intro (liesD (d := ⟨level, nlow, high, last, next, keys, vals, kids⟩) H1.out (hS.out.has 2 _ _ rfl).1 (hS.out.has (2 + 1) _ _ rfl).1 (hS.out.has (2 + 2) _ _ rfl).1) (liesD (d := ⟨level', nlow', high', last', next', keys', vals', kids'⟩) H2.out (hS.out.has 7 _ _ rfl).1 (hS.out.has (7 + 1) _ _ rfl).1 (hS.out.has (7 + 2) _ _ rfl).1)))
              clear hS
              go_wp2_with fail
              go_meet
              exact ⟨g7, g8, a1, a2, a3, b1, b2, b3, rfl, rfl, HF⟩
          · go_simp
            replace hS := Lib.hid (hS.out.alloc (.cells #[.int .i64 0, .string ⟨#[]⟩, .string ⟨#[]⟩, .bool false, .int .i64 0, .slice none 0 0, .slice none 0 0, .slice none 0 0] 26))
            simp only [List.cons_append, List.nil_append, List.set_cons_zero, List.set_cons_succ] at hS
            refine hK.out _ _ (hS.out.top 2) (fun hcur2 => ?_)
            clear hK K
            replace hcur := hcur2
            (try dsimp only at hcur)
            clear hcur2
            (try simp only [Act.put, List.getElem_toArray, List.getElem_cons_zero, List.getElem_cons_succ, List.setIfInBounds_toArray, List.set_cons_zero, List.set_cons_succ])
            generalize X.heap.size = g8 at hS ⊢
            generalize X.alloc _ = X at hS hcur ⊢
            refine wpAnyH_ready (rs := [3, 4]) (by decide +kernel) (by simp) ?_
            refine AllReadyH.cons rfl (fun K hK => ?_) (AllReadyH.cons rfl (fun K hK => ?_) AllReadyH.nil)
            · go_simp
              refine (cloneN_any ⟨level', nlow', high', last', next', keys', vals', kids'⟩ A' B' C' ca' cb' cc' _ (H2.out.up hS.out.below) (by have := HSpb.out; simp only []; omega) (by have := HSpb.out; simp only []; omega) (by have := HSpb.out; simp only []; omega)).mono ?_
              rintro e X ⟨b1, b2, b3, rfl, r1, r2, r3, n12, n13, n23, m1, m2, m3, hbn⟩
              replace hS := Lib.hid (hS.out.rows (d := ⟨level', nlow', high', last', next', keys', vals', kids'⟩) r1 r2 r3 n12 n13 n23 m1 m2 m3 hbn)
              clear r1 r2 r3 n12 n13 n23 m1 m2 m3 hbn
              simp only [rows3, List.cons_append, List.nil_append] at hS
              simp only [ndCells]
              go_wp2_with fail
              refine hK.out _ _ (hS.out.top 2) (fun hcur2 => ?_)
              clear hK K
              replace hcur := hcur2
              (try dsimp only at hcur)
              clear hcur2
              (try simp only [Act.put, List.getElem_toArray, List.getElem_cons_zero, List.getElem_cons_succ, List.setIfInBounds_toArray, List.set_cons_zero, List.set_cons_succ])
              refine wpAnyH_ready (rs := [4]) (by decide +kernel) (by simp) ?_
              refine AllReadyH.cons rfl (fun K hK => ?_) AllReadyH.nil
              go_simp
              replace hS := Lib.hid (hS.out.alloc (.cells #[.int .i64 0, .string ⟨#[]⟩, .string ⟨#[]⟩, .bool false, .int .i64 0, .slice none 0 0, .slice none 0 0, .slice none 0 0] 26))
              simp only [List.cons_append, List.nil_append, List.set_cons_zero, List.set_cons_succ] at hS
              refine hK.out _ _ (hS.out.top 2) (fun hcur2 => ?_)
              clear hK K
              replace hcur := hcur2
              (try dsimp only at hcur)
              clear hcur2
              (try simp only [Act.put, List.getElem_toArray, List.getElem_cons_zero, List.getElem_cons_succ, List.setIfInBounds_toArray, List.set_cons_zero, List.set_cons_succ])
              generalize X.heap.size = g7 at hS ⊢
              generalize X.alloc _ = X at hS hcur ⊢
              refine wpAnyH_ready (rs := [6]) (by decide +kernel) (by simp) ?_
              refine AllReadyH.cons rfl (fun K hK => ?_) AllReadyH.nil
              obtain ⟨y0, y1, y2, y3, y4, y5, y6, y7, q0, q1, q2, q3, q4, q5, q6, q7⟩ := nd_facts (hS.out.has 9 _ _ rfl).1
              go_simp
              have hZ := hS.out.store 9 rfl (.int .i64 level) (.string nlow) (.string high) (.bool last) (.int .i64 next) (.slice (some ⟨a1, 0, none⟩) keys.length keys.length) (.slice (some ⟨a2, 0, none⟩) vals.length vals.length) (.slice (some ⟨a3, 0, none⟩) kids.length kids.length)
              simp only [set8] at hZ
              replace hS := Lib.hid hZ
              clear hZ
              simp only [List.cons_append, List.nil_append, List.set_cons_zero, List.set_cons_succ] at hS
              clear y0 y1 y2 y3 y4 y5 y6 y7 q0 q1 q2 q3 q4 q5 q6 q7
              refine hK.out _ _ (hS.out.top 2) (fun hcur2 => ?_)
              clear hK K
              replace hcur := hcur2
              (try dsimp only at hcur)
              clear hcur2
              (try simp only [Act.put, List.getElem_toArray, List.getElem_cons_zero, List.getElem_cons_succ, List.setIfInBounds_toArray, List.set_cons_zero, List.set_cons_succ])
              generalize World.setCell _ _ _ = X at hS hcur ⊢
              refine wpAnyH_ready (rs := [7]) (by decide +kernel) (by simp) ?_
              refine AllReadyH.cons rfl (fun K hK => ?_) AllReadyH.nil
              obtain ⟨y0, y1, y2, y3, y4, y5, y6, y7, q0, q1, q2, q3, q4, q5, q6, q7⟩ := nd_facts (hS.out.has 5 _ _ rfl).1
              go_simp
              have hZ := hS.out.store 5 rfl (.int .i64 level') (.string nlow') (.string high') (.bool last') (.int .i64 next') (.slice (some ⟨b1, 0, none⟩) keys'.length keys'.length) (.slice (some ⟨b2, 0, none⟩) vals'.length vals'.length) (.slice (some ⟨b3, 0, none⟩) kids'.length kids'.length)
              simp only [set8] at hZ
              replace hS := Lib.hid hZ
              clear hZ
              simp only [List.cons_append, List.nil_append, List.set_cons_zero, List.set_cons_succ] at hS
              clear y0 y1 y2 y3 y4 y5 y6 y7 q0 q1 q2 q3 q4 q5 q6 q7
              refine hK.out _ _ (hS.out.top 2) (fun hcur2 => ?_)
              clear hK K
              replace hcur := hcur2
              (try dsimp only at hcur)
              clear hcur2
              (try simp only [Act.put, List.getElem_toArray, List.getElem_cons_zero, List.getElem_cons_succ, List.setIfInBounds_toArray, List.set_cons_zero, List.set_cons_succ])
              generalize World.setCell _ _ _ = X at hS hcur ⊢
              refine wpAnyH_done (by decide +kernel) ?_ _
              clear hcur
              have HF := Lib.hid (And.intro (hS.out.pick4 9 5 rfl rfl rfl rfl (by omega) (by omega) (by omega)) (And.intro (liesD (d := ⟨level, nlow, high, last, next, keys, vals, kids⟩) H1.out (hS.out.has 2 _ _ rfl).1 (hS.out.has (2 + 1) _ _ rfl).1 (hS.out.has (2 + 2) _ _ rfl).1) (liesD (d := ⟨level', nlow', high', last', next', keys', vals', kids'⟩) H2.out (hS.out.has 6 _ _ rfl).1 (hS.out.has (6 + 1) _ _ rfl).1 (hS.out.has (6 + 2) _ _ rfl).1)))
              clear hS
              go_wp2_with fail
              go_meet
              exact ⟨g7, g8, a1, a2, a3, b1, b2, b3, rfl, rfl, HF⟩
            · go_simp
              replace hS := Lib.hid (hS.out.alloc (.cells #[.int .i64 0, .string ⟨#[]⟩, .string ⟨#[]⟩, .bool false, .int .i64 0, .slice none 0 0, .slice none 0 0, .slice none 0 0] 26))
              simp only [List.cons_append, List.nil_append, List.set_cons_zero, List.set_cons_succ] at hS
              refine hK.out _ _ (hS.out.top 2) (fun hcur2 => ?_)
              clear hK K
              replace hcur := hcur2
              (try dsimp only at hcur)
              clear hcur2
              (try simp only [Act.put, List.getElem_toArray, List.getElem_cons_zero, List.getElem_cons_succ, List.setIfInBounds_toArray, List.set_cons_zero, List.set_cons_succ])
              generalize X.heap.size = g7 at hS ⊢
              generalize X.alloc _ = X at hS hcur ⊢
              refine wpAnyH_ready (rs := [3]) (by decide +kernel) (by simp) ?_
              refine AllReadyH.cons rfl (fun K hK => ?_) AllReadyH.nil
              go_simp
              refine (cloneN_any ⟨level', nlow', high', last', next', keys', vals', kids'⟩ A' B' C' ca' cb' cc' _ (H2.out.up hS.out.below) (by have := HSpb.out; simp only []; omega) (by have := HSpb.out; simp only []; omega) (by have := HSpb.out; simp only []; omega)).mono ?_
              rintro e X ⟨b1, b2, b3, rfl, r1, r2, r3, n12, n13, n23, m1, m2, m3, hbn⟩
              replace hS := Lib.hid (hS.out.rows (d := ⟨level', nlow', high', last', next', keys', vals', kids'⟩) r1 r2 r3 n12 n13 n23 m1 m2 m3 hbn)
              clear r1 r2 r3 n12 n13 n23 m1 m2 m3 hbn
              simp only [rows3, List.cons_append, List.nil_append] at hS
              simp only [ndCells]
              go_wp2_with fail
              refine hK.out _ _ (hS.out.top 2) (fun hcur2 => ?_)
              clear hK K
              replace hcur := hcur2
              (try dsimp only at hcur)
              clear hcur2
              (try simp only [Act.put, List.getElem_toArray, List.getElem_cons_zero, List.getElem_cons_succ, List.setIfInBounds_toArray, List.set_cons_zero, List.set_cons_succ])
              refine wpAnyH_ready (rs := [6]) (by decide +kernel) (by simp) ?_
              refine AllReadyH.cons rfl (fun K hK => ?_) AllReadyH.nil
              obtain ⟨y0, y1, y2, y3, y4, y5, y6, y7, q0, q1, q2, q3, q4, q5, q6, q7⟩ := nd_facts (hS.out.has 6 _ _ rfl).1
              go_simp
              have hZ := hS.out.store 6 rfl (.int .i64 level) (.string nlow) (.string high) (.bool last) (.int .i64 next) (.slice (some ⟨a1, 0, none⟩) keys.length keys.length) (.slice (some ⟨a2, 0, none⟩) vals.length vals.length) (.slice (some ⟨a3, 0, none⟩) kids.length kids.length)
              simp only [set8] at hZ
              replace hS := Lib.hid hZ
              clear hZ
              simp only [List.cons_append, List.nil_append, List.set_cons_zero, List.set_cons_succ] at hS
              clear y0 y1 y2 y3 y4 y5 y6 y7 q0 q1 q2 q3 q4 q5 q6 q7
              refine hK.out _ _ (hS.out.top 2) (fun hcur2 => ?_)
              clear hK K
              replace hcur := hcur2
              (try dsimp only at hcur)
              clear hcur2
              (try simp only [Act.put, List.getElem_toArray, List.getElem_cons_zero, List.getElem_cons_succ, List.setIfInBounds_toArray, List.set_cons_zero, List.set_cons_succ])
              generalize World.setCell _ _ _ = X at hS hcur ⊢
              refine wpAnyH_ready (rs := [7]) (by decide +kernel) (by simp) ?_
              refine AllReadyH.cons rfl (fun K hK => ?_) AllReadyH.nil
              obtain ⟨y0, y1, y2, y3, y4, y5, y6, y7, q0, q1, q2, q3, q4, q5, q6, q7⟩ := nd_facts (hS.out.has 5 _ _ rfl).1
              go_simp
              have hZ := hS.out.store 5 rfl (.int .i64 level') (.string nlow') (.string high') (.bool last') (.int .i64 next') (.slice (some ⟨b1, 0, none⟩) keys'.length keys'.length) (.slice (some ⟨b2, 0, none⟩) vals'.length vals'.length) (.slice (some ⟨b3, 0, none⟩) kids'.length kids'.length)
              simp only [set8] at hZ
              replace hS := Lib.hid hZ
              clear hZ
              simp only [List.cons_append, List.nil_append, List.set_cons_zero, List.set_cons_succ] at hS
              clear y0 y1 y2 y3 y4 y5 y6 y7 q0 q1 q2 q3 q4 q5 q6 q7
              refine hK.out _ _ (hS.out.top 2) (fun hcur2 => ?_)
              clear hK K
              replace hcur := hcur2
              (try dsimp only at hcur)
              clear hcur2
              (try simp only [Act.put, List.getElem_toArray, List.getElem_cons_zero, List.getElem_cons_succ, List.setIfInBounds_toArray, List.set_cons_zero, List.set_cons_succ])
              generalize World.setCell _ _ _ = X at hS hcur ⊢
              refine wpAnyH_done (by decide +kernel) ?_ _
              clear hcur
              have HF := Lib.hid (And.intro (hS.out.pick4 6 5 rfl rfl rfl rfl (by omega) (by omega) (by omega)) (And.intro (liesD (d := ⟨level, nlow, high, last, next, keys, vals, kids⟩) H1.out (hS.out.has 2 _ _ rfl).1 (hS.out.has (2 + 1) _ _ rfl).1 (hS.out.has (2 + 2) _ _ rfl).1) (liesD (d := ⟨level', nlow', high', last', next', keys', vals', kids'⟩) H2.out (hS.out.has 7 _ _ rfl).1 (hS.out.has (7 + 1) _ _ rfl).1 (hS.out.has (7 + 2) _ _ rfl).1)))
              clear hS
              go_wp2_with fail
              go_meet
              exact ⟨g7, g8, a1, a2, a3, b1, b2, b3, rfl, rfl, HF⟩
        · go_simp
          replace hS := Lib.hid (hS.out.alloc (.cells #[.int .i64 0, .string ⟨#[]⟩, .string ⟨#[]⟩, .bool false, .int .i64 0, .slice none 0 0, .slice none 0 0, .slice none 0 0] 26))
          simp only [List.cons_append, List.nil_append, List.set_cons_zero, List.set_cons_succ] at hS
          refine hK.out _ _ (hS.out.top 2) (fun hcur2 => ?_)
          clear hK K
          replace hcur := hcur2
          (try dsimp only at hcur)
          clear hcur2
          (try simp only [Act.put, List.getElem_toArray, List.getElem_cons_zero, List.getElem_cons_succ, List.setIfInBounds_toArray, List.set_cons_zero, List.set_cons_succ])
          generalize X.heap.size = g7 at hS ⊢
          generalize X.alloc _ = X at hS hcur ⊢
          refine wpAnyH_ready (rs := [1, 5]) (by decide +kernel) (by simp) ?_
          refine AllReadyH.cons rfl (fun K hK => ?_) (AllReadyH.cons rfl (fun K hK => ?_) AllReadyH.nil)
          · go_simp
            refine (cloneN_any ⟨level, nlow, high, last, next, keys, vals, kids⟩ A B C ca cb cc _ (H1.out.up hS.out.below) (by have := HSpa.out; simp only []; omega) (by have := HSpa.out; simp only []; omega) (by have := HSpa.out; simp only []; omega)).mono ?_
            rintro e X ⟨a1, a2, a3, rfl, r1, r2, r3, n12, n13, n23, m1, m2, m3, hbn⟩
            replace hS := Lib.hid (hS.out.rows (d := ⟨level, nlow, high, last, next, keys, vals, kids⟩) r1 r2 r3 n12 n13 n23 m1 m2 m3 hbn)
            clear r1 r2 r3 n12 n13 n23 m1 m2 m3 hbn
            simp only [rows3, List.cons_append, List.nil_append] at hS
            simp only [ndCells]
            go_wp2_with fail
            refine hK.out _ _ (hS.out.top 2) (fun hcur2 => ?_)
            clear hK K
            replace hcur := hcur2
            (try dsimp only at hcur)
            clear hcur2
            (try simp only [Act.put, List.getElem_toArray, List.getElem_cons_zero, List.getElem_cons_succ, List.setIfInBounds_toArray, List.set_cons_zero, List.set_cons_succ])
            refine wpAnyH_ready (rs := [3, 5]) (by decide +kernel) (by simp) ?_
            refine AllReadyH.cons rfl (fun K hK => ?_) (AllReadyH.cons rfl (fun K hK => ?_) AllReadyH.nil)
            · go_simp
              refine (cloneN_any ⟨level', nlow', high', last', next', keys', vals', kids'⟩ A' B' C' ca' cb' cc' _ (H2.out.up hS.out.below) (by have := HSpb.out; simp only []; omega) (by have := HSpb.out; simp only []; omega) (by have := HSpb.out; simp only []; omega)).mono ?_
              rintro e X ⟨b1, b2, b3, rfl, r1, r2, r3, n12, n13, n23, m1, m2, m3, hbn⟩
              replace hS := Lib.hid (hS.out.rows (d := ⟨level', nlow', high', last', next', keys', vals', kids'⟩) r1 r2 r3 n12 n13 n23 m1 m2 m3 hbn)
              clear r1 r2 r3 n12 n13 n23 m1 m2 m3 hbn
              simp only [rows3, List.cons_append, List.nil_append] at hS
              simp only [ndCells]
              go_wp2_with fail
              refine hK.out _ _ (hS.out.top 2) (fun hcur2 => ?_)
              clear hK K
              replace hcur := hcur2
              (try dsimp only at hcur)
              clear hcur2
              (try simp only [Act.put, List.getElem_toArray, List.getElem_cons_zero, List.getElem_cons_succ, List.setIfInBounds_toArray, List.set_cons_zero, List.set_cons_succ])
              refine wpAnyH_ready (rs := [5]) (by decide +kernel) (by simp) ?_
              refine AllReadyH.cons rfl (fun K hK => ?_) AllReadyH.nil
              go_simp
              replace hS := Lib.hid (hS.out.alloc (.cells #[.int .i64 0, .string ⟨#[]⟩, .string ⟨#[]⟩, .bool false, .int .i64 0, .slice none 0 0, .slice none 0 0, .slice none 0 0] 26))
              simp only [List.cons_append, List.nil_append, List.set_cons_zero, List.set_cons_succ] at hS
              refine hK.out _ _ (hS.out.top 2) (fun hcur2 => ?_)
              clear hK K
              replace hcur := hcur2
              (try dsimp only at hcur)
              clear hcur2
              (try simp only [Act.put, List.getElem_toArray, List.getElem_cons_zero, List.getElem_cons_succ, List.setIfInBounds_toArray, List.set_cons_zero, List.set_cons_succ])
              generalize X.heap.size = g8 at hS ⊢
              generalize X.alloc _ = X at hS hcur ⊢
              refine wpAnyH_ready (rs := [6]) (by decide +kernel) (by simp) ?_
              refine AllReadyH.cons rfl (fun K hK => ?_) AllReadyH.nil
              obtain ⟨y0, y1, y2, y3, y4, y5, y6, y7, q0, q1, q2, q3, q4, q5, q6, q7⟩ := nd_facts (hS.out.has 2 _ _ rfl).1
              go_simp
              have hZ := hS.out.store 2 rfl (.int .i64 level) (.string nlow) (.string high) (.bool last) (.int .i64 next) (.slice (some ⟨a1, 0, none⟩) keys.length keys.length) (.slice (some ⟨a2, 0, none⟩) vals.length vals.length) (.slice (some ⟨a3, 0, none⟩) kids.length kids.length)
              simp only [set8] at hZ
              replace hS := Lib.hid hZ
              clear hZ
              simp only [List.cons_append, List.nil_append, List.set_cons_zero, List.set_cons_succ] at hS
              clear y0 y1 y2 y3 y4 y5 y6 y7 q0 q1 q2 q3 q4 q5 q6 q7
              refine hK.out _ _ (hS.out.top 2) (fun hcur2 => ?_)
              clear hK K
              replace hcur := hcur2
              (try dsimp only at hcur)
              clear hcur2
              (try simp only [Act.put, List.getElem_toArray, List.getElem_cons_zero, List.getElem_cons_succ, List.setIfInBounds_toArray, List.set_cons_zero, List.set_cons_succ])
              generalize World.setCell _ _ _ = X at hS hcur ⊢
              refine wpAnyH_ready (rs := [7]) (by decide +kernel) (by simp) ?_
              refine AllReadyH.cons rfl (fun K hK => ?_) AllReadyH.nil
              obtain ⟨y0, y1, y2, y3, y4, y5, y6, y7, q0, q1, q2, q3, q4, q5, q6, q7⟩ := nd_facts (hS.out.has 9 _ _ rfl).1
              go_simp
              have hZ := hS.out.store 9 rfl (.int .i64 level') (.string nlow') (.string high') (.bool last') (.int .i64 next') (.slice (some ⟨b1, 0, none⟩) keys'.length keys'.length) (.slice (some ⟨b2, 0, none⟩) vals'.length vals'.length) (.slice (some ⟨b3, 0, none⟩) kids'.length kids'.length)
              simp only [set8] at hZ
              replace hS := Lib.hid hZ
              clear hZ
              simp only [List.cons_append, List.nil_append, List.set_cons_zero, List.set_cons_succ] at hS
              clear y0 y1 y2 y3 y4 y5 y6 y7 q0 q1 q2 q3 q4 q5 q6 q7
              refine hK.out _ _ (hS.out.top 2) (fun hcur2 => ?_)
              clear hK K
              replace hcur := hcur2
              (try dsimp only at hcur)
              clear hcur2
              (try simp only [Act.put, List.getElem_toArray, List.getElem_cons_zero, List.getElem_cons_succ, List.setIfInBounds_toArray, List.set_cons_zero, List.set_cons_succ])
              generalize World.setCell _ _ _ = X at hS hcur ⊢
              refine wpAnyH_done (by decide +kernel) ?_ _
              clear hcur
              have HF := Lib.hid (And.intro (hS.out.pick4 2 9 rfl rfl rfl rfl (by omega) (by omega) (by omega)) (And.intro (liesD (d := ⟨level, nlow, high, last, next, keys, vals, kids⟩) H1.out (hS.out.has 3 _ _ rfl).1 (hS.out.has (3 + 1) _ _ rfl).1 (hS.out.has (3 + 2) _ _ rfl).1) (liesD (d := ⟨level', nlow', high', last', next', keys', vals', kids'⟩) H2.out (hS.out.has 6 _ _ rfl).1 (hS.out.has (6 + 1) _ _ rfl).1 (hS.out.has (6 + 2) _ _ rfl).1)))
              clear hS
              go_wp2_with fail
              go_meet
              exact ⟨g7, g8, a1, a2, a3, b1, b2, b3, rfl, rfl, HF⟩
            · go_simp
              replace hS := Lib.hid (hS.out.alloc (.cells #[.int .i64 0, .string ⟨#[]⟩, .string ⟨#[]⟩, .bool false, .int .i64 0, .slice none 0 0, .slice none 0 0, .slice none 0 0] 26))
              simp only [List.cons_append, List.nil_append, List.set_cons_zero, List.set_cons_succ] at hS
              refine hK.out _ _ (hS.out.top 2) (fun hcur2 => ?_)
              clear hK K
              replace hcur := hcur2
              (try dsimp only at hcur)
              clear hcur2
              (try simp only [Act.put, List.getElem_toArray, List.getElem_cons_zero, List.getElem_cons_succ, List.setIfInBounds_toArray, List.set_cons_zero, List.set_cons_succ])
              generalize X.heap.size = g8 at hS ⊢
              generalize X.alloc _ = X at hS hcur ⊢
              refine wpAnyH_ready (rs := [3]) (by decide +kernel) (by simp) ?_
              refine AllReadyH.cons rfl (fun K hK => ?_) AllReadyH.nil
              go_simp
              refine (cloneN_any ⟨level', nlow', high', last', next', keys', vals', kids'⟩ A' B' C' ca' cb' cc' _ (H2.out.up hS.out.below) (by have := HSpb.out; simp only []; omega) (by have := HSpb.out; simp only []; omega) (by have := HSpb.out; simp only []; omega)).mono ?_
              rintro e X ⟨b1, b2, b3, rfl, r1, r2, r3, n12, n13, n23, m1, m2, m3, hbn⟩
              replace hS := Lib.hid (hS.out.rows (d := ⟨level', nlow', high', last', next', keys', vals', kids'⟩) r1 r2 r3 n12 n13 n23 m1 m2 m3 hbn)
              clear r1 r2 r3 n12 n13 n23 m1 m2 m3 hbn
              simp only [rows3, List.cons_append, List.nil_append] at hS
              simp only [ndCells]
              go_wp2_with fail
              refine hK.out _ _ (hS.out.top 2) (fun hcur2 => ?_)
              clear hK K
              replace hcur := hcur2
              (try dsimp only at hcur)
              clear hcur2
              (try simp only [Act.put, List.getElem_toArray, List.getElem_cons_zero, List.getElem_cons_succ, List.setIfInBounds_toArray, List.set_cons_zero, List.set_cons_succ])
              refine wpAnyH_ready (rs := [6]) (by decide +kernel) (by simp) ?_
              refine AllReadyH.cons rfl (fun K hK => ?_) AllReadyH.nil
              obtain ⟨y0, y1, y2, y3, y4, y5, y6, y7, q0, q1, q2, q3, q4, q5, q6, q7⟩ := nd_facts (hS.out.has 2 _ _ rfl).1
              go_simp
              have hZ := hS.out.store 2 rfl (.int .i64 level) (.string nlow) (.string high) (.bool last) (.int .i64 next) (.slice (some ⟨a1, 0, none⟩) keys.length keys.length) (.slice (some ⟨a2, 0, none⟩) vals.length vals.length) (.slice (some ⟨a3, 0, none⟩) kids.length kids.length)
              simp only [set8] at hZ
              replace hS := Lib.hid hZ
              clear hZ
              simp only [List.cons_append, List.nil_append, List.set_cons_zero, List.set_cons_succ] at hS
              clear y0 y1 y2 y3 y4 y5 y6 y7 q0 q1 q2 q3 q4 q5 q6 q7
              refine hK.out _ _ (hS.out.top 2) (fun hcur2 => ?_)
              clear hK K
              replace hcur := hcur2
              (try dsimp only at hcur)
              clear hcur2
              (try simp only [Act.put, List.getElem_toArray, List.getElem_cons_zero, List.getElem_cons_succ, List.setIfInBounds_toArray, List.set_cons_zero, List.set_cons_succ])
              generalize World.setCell _ _ _ = X at hS hcur ⊢
              refine wpAnyH_ready (rs := [7]) (by decide +kernel) (by simp) ?_
              refine AllReadyH.cons rfl (fun K hK => ?_) AllReadyH.nil
              obtain ⟨y0, y1, y2, y3, y4, y5, y6, y7, q0, q1, q2, q3, q4, q5, q6, q7⟩ := nd_facts (hS.out.has 6 _ _ rfl).1
              go_simp
              have hZ := hS.out.store 6 rfl (.int .i64 level') (.string nlow') (.string high') (.bool last') (.int .i64 next') (.slice (some ⟨b1, 0, none⟩) keys'.length keys'.length) (.slice (some ⟨b2, 0, none⟩) vals'.length vals'.length) (.slice (some ⟨b3, 0, none⟩) kids'.length kids'.length)
              simp only [set8] at hZ
              replace hS := Lib.hid hZ
              clear hZ
              simp only [List.cons_append, List.nil_append, List.set_cons_zero, List.set_cons_succ] at hS
              clear y0 y1 y2 y3 y4 y5 y6 y7 q0 q1 q2 q3 q4 q5 q6 q7
              refine hK.out _ _ (hS.out.top 2) (fun hcur2 => ?_)
              clear hK K
              replace hcur := hcur2
              (try dsimp only at hcur)
              clear hcur2
              (try simp only [Act.put, List.getElem_toArray, List.getElem_cons_zero, List.getElem_cons_succ, List.setIfInBounds_toArray, List.set_cons_zero, List.set_cons_succ])
              generalize World.setCell _ _ _ = X at hS hcur ⊢
              refine wpAnyH_done (by decide +kernel) ?_ _
              clear hcur
              have HF := Lib.hid (And.intro (hS.out.pick4 2 6 rfl rfl rfl rfl (by omega) (by omega) (by omega)) (And.intro (liesD (d := ⟨level, nlow, high, last, next, keys, vals, kids⟩) H1.out (hS.out.has 3 _ _ rfl).1 (hS.out.has (3 + 1) _ _ rfl).1 (hS.out.has (3 + 2) _ _ rfl).1) (liesD (d := ⟨level', nlow', high', last', next', keys', vals', kids'⟩) H2.out (hS.out.has 7 _ _ rfl).1 (hS.out.has (7 + 1) _ _ rfl).1 (hS.out.has (7 + 2) _ _ rfl).1)))
              clear hS
              go_wp2_with fail
              go_meet
              exact ⟨g7, g8, a1, a2, a3, b1, b2, b3, rfl, rfl, HF⟩
          · go_simp
            replace hS := Lib.hid (hS.out.alloc (.cells #[.int .i64 0, .string ⟨#[]⟩, .string ⟨#[]⟩, .bool false, .int .i64 0, .slice none 0 0, .slice none 0 0, .slice none 0 0] 26))
            simp only [List.cons_append, List.nil_append, List.set_cons_zero, List.set_cons_succ] at hS
            refine hK.out _ _ (hS.out.top 2) (fun hcur2 => ?_)
            clear hK K
            replace hcur := hcur2
            (try dsimp only at hcur)
            clear hcur2
            (try simp only [Act.put, List.getElem_toArray, List.getElem_cons_zero, List.getElem_cons_succ, List.setIfInBounds_toArray, List.set_cons_zero, List.set_cons_succ])
            generalize X.heap.size = g8 at hS ⊢
            generalize X.alloc _ = X at hS hcur ⊢
            refine wpAnyH_ready (rs := [1]) (by decide +kernel) (by simp) ?_
            refine AllReadyH.cons rfl (fun K hK => ?_) AllReadyH.nil
            go_simp
            refine (cloneN_any ⟨level, nlow, high, last, next, keys, vals, kids⟩ A B C ca cb cc _ (H1.out.up hS.out.below) (by have := HSpa.out; simp only []; omega) (by have := HSpa.out; simp only []; omega) (by have := HSpa.out; simp only []; omega)).mono ?_
            rintro e X ⟨a1, a2, a3, rfl, r1, r2, r3, n12, n13, n23, m1, m2, m3, hbn⟩
            replace hS := Lib.hid (hS.out.rows (d := ⟨level, nlow, high, last, next, keys, vals, kids⟩) r1 r2 r3 n12 n13 n23 m1 m2 m3 hbn)
            clear r1 r2 r3 n12 n13 n23 m1 m2 m3 hbn
            simp only [rows3, List.cons_append, List.nil_append] at hS
            simp only [ndCells]
            go_wp2_with fail
            refine hK.out _ _ (hS.out.top 2) (fun hcur2 => ?_)
            clear hK K
            replace hcur := hcur2
            (try dsimp only at hcur)
            clear hcur2
            (try simp only [Act.put, List.getElem_toArray, List.getElem_cons_zero, List.getElem_cons_succ, List.setIfInBounds_toArray, List.set_cons_zero, List.set_cons_succ])
            refine wpAnyH_ready (rs := [3]) (by decide +kernel) (by simp) ?_
            refine AllReadyH.cons rfl (fun K hK => ?_) AllReadyH.nil
            go_simp
            refine (cloneN_any ⟨level', nlow', high', last', next', keys', vals', kids'⟩ A' B' C' ca' cb' cc' _ (H2.out.up hS.out.below) (by have := HSpb.out; simp only []; omega) (by have := HSpb.out; simp only []; omega) (by have := HSpb.out; simp only []; omega)).mono ?_
            rintro e X ⟨b1, b2, b3, rfl, r1, r2, r3, n12, n13, n23, m1, m2, m3, hbn⟩
            replace hS := Lib.hid (hS.out.rows (d := ⟨level', nlow', high', last', next', keys', vals', kids'⟩) r1 r2 r3 n12 n13 n23 m1 m2 m3 hbn)
            clear r1 r2 r3 n12 n13 n23 m1 m2 m3 hbn
            simp only [rows3, List.cons_append, List.nil_append] at hS
            simp only [ndCells]
            go_wp2_with fail
            refine hK.out _ _ (hS.out.top 2) (fun hcur2 => ?_)
            clear hK K
            replace hcur := hcur2
            (try dsimp only at hcur)
            clear hcur2
            (try simp only [Act.put, List.getElem_toArray, List.getElem_cons_zero, List.getElem_cons_succ, List.setIfInBounds_toArray, List.set_cons_zero, List.set_cons_succ])
            refine wpAnyH_ready (rs := [6]) (by decide +kernel) (by simp) ?_
            refine AllReadyH.cons rfl (fun K hK => ?_) AllReadyH.nil
            obtain ⟨y0, y1, y2, y3, y4, y5, y6, y7, q0, q1, q2, q3, q4, q5, q6, q7⟩ := nd_facts (hS.out.has 2 _ _ rfl).1
            go_simp
            have hZ := hS.out.store 2 rfl (.int .i64 level) (.string nlow) (.string high) (.bool last) (.int .i64 next) (.slice (some ⟨a1, 0, none⟩) keys.length keys.length) (.slice (some ⟨a2, 0, none⟩) vals.length vals.length) (.slice (some ⟨a3, 0, none⟩) kids.length kids.length)
            simp only [set8] at hZ
            replace hS := Lib.hid hZ
            clear hZ
            simp only [List.cons_append, List.nil_append, List.set_cons_zero, List.set_cons_succ] at hS
            clear y0 y1 y2 y3 y4 y5 y6 y7 q0 q1 q2 q3 q4 q5 q6 q7
            refine hK.out _ _ (hS.out.top 2) (fun hcur2 => ?_)
            clear hK K
            replace hcur := hcur2
            (try dsimp only at hcur)
            clear hcur2
            (try simp only [Act.put, List.getElem_toArray, List.getElem_cons_zero, List.getElem_cons_succ, List.setIfInBounds_toArray, List.set_cons_zero, List.set_cons_succ])
            generalize World.setCell _ _ _ = X at hS hcur ⊢
            refine wpAnyH_ready (rs := [7]) (by decide +kernel) (by simp) ?_
            refine AllReadyH.cons rfl (fun K hK => ?_) AllReadyH.nil
            obtain ⟨y0, y1, y2, y3, y4, y5, y6, y7, q0, q1, q2, q3, q4, q5, q6, q7⟩ := nd_facts (hS.out.has 3 _ _ rfl).1
            go_simp
            have hZ := hS.out.store 3 rfl (.int .i64 level') (.string nlow') (.string high') (.bool last') (.int .i64 next') (.slice (some ⟨b1, 0, none⟩) keys'.length keys'.length) (.slice (some ⟨b2, 0, none⟩) vals'.length vals'.length) (.slice (some ⟨b3, 0, none⟩) kids'.length kids'.length)
            simp only [set8] at hZ
            replace hS := Lib.hid hZ
            clear hZ
            simp only [List.cons_append, List.nil_append, List.set_cons_zero, List.set_cons_succ] at hS
            clear y0 y1 y2 y3 y4 y5 y6 y7 q0 q1 q2 q3 q4 q5 q6 q7
            refine hK.out _ _ (hS.out.top 2) (fun hcur2 => ?_)
            clear hK K
            replace hcur := hcur2
            (try dsimp only at hcur)
            clear hcur2
            (try simp only [Act.put, List.getElem_toArray, List.getElem_cons_zero, List.getElem_cons_succ, List.setIfInBounds_toArray, List.set_cons_zero, List.set_cons_succ])
            generalize World.setCell _ _ _ = X at hS hcur ⊢
            refine wpAnyH_done (by decide +kernel) ?_ _
            clear hcur
            have HF := Lib.hid (And.intro (hS.out.pick4 2 3 rfl rfl rfl rfl (by omega) (by omega) (by omega)) (And.intro (liesD (d := ⟨level, nlow, high, last, next, keys, vals, kids⟩) H1.out (hS.out.has 4 _ _ rfl).1 (hS.out.has (4 + 1) _ _ rfl).1 (hS.out.has (4 + 2) _ _ rfl).1) (liesD (d := ⟨level', nlow', high', last', next', keys', vals', kids'⟩) H2.out (hS.out.has 7 _ _ rfl).1 (hS.out.has (7 + 1) _ _ rfl).1 (hS.out.has (7 + 2) _ _ rfl).1)))
            clear hS
            go_wp2_with fail
            go_meet
            exact ⟨g7, g8, a1, a2, a3, b1, b2, b3, rfl, rfl, HF⟩
        · go_simp
          replace hS := Lib.hid (hS.out.alloc (.cells #[.int .i64 0, .string ⟨#[]⟩, .string ⟨#[]⟩, .bool false, .int .i64 0, .slice none 0 0, .slice none 0 0, .slice none 0 0] 26))
          simp only [List.cons_append, List.nil_append, List.set_cons_zero, List.set_cons_succ] at hS
          refine hK.out _ _ (hS.out.top 2) (fun hcur2 => ?_)
          clear hK K
          replace hcur := hcur2
          (try dsimp only at hcur)
          clear hcur2
          (try simp only [Act.put, List.getElem_toArray, List.getElem_cons_zero, List.getElem_cons_succ, List.setIfInBounds_toArray, List.set_cons_zero, List.set_cons_succ])
          generalize X.heap.size = g8 at hS ⊢
          generalize X.alloc _ = X at hS hcur ⊢
          refine wpAnyH_ready (rs := [1, 4]) (by decide +kernel) (by simp) ?_
          refine AllReadyH.cons rfl (fun K hK => ?_) (AllReadyH.cons rfl (fun K hK => ?_) AllReadyH.nil)
          · go_simp
            refine (cloneN_any ⟨level, nlow, high, last, next, keys, vals, kids⟩ A B C ca cb cc _ (H1.out.up hS.out.below) (by have := HSpa.out; simp only []; omega) (by have := HSpa.out; simp only []; omega) (by have := HSpa.out; simp only []; omega)).mono ?_
            rintro e X ⟨a1, a2, a3, rfl, r1, r2, r3, n12, n13, n23, m1, m2, m3, hbn⟩
            replace hS := Lib.hid (hS.out.rows (d := ⟨level, nlow, high, last, next, keys, vals, kids⟩) r1 r2 r3 n12 n13 n23 m1 m2 m3 hbn)
            clear r1 r2 r3 n12 n13 n23 m1 m2 m3 hbn
            simp only [rows3, List.cons_append, List.nil_append] at hS
            simp only [ndCells]
            go_wp2_with fail
            refine hK.out _ _ (hS.out.top 2) (fun hcur2 => ?_)
            clear hK K
            replace hcur := hcur2
            (try dsimp only at hcur)
            clear hcur2
            (try simp only [Act.put, List.getElem_toArray, List.getElem_cons_zero, List.getElem_cons_succ, List.setIfInBounds_toArray, List.set_cons_zero, List.set_cons_succ])
            refine wpAnyH_ready (rs := [3, 4]) (by decide +kernel) (by simp) ?_
            refine AllReadyH.cons rfl (fun K hK => ?_) (AllReadyH.cons rfl (fun K hK => ?_) AllReadyH.nil)
            · go_simp
              refine (cloneN_any ⟨level', nlow', high', last', next', keys', vals', kids'⟩ A' B' C' ca' cb' cc' _ (H2.out.up hS.out.below) (by have := HSpb.out; simp only []; omega) (by have := HSpb.out; simp only []; omega) (by have := HSpb.out; simp only []; omega)).mono ?_
              rintro e X ⟨b1, b2, b3, rfl, r1, r2, r3, n12, n13, n23, m1, m2, m3, hbn⟩
              replace hS := Lib.hid (hS.out.rows (d := ⟨level', nlow', high', last', next', keys', vals', kids'⟩) r1 r2 r3 n12 n13 n23 m1 m2 m3 hbn)
              clear r1 r2 r3 n12 n13 n23 m1 m2 m3 hbn
              simp only [rows3, List.cons_append, List.nil_append] at hS
              simp only [ndCells]
              go_wp2_with fail
              refine hK.out _ _ (hS.out.top 2) (fun hcur2 => ?_)
              clear hK K
              replace hcur := hcur2
              (try dsimp only at hcur)
              clear hcur2
              (try simp only [Act.put, List.getElem_toArray, List.getElem_cons_zero, List.getElem_cons_succ, List.setIfInBounds_toArray, List.set_cons_zero, List.set_cons_succ])
              refine wpAnyH_ready (rs := [4]) (by decide +kernel) (by simp) ?_
              refine AllReadyH.cons rfl (fun K hK => ?_) AllReadyH.nil
              go_simp
              replace hS := Lib.hid (hS.out.alloc (.cells #[.int .i64 0, .string ⟨#[]⟩, .string ⟨#[]⟩, .bool false, .int .i64 0, .slice none 0 0, .slice none 0 0, .slice none 0 0] 26))
              simp only [List.cons_append, List.nil_append, List.set_cons_zero, List.set_cons_succ] at hS
              refine hK.out _ _ (hS.out.top 2) (fun hcur2 => ?_)
              clear hK K
              replace hcur := hcur2
              (try dsimp only at hcur)
              clear hcur2
              (try simp only [Act.put, List.getElem_toArray, List.getElem_cons_zero, List.getElem_cons_succ, List.setIfInBounds_toArray, List.set_cons_zero, List.set_cons_succ])
              generalize X.heap.size = g7 at hS ⊢
              generalize X.alloc _ = X at hS hcur ⊢
              refine wpAnyH_ready (rs := [6]) (by decide +kernel) (by simp) ?_
              refine AllReadyH.cons rfl (fun K hK => ?_) AllReadyH.nil
              obtain ⟨y0, y1, y2, y3, y4, y5, y6, y7, q0, q1, q2, q3, q4, q5, q6, q7⟩ := nd_facts (hS.out.has 9 _ _ rfl).1
              go_simp
              have hZ := hS.out.store 9 rfl (.int .i64 level) (.string nlow) (.string high) (.bool last) (.int .i64 next) (.slice (some ⟨a1, 0, none⟩) keys.length keys.length) (.slice (some ⟨a2, 0, none⟩) vals.length vals.length) (.slice (some ⟨a3, 0, none⟩) kids.length kids.length)
              simp only [set8] at hZ
              replace hS := Lib.hid hZ
              clear hZ
              simp only [List.cons_append, List.nil_append, List.set_cons_zero, List.set_cons_succ] at hS
              clear y0 y1 y2 y3 y4 y5 y6 y7 q0 q1 q2 q3 q4 q5 q6 q7
              refine hK.out _ _ (hS.out.top 2) (fun hcur2 => ?_)
              clear hK K
              replace hcur := hcur2
              (try dsimp only at hcur)
              clear hcur2
              (try simp only [Act.put, List.getElem_toArray, List.getElem_cons_zero, List.getElem_cons_succ, List.setIfInBounds_toArray, List.set_cons_zero, List.set_cons_succ])
              generalize World.setCell _ _ _ = X at hS hcur ⊢
              refine wpAnyH_ready (rs := [7]) (by decide +kernel) (by simp) ?_
              refine AllReadyH.cons rfl (fun K hK => ?_) AllReadyH.nil
              obtain ⟨y0, y1, y2, y3, y4, y5, y6, y7, q0, q1, q2, q3, q4, q5, q6, q7⟩ := nd_facts (hS.out.has 2 _ _ rfl).1
              go_simp
              have hZ := hS.out.store 2 rfl (.int .i64 level') (.string nlow') (.string high') (.bool last') (.int .i64 next') (.slice (some ⟨b1, 0, none⟩) keys'.length keys'.length) (.slice (some ⟨b2, 0, none⟩) vals'.length vals'.length) (.slice (some ⟨b3, 0, none⟩) kids'.length kids'.length)
              simp only [set8] at hZ
              replace hS := Lib.hid hZ
              clear hZ
              simp only [List.cons_append, List.nil_append, List.set_cons_zero, List.set_cons_succ] at hS
              clear y0 y1 y2 y3 y4 y5 y6 y7 q0 q1 q2 q3 q4 q5 q6 q7
              refine hK.out _ _ (hS.out.top 2) (fun hcur2 => ?_)
              clear hK K
              replace hcur := hcur2
              (try dsimp only at hcur)
              clear hcur2
              (try simp only [Act.put, List.getElem_toArray, List.getElem_cons_zero, List.getElem_cons_succ, List.setIfInBounds_toArray, List.set_cons_zero, List.set_cons_succ])
              generalize World.setCell _ _ _ = X at hS hcur ⊢
              refine wpAnyH_done (by decide +kernel) ?_ _
              clear hcur
              have HF := Lib.hid (And.intro (hS.out.pick4 9 2 rfl rfl rfl rfl (by omega) (by omega) (by omega)) (And.intro (liesD (d := ⟨level, nlow, high, last, next, keys, vals, kids⟩) H1.out (hS.out.has 3 _ _ rfl).1 (hS.out.has (3 + 1) _ _ rfl).1 (hS.out.has (3 + 2) _ _ rfl).1) (liesD (d := ⟨level', nlow', high', last', next', keys', vals', kids'⟩) H2.out (hS.out.has 6 _ _ rfl).1 (hS.out.has (6 + 1) _ _ rfl).1 (hS.out.has (6 + 2) _ _ rfl).1)))
              clear hS
              go_wp2_with fail
              go_meet
              exact ⟨g7, g8, a1, a2, a3, b1, b2, b3, rfl, rfl, HF⟩
            · go_simp
              replace hS := Lib.hid (hS.out.alloc (.cells #[.int .i64 0, .string ⟨#[]⟩, .string ⟨#[]⟩, .bool false, .int .i64 0, .slice none 0 0, .slice none 0 0, .slice none 0 0] 26))
              simp only [List.cons_append, List.nil_append, List.set_cons_zero, List.set_cons_succ] at hS
              refine hK.out _ _ (hS.out.top 2) (fun hcur2 => ?_)
              clear hK K
              replace hcur := hcur2
              (try dsimp only at hcur)
              clear hcur2
              (try simp only [Act.put, List.getElem_toArray, List.getElem_cons_zero, List.getElem_cons_succ, List.setIfInBounds_toArray, List.set_cons_zero, List.set_cons_succ])
              generalize X.heap.size = g7 at hS ⊢
              generalize X.alloc _ = X at hS hcur ⊢
              refine wpAnyH_ready (rs := [3]) (by decide +kernel) (by simp) ?_
              refine AllReadyH.cons rfl (fun K hK => ?_) AllReadyH.nil
              go_simp
              refine (cloneN_any ⟨level', nlow', high', last', next', keys', vals', kids'⟩ A' B' C' ca' cb' cc' _ (H2.out.up hS.out.below) (by have := HSpb.out; simp only []; omega) (by have := HSpb.out; simp only []; omega) (by have := HSpb.out; simp only []; omega)).mono ?_
              rintro e X ⟨b1, b2, b3, rfl, r1, r2, r3, n12, n13, n23, m1, m2, m3, hbn⟩
              replace hS := Lib.hid (hS.out.rows (d := ⟨level', nlow', high', last', next', keys', vals', kids'⟩) r1 r2 r3 n12 n13 n23 m1 m2 m3 hbn)
              clear r1 r2 r3 n12 n13 n23 m1 m2 m3 hbn
              simp only [rows3, List.cons_append, List.nil_append] at hS
              simp only [ndCells]
              go_wp2_with fail
              refine hK.out _ _ (hS.out.top 2) (fun hcur2 => ?_)
              clear hK K
              replace hcur := hcur2
              (try dsimp only at hcur)
              clear hcur2
              (try simp only [Act.put, List.getElem_toArray, List.getElem_cons_zero, List.getElem_cons_succ, List.setIfInBounds_toArray, List.set_cons_zero, List.set_cons_succ])
              refine wpAnyH_ready (rs := [6]) (by decide +kernel) (by simp) ?_
              refine AllReadyH.cons rfl (fun K hK => ?_) AllReadyH.nil
              obtain ⟨y0, y1, y2, y3, y4, y5, y6, y7, q0, q1, q2, q3, q4, q5, q6, q7⟩ := nd_facts (hS.out.has 6 _ _ rfl).1
              go_simp
              have hZ := hS.out.store 6 rfl (.int .i64 level) (.string nlow) (.string high) (.bool last) (.int .i64 next) (.slice (some ⟨a1, 0, none⟩) keys.length keys.length) (.slice (some ⟨a2, 0, none⟩) vals.length vals.length) (.slice (some ⟨a3, 0, none⟩) kids.length kids.length)
              simp only [set8] at hZ
              replace hS := Lib.hid hZ
              clear hZ
              simp only [List.cons_append, List.nil_append, List.set_cons_zero, List.set_cons_succ] at hS
              clear y0 y1 y2 y3 y4 y5 y6 y7 q0 q1 q2 q3 q4 q5 q6 q7
              refine hK.out _ _ (hS.out.top 2) (fun hcur2 => ?_)
              clear hK K
              replace hcur := hcur2
              (try dsimp only at hcur)
              clear hcur2
              (try simp only [Act.put, List.getElem_toArray, List.getElem_cons_zero, List.getElem_cons_succ, List.setIfInBounds_toArray, List.set_cons_zero, List.set_cons_succ])
              generalize World.setCell _ _ _ = X at hS hcur ⊢
              refine wpAnyH_ready (rs := [7]) (by decide +kernel) (by simp) ?_
              refine AllReadyH.cons rfl (fun K hK => ?_) AllReadyH.nil
              obtain ⟨y0, y1, y2, y3, y4, y5, y6, y7, q0, q1, q2, q3, q4, q5, q6, q7⟩ := nd_facts (hS.out.has 2 _ _ rfl).1
              go_simp
              have hZ := hS.out.store 2 rfl (.int .i64 level') (.string nlow') (.string high') (.bool last') (.int .i64 next') (.slice (some ⟨b1, 0, none⟩) keys'.length keys'.length) (.slice (some ⟨b2, 0, none⟩) vals'.length vals'.length) (.slice (some ⟨b3, 0, none⟩) kids'.length kids'.length)
              simp only [set8] at hZ
              replace hS := Lib.hid hZ
              clear hZ
              simp only [List.cons_append, List.nil_append, List.set_cons_zero, List.set_cons_succ] at hS
              clear y0 y1 y2 y3 y4 y5 y6 y7 q0 q1 q2 q3 q4 q5 q6 q7
              refine hK.out _ _ (hS.out.top 2) (fun hcur2 => ?_)
              clear hK K
              replace hcur := hcur2
              (try dsimp only at hcur)
              clear hcur2
              (try simp only [Act.put, List.getElem_toArray, List.getElem_cons_zero, List.getElem_cons_succ, List.setIfInBounds_toArray, List.set_cons_zero, List.set_cons_succ])
              generalize World.setCell _ _ _ = X at hS hcur ⊢
              refine wpAnyH_done (by decide +kernel) ?_ _
              clear hcur
              have HF := Lib.hid (And.intro (hS.out.pick4 6 2 rfl rfl rfl rfl (by omega) (by omega) (by omega)) (And.intro (liesD (d := ⟨level, nlow, high, last, next, keys, vals, kids⟩) H1.out (hS.out.has 3 _ _ rfl).1 (hS.out.has (3 + 1) _ _ rfl).1 (hS.out.has (3 + 2) _ _ rfl).1) (liesD (d := ⟨level', nlow', high', last', next', keys', vals', kids'⟩) H2.out (hS.out.has 7 _ _ rfl).1 (hS.out.has (7 + 1) _ _ rfl).1 (hS.out.has (7 + 2) _ _ rfl).1)))
              clear hS
              go_wp2_with fail
              go_meet
              exact ⟨g7, g8, a1, a2, a3, b1, b2, b3, rfl, rfl, HF⟩
          · go_simp
            replace hS := Lib.hid (hS.out.alloc (.cells #[.int .i64 0, .string ⟨#[]⟩, .string ⟨#[]⟩, .bool false, .int .i64 0, .slice none 0 0, .slice none 0 0, .slice none 0 0] 26))
            simp only [List.cons_append, List.nil_append, List.set_cons_zero, List.set_cons_succ] at hS
            refine hK.out _ _ (hS.out.top 2) (fun hcur2 => ?_)
            clear hK K
            replace hcur := hcur2
            (try dsimp only at hcur)
            clear hcur2
            (try simp only [Act.put, List.getElem_toArray, List.getElem_cons_zero, List.getElem_cons_succ, List.setIfInBounds_toArray, List.set_cons_zero, List.set_cons_succ])
            generalize X.heap.size = g7 at hS ⊢
            generalize X.alloc _ = X at hS hcur ⊢
            refine wpAnyH_ready (rs := [1]) (by decide +kernel) (by simp) ?_
            refine AllReadyH.cons rfl (fun K hK => ?_) AllReadyH.nil
            go_simp
            refine (cloneN_any ⟨level, nlow, high, last, next, keys, vals, kids⟩ A B C ca cb cc _ (H1.out.up hS.out.below) (by have := HSpa.out; simp only []; omega) (by have := HSpa.out; simp only []; omega) (by have := HSpa.out; simp only []; omega)).mono ?_
            rintro e X ⟨a1, a2, a3, rfl, r1, r2, r3, n12, n13, n23, m1, m2, m3, hbn⟩
            replace hS := Lib.hid (hS.out.rows (d := ⟨level, nlow, high, last, next, keys, vals, kids⟩) r1 r2 r3 n12 n13 n23 m1 m2 m3 hbn)
            clear r1 r2 r3 n12 n13 n23 m1 m2 m3 hbn
            simp only [rows3, List.cons_append, List.nil_append] at hS
            simp only [ndCells]
            go_wp2_with fail
            refine hK.out _ _ (hS.out.top 2) (fun hcur2 => ?_)
            clear hK K
            replace hcur := hcur2
            (try dsimp only at hcur)
            clear hcur2
            (try simp only [Act.put, List.getElem_toArray, List.getElem_cons_zero, List.getElem_cons_succ, List.setIfInBounds_toArray, List.set_cons_zero, List.set_cons_succ])
            refine wpAnyH_ready (rs := [3]) (by decide +kernel) (by simp) ?_
            refine AllReadyH.cons rfl (fun K hK => ?_) AllReadyH.nil
            go_simp
            refine (cloneN_any ⟨level', nlow', high', last', next', keys', vals', kids'⟩ A' B' C' ca' cb' cc' _ (H2.out.up hS.out.below) (by have := HSpb.out; simp only []; omega) (by have := HSpb.out; simp only []; omega) (by have := HSpb.out; simp only []; omega)).mono ?_
            rintro e X ⟨b1, b2, b3, rfl, r1, r2, r3, n12, n13, n23, m1, m2, m3, hbn⟩
            replace hS := Lib.hid (hS.out.rows (d := ⟨level', nlow', high', last', next', keys', vals', kids'⟩) r1 r2 r3 n12 n13 n23 m1 m2 m3 hbn)
            clear r1 r2 r3 n12 n13 n23 m1 m2 m3 hbn
            simp only [rows3, List.cons_append, List.nil_append] at hS
            simp only [ndCells]
            go_wp2_with fail
            refine hK.out _ _ (hS.out.top 2) (fun hcur2 => ?_)
            clear hK K
            replace hcur := hcur2
            (try dsimp only at hcur)
            clear hcur2
            (try simp only [Act.put, List.getElem_toArray, List.getElem_cons_zero, List.getElem_cons_succ, List.setIfInBounds_toArray, List.set_cons_zero, List.set_cons_succ])
            refine wpAnyH_ready (rs := [6]) (by decide +kernel) (by simp) ?_
            refine AllReadyH.cons rfl (fun K hK => ?_) AllReadyH.nil
            obtain ⟨y0, y1, y2, y3, y4, y5, y6, y7, q0, q1, q2, q3, q4, q5, q6, q7⟩ := nd_facts (hS.out.has 3 _ _ rfl).1
            go_simp
            have hZ := hS.out.store 3 rfl (.int .i64 level) (.string nlow) (.string high) (.bool last) (.int .i64 next) (.slice (some ⟨a1, 0, none⟩) keys.length keys.length) (.slice (some ⟨a2, 0, none⟩) vals.length vals.length) (.slice (some ⟨a3, 0, none⟩) kids.length kids.length)
            simp only [set8] at hZ
            replace hS := Lib.hid hZ
            clear hZ
            simp only [List.cons_append, List.nil_append, List.set_cons_zero, List.set_cons_succ] at hS
            clear y0 y1 y2 y3 y4 y5 y6 y7 q0 q1 q2 q3 q4 q5 q6 q7
            refine hK.out _ _ (hS.out.top 2) (fun hcur2 => ?_)
            clear hK K
            replace hcur := hcur2
            (try dsimp only at hcur)
            clear hcur2
            (try simp only [Act.put, List.getElem_toArray, List.getElem_cons_zero, List.getElem_cons_succ, List.setIfInBounds_toArray, List.set_cons_zero, List.set_cons_succ])
            generalize World.setCell _ _ _ = X at hS hcur ⊢
            refine wpAnyH_ready (rs := [7]) (by decide +kernel) (by simp) ?_
            refine AllReadyH.cons rfl (fun K hK => ?_) AllReadyH.nil
            obtain ⟨y0, y1, y2, y3, y4, y5, y6, y7, q0, q1, q2, q3, q4, q5, q6, q7⟩ := nd_facts (hS.out.has 2 _ _ rfl).1
            go_simp
            have hZ := hS.out.store 2 rfl (.int .i64 level') (.string nlow') (.string high') (.bool last') (.int .i64 next') (.slice (some ⟨b1, 0, none⟩) keys'.length keys'.length) (.slice (some ⟨b2, 0, none⟩) vals'.length vals'.length) (.slice (some ⟨b3, 0, none⟩) kids'.length kids'.length)
            simp only [set8] at hZ
            replace hS := Lib.hid hZ
            clear hZ
            simp only [List.cons_append, List.nil_append, List.set_cons_zero, List.set_cons_succ] at hS
            clear y0 y1 y2 y3 y4 y5 y6 y7 q0 q1 q2 q3 q4 q5 q6 q7
            refine hK.out _ _ (hS.out.top 2) (fun hcur2 => ?_)
            clear hK K
            replace hcur := hcur2
            (try dsimp only at hcur)
            clear hcur2
            (try simp only [Act.put, List.getElem_toArray, List.getElem_cons_zero, List.getElem_cons_succ, List.setIfInBounds_toArray, List.set_cons_zero, List.set_cons_succ])
            generalize World.setCell _ _ _ = X at hS hcur ⊢
            refine wpAnyH_done (by decide +kernel) ?_ _
            clear hcur
            have HF := Lib.hid (And.intro (hS.out.pick4 3 2 rfl rfl rfl rfl (by omega) (by omega) (by omega)) (And.intro (liesD (d := ⟨level, nlow, high, last, next, keys, vals, kids⟩) H1.out (hS.out.has 4 _ _ rfl).1 (hS.out.has (4 + 1) _ _ rfl).1 (hS.out.has (4 + 2) _ _ rfl).1) (liesD (d := ⟨level', nlow', high', last', next', keys', vals', kids'⟩) H2.out (hS.out.has 7 _ _ rfl).1 (hS.out.has (7 + 1) _ _ rfl).1 (hS.out.has (7 + 2) _ _ rfl).1)))
            clear hS
            go_wp2_with fail
            go_meet
            exact ⟨g7, g8, a1, a2, a3, b1, b2, b3, rfl, rfl, HF⟩
      case rest =>
        obtain ⟨g7, g8, a1, a2, a3, b1, b2, b3, rfl, rfl, HF⟩ := hcut
        clear hS
        have hS := Lib.hid HF.out.1
        have HL := Lib.hid (((LL.start _).add HF.out.2.1).add HF.out.2.2)
        simp only [List.nil_append, List.cons_append] at HL
        clear HF
        obtain ⟨x0, x1, x2, x3, x4, x5, x6, x7, f0, f1, f2, f3, f4, f5, f6, f7⟩ := nd_facts (hS.out.has 0 _ _ rfl).1
        obtain ⟨y0, y1, y2, y3, y4, y5, y6, y7, q0, q1, q2, q3, q4, q5, q6, q7⟩ := nd_facts (hS.out.has 1 _ _ rfl).1
        go_wp2_with fail
        refine (HMe.out _ (H1.out.up hS.out.below) (H2.out.up hS.out.below)).mono ?_
        rintro e X1 ⟨A1, B1, C1, ca1, cb1, cc1, rfl, hl, hb⟩
        clear x0 x1 x2 x3 x4 x5 x6 x7 f0 f1 f2 f3 f4 f5 f6 f7
        clear y0 y1 y2 y3 y4 y5 y6 y7 q0 q1 q2 q3 q4 q5 q6 q7
        replace hS := Lib.hid ((hS.out.call hb).alloc (.cells (ndCells ⟨level1, nlow1, high1, last1, next1, keys1, vals1, kids1⟩ A1 B1 C1 ca1 cb1 cc1) 26))
        replace HL := Lib.hid (((HL.out.up hb).add hl).up (below_alloc X1 (.cells (ndCells ⟨level1, nlow1, high1, last1, next1, keys1, vals1, kids1⟩ A1 B1 C1 ca1 cb1 cc1) 26)))
        clear hl hb
        simp only [List.cons_append, List.nil_append, ndCells] at hS HL ⊢
        go_upto_region 5 with fail
        generalize X1.heap.size = g1 at hS ⊢
        generalize X1.alloc _ = Y1 at hS HL ⊢
        obtain ⟨x0, x1, x2, x3, x4, x5, x6, x7, f0, f1, f2, f3, f4, f5, f6, f7⟩ := nd_facts (hS.out.has 2 _ _ rfl).1
        obtain ⟨y0, y1, y2, y3, y4, y5, y6, y7, q0, q1, q2, q3, q4, q5, q6, q7⟩ := nd_facts (hS.out.has 3 _ _ rfl).1
        go_wp2_with fail
        refine (HMeR.out _ _ _ _ _ _ _ _ _ _ _ _ _ (HL.out 0 _ _ _ _ _ _ _ rfl) (HL.out 1 _ _ _ _ _ _ _ rfl)).mono ?_
        rintro e X2 ⟨A2, B2, C2, ca2, cb2, cc2, rfl, hl, hb⟩
        clear x0 x1 x2 x3 x4 x5 x6 x7 f0 f1 f2 f3 f4 f5 f6 f7
        clear y0 y1 y2 y3 y4 y5 y6 y7 q0 q1 q2 q3 q4 q5 q6 q7
        replace hS := Lib.hid ((hS.out.call hb).alloc (.cells (ndCells ⟨level1, nlow1, high1, last1, next1, keys1, vals1, kids1⟩ A2 B2 C2 ca2 cb2 cc2) 26))
        replace HL := Lib.hid (((HL.out.up hb).add hl).up (below_alloc X2 (.cells (ndCells ⟨level1, nlow1, high1, last1, next1, keys1, vals1, kids1⟩ A2 B2 C2 ca2 cb2 cc2) 26)))
        clear hl hb
        simp only [List.cons_append, List.nil_append, ndCells] at hS HL ⊢
        go_upto_region 6 with fail
        generalize X2.heap.size = g2 at hS ⊢
        generalize X2.alloc _ = Y2 at hS HL ⊢
        obtain ⟨x0, x1, x2, x3, x4, x5, x6, x7, f0, f1, f2, f3, f4, f5, f6, f7⟩ := nd_facts (hS.out.has 0 _ _ rfl).1
        obtain ⟨y0, y1, y2, y3, y4, y5, y6, y7, q0, q1, q2, q3, q4, q5, q6, q7⟩ := nd_facts (hS.out.has 1 _ _ rfl).1
        go_wp2_with fail
        refine (HEv.out _ (H1.out.up hS.out.below) (H2.out.up hS.out.below)).mono ?_
        rintro e X3 ⟨A3, B3, C3, A4, B4, C4, ca3, cb3, cc3, ca4, cb4, cc4, rfl, hl, hl2, hb⟩
        clear x0 x1 x2 x3 x4 x5 x6 x7 f0 f1 f2 f3 f4 f5 f6 f7
        clear y0 y1 y2 y3 y4 y5 y6 y7 q0 q1 q2 q3 q4 q5 q6 q7
        have hba := below_alloc X3 (.cells (ndCells ⟨level2, nlow2, high2, last2, next2, keys2, vals2, kids2⟩ A3 B3 C3 ca3 cb3 cc3) 26)
        have hbb := below_alloc (X3.alloc (.cells (ndCells ⟨level2, nlow2, high2, last2, next2, keys2, vals2, kids2⟩ A3 B3 C3 ca3 cb3 cc3) 26)) (.cells (ndCells ⟨level3, nlow3, high3, last3, next3, keys3, vals3, kids3⟩ A4 B4 C4 ca4 cb4 cc4) 26)
        replace hS := Lib.hid (((hS.out.call hb).alloc (.cells (ndCells ⟨level2, nlow2, high2, last2, next2, keys2, vals2, kids2⟩ A3 B3 C3 ca3 cb3 cc3) 26)).alloc (.cells (ndCells ⟨level3, nlow3, high3, last3, next3, keys3, vals3, kids3⟩ A4 B4 C4 ca4 cb4 cc4) 26))
        replace HL := Lib.hid (((((HL.out.up hb).add hl).add hl2).up hba).up hbb)
        clear hl hl2 hb hba hbb
        simp only [List.cons_append, List.nil_append, ndCells, alloc_size] at hS HL ⊢
        go_upto_region 7 with fail
        generalize (X3.alloc _).alloc _ = Y3 at hS HL ⊢
        generalize X3.heap.size = g3 at hS ⊢
        obtain ⟨x0, x1, x2, x3, x4, x5, x6, x7, f0, f1, f2, f3, f4, f5, f6, f7⟩ := nd_facts (hS.out.has 2 _ _ rfl).1
        obtain ⟨y0, y1, y2, y3, y4, y5, y6, y7, q0, q1, q2, q3, q4, q5, q6, q7⟩ := nd_facts (hS.out.has 3 _ _ rfl).1
        go_wp2_with fail
        refine (HEvR.out _ _ _ _ _ _ _ _ _ _ _ _ _ (HL.out 0 _ _ _ _ _ _ _ rfl) (HL.out 1 _ _ _ _ _ _ _ rfl)).mono ?_
        rintro e X5 ⟨A5, B5, C5, A6, B6, C6, ca5, cb5, cc5, ca6, cb6, cc6, rfl, hl, hl2, hb⟩
        clear x0 x1 x2 x3 x4 x5 x6 x7 f0 f1 f2 f3 f4 f5 f6 f7
        clear y0 y1 y2 y3 y4 y5 y6 y7 q0 q1 q2 q3 q4 q5 q6 q7
        have hba := below_alloc X5 (.cells (ndCells ⟨level2, nlow2, high2, last2, next2, keys2, vals2, kids2⟩ A5 B5 C5 ca5 cb5 cc5) 26)
        have hbb := below_alloc (X5.alloc (.cells (ndCells ⟨level2, nlow2, high2, last2, next2, keys2, vals2, kids2⟩ A5 B5 C5 ca5 cb5 cc5) 26)) (.cells (ndCells ⟨level3, nlow3, high3, last3, next3, keys3, vals3, kids3⟩ A6 B6 C6 ca6 cb6 cc6) 26)
        replace hS := Lib.hid (((hS.out.call hb).alloc (.cells (ndCells ⟨level2, nlow2, high2, last2, next2, keys2, vals2, kids2⟩ A5 B5 C5 ca5 cb5 cc5) 26)).alloc (.cells (ndCells ⟨level3, nlow3, high3, last3, next3, keys3, vals3, kids3⟩ A6 B6 C6 ca6 cb6 cc6) 26))
        replace HL := Lib.hid (((((HL.out.up hb).add hl).add hl2).up hba).up hbb)
        clear hl hl2 hb hba hbb
        simp only [List.cons_append, List.nil_append, ndCells, alloc_size] at hS HL ⊢
        go_upto_region 8 with fail
        generalize (X5.alloc _).alloc _ = Y5 at hS HL ⊢
        generalize X5.heap.size = g5 at hS ⊢
        clear HMe HMeR HEv HEvR
        have q1 : (ok1 != ok1) = false := by simp
        have q2 : (ok2 != ok2) = false := by simp
        obtain ⟨x0, x1, x2, x3, x4, x5, x6, x7, f0, f1, f2, f3, f4, f5, f6, f7⟩ := nd_facts (hS.out.has 0 _ _ rfl).1
        obtain ⟨y0, y1, y2, y3, y4, y5, y6, y7, q0, q1, q2, q3, q4, q5, q6, q7⟩ := nd_facts (hS.out.has 2 _ _ rfl).1
        go_wp2_with fail
        refine (HSM.out ⟨level, nlow, high, last, next, keys, vals, kids⟩ A B C (some ⟨a1, 0, none⟩) (some ⟨a2, 0, none⟩) (some ⟨a3, 0, none⟩) ca cb cc keys.length vals.length kids.length _ (H1.out.up hS.out.below) (HL.out 0 _ _ _ _ _ _ _ rfl)).mono ?_
        rintro e wn ⟨rfl, hbn⟩
        clear x0 x1 x2 x3 x4 x5 x6 x7 f0 f1 f2 f3 f4 f5 f6 f7
        clear y0 y1 y2 y3 y4 y5 y6 y7 q0 q1 q2 q3 q4 q5 q6 q7
        replace hS := Lib.hid (hS.out.call hbn)
        replace HL := Lib.hid (HL.out.up hbn)
        clear hbn
        obtain ⟨x0, x1, x2, x3, x4, x5, x6, x7, f0, f1, f2, f3, f4, f5, f6, f7⟩ := nd_facts (hS.out.has 1 _ _ rfl).1
        obtain ⟨y0, y1, y2, y3, y4, y5, y6, y7, q0, q1, q2, q3, q4, q5, q6, q7⟩ := nd_facts (hS.out.has 3 _ _ rfl).1
        go_wp2_with fail
        refine (HSM.out ⟨level', nlow', high', last', next', keys', vals', kids'⟩ A' B' C' (some ⟨b1, 0, none⟩) (some ⟨b2, 0, none⟩) (some ⟨b3, 0, none⟩) ca' cb' cc' keys'.length vals'.length kids'.length _ (H2.out.up hS.out.below) (HL.out 1 _ _ _ _ _ _ _ rfl)).mono ?_
        rintro e wn ⟨rfl, hbn⟩
        clear x0 x1 x2 x3 x4 x5 x6 x7 f0 f1 f2 f3 f4 f5 f6 f7
        clear y0 y1 y2 y3 y4 y5 y6 y7 q0 q1 q2 q3 q4 q5 q6 q7
        replace hS := Lib.hid (hS.out.call hbn)
        replace HL := Lib.hid (HL.out.up hbn)
        clear hbn
        obtain ⟨x0, x1, x2, x3, x4, x5, x6, x7, f0, f1, f2, f3, f4, f5, f6, f7⟩ := nd_facts (hS.out.has 4 _ _ rfl).1
        obtain ⟨y0, y1, y2, y3, y4, y5, y6, y7, q0, q1, q2, q3, q4, q5, q6, q7⟩ := nd_facts (hS.out.has 5 _ _ rfl).1
        go_wp2_with fail
        refine (HSM.out ⟨level1, nlow1, high1, last1, next1, keys1, vals1, kids1⟩ A1 B1 C1 A2 B2 C2 ca1 cb1 cc1 ca2 cb2 cc2 _ (HL.out 2 _ _ _ _ _ _ _ rfl) (HL.out 3 _ _ _ _ _ _ _ rfl)).mono ?_
        rintro e wn ⟨rfl, hbn⟩
        clear x0 x1 x2 x3 x4 x5 x6 x7 f0 f1 f2 f3 f4 f5 f6 f7
        clear y0 y1 y2 y3 y4 y5 y6 y7 q0 q1 q2 q3 q4 q5 q6 q7
        replace hS := Lib.hid (hS.out.call hbn)
        replace HL := Lib.hid (HL.out.up hbn)
        clear hbn
        obtain ⟨x0, x1, x2, x3, x4, x5, x6, x7, f0, f1, f2, f3, f4, f5, f6, f7⟩ := nd_facts (hS.out.has 6 _ _ rfl).1
        obtain ⟨y0, y1, y2, y3, y4, y5, y6, y7, q0, q1, q2, q3, q4, q5, q6, q7⟩ := nd_facts (hS.out.has 8 _ _ rfl).1
        go_wp2_with fail
        refine (HSM.out ⟨level2, nlow2, high2, last2, next2, keys2, vals2, kids2⟩ A3 B3 C3 A5 B5 C5 ca3 cb3 cc3 ca5 cb5 cc5 _ (HL.out 4 _ _ _ _ _ _ _ rfl) (HL.out 6 _ _ _ _ _ _ _ rfl)).mono ?_
        rintro e wn ⟨rfl, hbn⟩
        clear x0 x1 x2 x3 x4 x5 x6 x7 f0 f1 f2 f3 f4 f5 f6 f7
        clear y0 y1 y2 y3 y4 y5 y6 y7 q0 q1 q2 q3 q4 q5 q6 q7
        replace hS := Lib.hid (hS.out.call hbn)
        replace HL := Lib.hid (HL.out.up hbn)
        clear hbn
        obtain ⟨x0, x1, x2, x3, x4, x5, x6, x7, f0, f1, f2, f3, f4, f5, f6, f7⟩ := nd_facts (hS.out.has 7 _ _ rfl).1
        obtain ⟨y0, y1, y2, y3, y4, y5, y6, y7, q0, q1, q2, q3, q4, q5, q6, q7⟩ := nd_facts (hS.out.has 9 _ _ rfl).1
        go_wp2_with fail
        refine (HSM.out ⟨level3, nlow3, high3, last3, next3, keys3, vals3, kids3⟩ A4 B4 C4 A6 B6 C6 ca4 cb4 cc4 ca6 cb6 cc6 _ (HL.out 5 _ _ _ _ _ _ _ rfl) (HL.out 7 _ _ _ _ _ _ _ rfl)).mono ?_
        rintro e wn ⟨rfl, hbn⟩
        clear x0 x1 x2 x3 x4 x5 x6 x7 f0 f1 f2 f3 f4 f5 f6 f7
        clear y0 y1 y2 y3 y4 y5 y6 y7 q0 q1 q2 q3 q4 q5 q6 q7
        replace hS := Lib.hid (hS.out.call hbn)
        replace HL := Lib.hid (HL.out.up hbn)
        clear hbn
        go_wp2_with fail
        refine (lives13_any _).mono ?_
        rintro e w2 ⟨rfl, hb2⟩
        go_wp2_with fail
        go_ret
        exact ⟨rfl, (hS.out.call hb2).below⟩
theorem halvejoins_row (a : Nd) (A B C : Option Addr) (ca cb cc : Nat) (b : Nd) (A' B' C' : Option Addr) (ca' cb' cc' : Nat) (fan : Int) (w : World) (h : Lies w a A B C ca cb cc) (_ : Bnd a) (k : Lies w b A' B' C' ca' cb' cc') (_ : Bnd b) (_ : -9223372036854775808 ≤ fan ∧ fan ≤ 9223372036854775807) :
    Calls Try.prog 10 #[.agg (ndCells a A B C ca cb cc), .agg (ndCells b A' B' C' ca' cb' cc'), .int .i64 fan] w (Ret (.bool true) w) := halvejoins_any a b fan A B C A' B' C' ca cb cc ca' cb' cc' w h k

end Go.Proofs.Ytcoiadncennhpaa
