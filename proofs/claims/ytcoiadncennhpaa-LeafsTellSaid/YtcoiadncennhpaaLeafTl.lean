/- Contracts of package leafs: at, Pairs, Next, Prev. -/
import Derived.Test.YtcoiadncennhpaaMap06c
import Derived.Test.YtcoiadncennhpaaLeafWith
import Derived.Test.YtcoiadncennhpaaHal2
namespace Go.Proofs.Ytcoiadncennhpaa
open Go.RowKit

/-- The pair at a place. -/
def atO (r : List PairD) (i : Int) : Option PairD := if 0 ≤ i then r[i.toNat]? else none
def pairV (o : Option PairD) : Value := .tuple #[.agg (prCells (o.getD Pl.zeroP)), .bool o.isSome]
theorem zip_min (ks : List ByteArray) (vs : List Int) : (Pl.zipP ks vs).length = min ks.length vs.length := List.length_zipWith
theorem zip_take {r : List PairD} {j : Nat} (hj : j < r.length) : r.take (j + 1) = r.take j ++ [(atO r (j : Int)).getD Pl.zeroP] := by
  unfold atO
  rw [if_pos (by omega), Int.toNat_natCast, List.take_add_one, List.getElem?_eq_getElem hj]
  rfl

theorem ow_head {B : Nat} {W0 W : World} {p q : Nat × Obj} {R : List RowT} (h : Ow B W0 W [p, q] R) : Ow B W0 W [p] R := by
  have key : ∀ (i : Nat) (z : Nat × Obj), [p][i]? = some z → [p, q][i]? = some z := by
    intro i z hz
    rcases i with _ | i
    · exact hz
    · simp at hz
  exact ⟨⟨h.sx.below, h.sx.le, fun i g o hi => h.sx.has i g o (key i _ hi), fun i j a b hij hi hj => h.sx.ne i j a b hij (key i _ hi) (key j _ hj)⟩, h.own, h.ne, fun i j k a b hi hk hj => h.nl i j k a b hi hk (key j _ hj)⟩

set_option maxRecDepth 100000 in
set_option maxHeartbeats 4000000 in
theorem leafat_any (d : Nd) (i : Int) (A B C : Option Addr) (ca cb cc : Nat) (w : World) (h : Lies w d A B C ca cb cc) :
    Calls Try.prog 96 #[.agg (ndCells d A B C ca cb cc), .int .i64 i] w (Ret (pairV (atO (Pl.zipP d.keys d.vals) i)) w) := by
  have H00 := Lib.hid h
  have hS := Lib.hid (Sx.start2 w (.cells (ndCells d A B C ca cb cc) 26) (.cells (prCells Pl.zeroP) 48))
  have hbad : i < 0 ∨ (d.keys.length : Int) ≤ i ∨ (d.vals.length : Int) ≤ i → atO (Pl.zipP d.keys d.vals) i = none := by
    intro q
    unfold atO
    by_cases h0 : 0 ≤ i
    · rw [if_pos h0, List.getElem?_eq_none (by rw [zip_min]; have := Nat.min_le_left d.keys.length d.vals.length; have := Nat.min_le_right d.keys.length d.vals.length; omega)]
    · rw [if_neg h0]
  have hgood : ∀ (j : Nat) (h1 : j < d.keys.length) (h2 : j < d.vals.length), i = j → atO (Pl.zipP d.keys d.vals) i = some ⟨d.keys[j], d.vals[j]⟩ := by
    intro j h1 h2 e
    unfold atO
    have hz : j < (Pl.zipP d.keys d.vals).length := by rw [zip_min]; exact Nat.lt_min.2 ⟨h1, h2⟩
    rw [if_pos (by omega), e, Int.toNat_natCast, List.getElem?_eq_getElem hz, Pl.zipP_at j h1 h2 hz]
  unfold pairV
  generalize atO (Pl.zipP d.keys d.vals) i = o at hbad hgood ⊢
  have HBAD := Lib.hid hbad
  have HGOOD := Lib.hid hgood
  have HL1 := Lib.hid (And.intro h.la h.lb)
  clear h hbad hgood
  obtain ⟨level, low, high, last, next, keys, vals, kids⟩ := d
  simp only [ndCells, prCells, Pl.zeroP] at hS ⊢
  simp only [] at HBAD HGOOD HL1
  have hl1 : keys.length ≤ 9223372036854775807 := HL1.out.1
  have hl2 : vals.length ≤ 9223372036854775807 := HL1.out.2
  by_cases hin : i < 0 ∨ (keys.length : Int) ≤ i ∨ (vals.length : Int) ≤ i
  · obtain rfl := HBAD.out hin
    simp only [Option.getD_none, Option.isSome_none]
    go_enter Try.func96, Try.ntmps96
    go_upto_region 1 with fail
    generalize (w.alloc _).alloc _ = W at hS ⊢
    obtain ⟨x0, x1, x2, x3, x4, x5, x6, x7, f0, f1, f2, f3, f4, f5, f6, f7⟩ := nd_facts (hS.out.has 0 _ _ rfl).1
    clear f0 f1 f2 f3 f4 f5 f6 f7
    by_cases h0 : i < 0
    · have h0b : decide (i < 0) = true := decide_eq_true h0
      clear hin h0
      obtain ⟨y0, y1, q0, q1⟩ := pr_facts (hS.out.has 1 _ _ rfl).1
      have HZ := Lib.hid ((hS.out.setc 1 rfl 0 (.string ⟨#[]⟩)).setc 1 rfl 1 (.int .u64 0)).below
      go_wp2_with fail
      exact bodyPost_ret (v := .tuple #[.agg #[.string ⟨#[]⟩, .int .u64 0], .bool false]) (by simp [results, Try.results96, go_sem, *]) rfl ⟨rfl, HZ.out⟩
    · have h0b : decide (i < 0) = false := decide_eq_false h0
      by_cases h1 : (keys.length : Int) ≤ i
      · have h1b : decide ((keys.length : Int) ≤ i) = true := decide_eq_true h1
        clear hin h0 h1
        obtain ⟨y0, y1, q0, q1⟩ := pr_facts (hS.out.has 1 _ _ rfl).1
        have HZ := Lib.hid ((hS.out.setc 1 rfl 0 (.string ⟨#[]⟩)).setc 1 rfl 1 (.int .u64 0)).below
        go_wp2_with fail
        exact bodyPost_ret (v := .tuple #[.agg #[.string ⟨#[]⟩, .int .u64 0], .bool false]) (by simp [results, Try.results96, go_sem, *]) rfl ⟨rfl, HZ.out⟩
      · have h1b : decide ((keys.length : Int) ≤ i) = false := decide_eq_false h1
        have h2b : decide ((vals.length : Int) ≤ i) = true := decide_eq_true (by omega)
        clear hin h0 h1
        obtain ⟨y0, y1, q0, q1⟩ := pr_facts (hS.out.has 1 _ _ rfl).1
        have HZ := Lib.hid ((hS.out.setc 1 rfl 0 (.string ⟨#[]⟩)).setc 1 rfl 1 (.int .u64 0)).below
        go_wp2_with fail
        exact bodyPost_ret (v := .tuple #[.agg #[.string ⟨#[]⟩, .int .u64 0], .bool false]) (by simp [results, Try.results96, go_sem, *]) rfl ⟨rfl, HZ.out⟩
  · obtain ⟨j, rfl⟩ := Int.eq_ofNat_of_zero_le (show 0 ≤ i by omega)
    have hj1 : j < keys.length := by omega
    have hj2 : j < vals.length := by omega
    obtain rfl := HGOOD.out j hj1 hj2 rfl
    have hk : RdS w A keys.length keys := H00.out.keys
    have hv : RdU w B vals.length vals := H00.out.vals
    obtain ⟨b, off, rfl, hb, hc⟩ := hk.spot (show 0 < keys.length by omega)
    obtain ⟨b', off', rfl, hb', hc'⟩ := hv.spot (show 0 < vals.length by omega)
    have HC1 := Lib.hid (And.intro hb (hc j hj1))
    have HC2 := Lib.hid (And.intro hb' (hc' j hj2))
    simp only [Option.getD_some, Option.isSome_some]
    clear hc hc' hb hb' hin HBAD HGOOD hk hv H00
    generalize keys[j] = kj at HC1 ⊢
    generalize vals[j] = vj at HC2 ⊢
    have hjn1 : (j : Int) < (keys.length : Int) := by omega
    have hjn2 : (j : Int) < (vals.length : Int) := by omega
    have h0b : decide ((j : Int) < 0) = false := decide_eq_false (by omega)
    have h1b : decide ((keys.length : Int) ≤ (j : Int)) = false := decide_eq_false (by omega)
    have h2b : decide ((vals.length : Int) ≤ (j : Int)) = false := decide_eq_false (by omega)
    go_enter Try.func96, Try.ntmps96
    go_upto_region 1 with fail
    generalize (w.alloc _).alloc _ = W at hS ⊢
    obtain ⟨x0, x1, x2, x3, x4, x5, x6, x7, f0, f1, f2, f3, f4, f5, f6, f7⟩ := nd_facts (hS.out.has 0 _ _ rfl).1
    clear f0 f1 f2 f3 f4 f5 f6 f7
    go_upto_region 3 with fail
    clear x0 x1 x2 x3 x4 x5 x6 x7
    have hd := Below.drew (Below.refl W.heap.size W)
    replace hS := Lib.hid (hS.out.call hd)
    clear hd
    refine wp_region_held_drew (S := fun w' => Sx w.heap.size w w' [(w.heap.size, .cells #[.int .i64 level, .string low, .string high, .bool last, .int .i64 next, .slice (some ⟨b, off, none⟩) keys.length ca, .slice (some ⟨b', off', none⟩) vals.length cb, .slice C kids.length cc] 26)]) (by kernel_rfl) (hS.out.top 1) (fun hcur => ?_)
    (try dsimp only at hcur)
    generalize W.drew = X at hS hcur ⊢
    refine wpAnyH_take (i := 0) (v := ?_) rfl (by decide +kernel) (by decide +kernel) (by decide +kernel) (fun _ _ _ h => h) (Or.inl ⟨by rfl, ?hy⟩) hcur ?_
    case hy =>
      intro w1 hSw
      (try dsimp only at hSw)
      obtain ⟨x0, x1, x2, x3, x4, x5, x6, x7, -, -, -, -, -, -, -, -⟩ := nd_facts (hSw.has 0 _ _ rfl).1
      have k0 := (hSw.below.cell (p := ⟨b, off + j, none⟩) HC1.out.1).trans HC1.out.2
      have k1 := (hSw.below.cell (p := ⟨b', off' + j, none⟩) HC2.out.1).trans HC2.out.2
      go_simp
      (try with_reducible rfl)
    (try simp only [Act.put, List.getElem_toArray, List.getElem_cons_zero, List.getElem_cons_succ, List.setIfInBounds_toArray, List.set_cons_zero, List.set_cons_succ])
    refine wpAnyH_take (i := 1) (v := ?_) rfl (by decide +kernel) (by decide +kernel) (by decide +kernel) (fun _ _ _ h => h) (Or.inl ⟨by rfl, ?hy⟩) hcur ?_
    case hy =>
      intro w1 hSw
      (try dsimp only at hSw)
      obtain ⟨x0, x1, x2, x3, x4, x5, x6, x7, -, -, -, -, -, -, -, -⟩ := nd_facts (hSw.has 0 _ _ rfl).1
      have k0 := (hSw.below.cell (p := ⟨b, off + j, none⟩) HC1.out.1).trans HC1.out.2
      have k1 := (hSw.below.cell (p := ⟨b', off' + j, none⟩) HC2.out.1).trans HC2.out.2
      go_simp
      (try with_reducible rfl)
    (try simp only [Act.put, List.getElem_toArray, List.getElem_cons_zero, List.getElem_cons_succ, List.setIfInBounds_toArray, List.set_cons_zero, List.set_cons_succ])
    refine wpAnyH_take (i := 2) (v := ?_) rfl (by decide +kernel) (by decide +kernel) (by decide +kernel) (fun _ _ _ h => h) (Or.inl ⟨by rfl, ?hy⟩) hcur ?_
    case hy =>
      intro w1 hSw
      (try dsimp only at hSw)
      obtain ⟨x0, x1, x2, x3, x4, x5, x6, x7, -, -, -, -, -, -, -, -⟩ := nd_facts (hSw.has 0 _ _ rfl).1
      have k0 := (hSw.below.cell (p := ⟨b, off + j, none⟩) HC1.out.1).trans HC1.out.2
      have k1 := (hSw.below.cell (p := ⟨b', off' + j, none⟩) HC2.out.1).trans HC2.out.2
      go_simp
      (try with_reducible rfl)
    (try simp only [Act.put, List.getElem_toArray, List.getElem_cons_zero, List.getElem_cons_succ, List.setIfInBounds_toArray, List.set_cons_zero, List.set_cons_succ])
    refine wpAnyH_take (i := 3) (v := ?_) rfl (by decide +kernel) (by decide +kernel) (by decide +kernel) (fun _ _ _ h => h) (Or.inl ⟨by rfl, ?hy⟩) hcur ?_
    case hy =>
      intro w1 hSw
      (try dsimp only at hSw)
      obtain ⟨x0, x1, x2, x3, x4, x5, x6, x7, -, -, -, -, -, -, -, -⟩ := nd_facts (hSw.has 0 _ _ rfl).1
      have k0 := (hSw.below.cell (p := ⟨b, off + j, none⟩) HC1.out.1).trans HC1.out.2
      have k1 := (hSw.below.cell (p := ⟨b', off' + j, none⟩) HC2.out.1).trans HC2.out.2
      go_simp
      (try with_reducible rfl)
    (try simp only [Act.put, List.getElem_toArray, List.getElem_cons_zero, List.getElem_cons_succ, List.setIfInBounds_toArray, List.set_cons_zero, List.set_cons_succ])
    refine wpAnyH_take (i := 4) (v := ?_) rfl (by decide +kernel) (by decide +kernel) (by decide +kernel) (fun _ _ _ h => h) (Or.inl ⟨by rfl, ?hy⟩) hcur ?_
    case hy =>
      intro w1 hSw
      (try dsimp only at hSw)
      obtain ⟨x0, x1, x2, x3, x4, x5, x6, x7, -, -, -, -, -, -, -, -⟩ := nd_facts (hSw.has 0 _ _ rfl).1
      have k0 := (hSw.below.cell (p := ⟨b, off + j, none⟩) HC1.out.1).trans HC1.out.2
      have k1 := (hSw.below.cell (p := ⟨b', off' + j, none⟩) HC2.out.1).trans HC2.out.2
      go_simp
      (try with_reducible rfl)
    (try simp only [Act.put, List.getElem_toArray, List.getElem_cons_zero, List.getElem_cons_succ, List.setIfInBounds_toArray, List.set_cons_zero, List.set_cons_succ])
    refine wpAnyH_take (i := 5) (v := ?_) rfl (by decide +kernel) (by decide +kernel) (by decide +kernel) (fun _ _ _ h => h) (Or.inl ⟨by rfl, ?hy⟩) hcur ?_
    case hy =>
      intro w1 hSw
      (try dsimp only at hSw)
      obtain ⟨x0, x1, x2, x3, x4, x5, x6, x7, -, -, -, -, -, -, -, -⟩ := nd_facts (hSw.has 0 _ _ rfl).1
      have k0 := (hSw.below.cell (p := ⟨b, off + j, none⟩) HC1.out.1).trans HC1.out.2
      have k1 := (hSw.below.cell (p := ⟨b', off' + j, none⟩) HC2.out.1).trans HC2.out.2
      go_simp
      (try with_reducible rfl)
    (try simp only [Act.put, List.getElem_toArray, List.getElem_cons_zero, List.getElem_cons_succ, List.setIfInBounds_toArray, List.set_cons_zero, List.set_cons_succ])
    refine wpAnyH_take (i := 6) (v := ?_) rfl (by decide +kernel) (by decide +kernel) (by decide +kernel) (fun _ _ _ h => h) (Or.inl ⟨by rfl, ?hy⟩) hcur ?_
    case hy =>
      intro w1 hSw
      (try dsimp only at hSw)
      obtain ⟨x0, x1, x2, x3, x4, x5, x6, x7, -, -, -, -, -, -, -, -⟩ := nd_facts (hSw.has 0 _ _ rfl).1
      have k0 := (hSw.below.cell (p := ⟨b, off + j, none⟩) HC1.out.1).trans HC1.out.2
      have k1 := (hSw.below.cell (p := ⟨b', off' + j, none⟩) HC2.out.1).trans HC2.out.2
      go_simp
      (try with_reducible rfl)
    (try simp only [Act.put, List.getElem_toArray, List.getElem_cons_zero, List.getElem_cons_succ, List.setIfInBounds_toArray, List.set_cons_zero, List.set_cons_succ])
    refine wpAnyH_take (i := 7) (v := ?_) rfl (by decide +kernel) (by decide +kernel) (by decide +kernel) (fun _ _ _ h => h) (Or.inl ⟨by rfl, ?hy⟩) hcur ?_
    case hy =>
      intro w1 hSw
      (try dsimp only at hSw)
      obtain ⟨x0, x1, x2, x3, x4, x5, x6, x7, -, -, -, -, -, -, -, -⟩ := nd_facts (hSw.has 0 _ _ rfl).1
      have k0 := (hSw.below.cell (p := ⟨b, off + j, none⟩) HC1.out.1).trans HC1.out.2
      have k1 := (hSw.below.cell (p := ⟨b', off' + j, none⟩) HC2.out.1).trans HC2.out.2
      go_simp
      (try with_reducible rfl)
    (try simp only [Act.put, List.getElem_toArray, List.getElem_cons_zero, List.getElem_cons_succ, List.setIfInBounds_toArray, List.set_cons_zero, List.set_cons_succ])
    refine wpAnyH_take (i := 8) (v := ?_) rfl (by decide +kernel) (by decide +kernel) (by decide +kernel) (fun _ _ _ h => h) (Or.inl ⟨by rfl, ?hy⟩) hcur ?_
    case hy =>
      intro w1 hSw
      (try dsimp only at hSw)
      obtain ⟨x0, x1, x2, x3, x4, x5, x6, x7, -, -, -, -, -, -, -, -⟩ := nd_facts (hSw.has 0 _ _ rfl).1
      have k0 := (hSw.below.cell (p := ⟨b, off + j, none⟩) HC1.out.1).trans HC1.out.2
      have k1 := (hSw.below.cell (p := ⟨b', off' + j, none⟩) HC2.out.1).trans HC2.out.2
      go_simp
      (try with_reducible rfl)
    (try simp only [Act.put, List.getElem_toArray, List.getElem_cons_zero, List.getElem_cons_succ, List.setIfInBounds_toArray, List.set_cons_zero, List.set_cons_succ])
    refine wpAnyH_take (i := 9) (v := ?_) rfl (by decide +kernel) (by decide +kernel) (by decide +kernel) (fun _ _ _ h => h) (Or.inl ⟨by rfl, ?hy⟩) hcur ?_
    case hy =>
      intro w1 hSw
      (try dsimp only at hSw)
      obtain ⟨x0, x1, x2, x3, x4, x5, x6, x7, -, -, -, -, -, -, -, -⟩ := nd_facts (hSw.has 0 _ _ rfl).1
      have k0 := (hSw.below.cell (p := ⟨b, off + j, none⟩) HC1.out.1).trans HC1.out.2
      have k1 := (hSw.below.cell (p := ⟨b', off' + j, none⟩) HC2.out.1).trans HC2.out.2
      go_simp
      (try with_reducible rfl)
    (try simp only [Act.put, List.getElem_toArray, List.getElem_cons_zero, List.getElem_cons_succ, List.setIfInBounds_toArray, List.set_cons_zero, List.set_cons_succ])
    refine wpAnyH_take (i := 10) (v := ?_) rfl (by decide +kernel) (by decide +kernel) (by decide +kernel) (fun _ _ _ h => h) (Or.inl ⟨by rfl, ?hy⟩) hcur ?_
    case hy =>
      intro w1 hSw
      (try dsimp only at hSw)
      obtain ⟨x0, x1, x2, x3, x4, x5, x6, x7, -, -, -, -, -, -, -, -⟩ := nd_facts (hSw.has 0 _ _ rfl).1
      have k0 := (hSw.below.cell (p := ⟨b, off + j, none⟩) HC1.out.1).trans HC1.out.2
      have k1 := (hSw.below.cell (p := ⟨b', off' + j, none⟩) HC2.out.1).trans HC2.out.2
      go_simp
      (try with_reducible rfl)
    (try simp only [Act.put, List.getElem_toArray, List.getElem_cons_zero, List.getElem_cons_succ, List.setIfInBounds_toArray, List.set_cons_zero, List.set_cons_succ])
    refine wpAnyH_ready (rs := [11]) (by decide +kernel) (by simp) ?_
    refine AllReadyH.cons rfl (fun K hK => ?_) AllReadyH.nil
    obtain ⟨y0, y1, q0, q1⟩ := pr_facts (hS.out.has 1 _ _ rfl).1
    go_simp
    have hZ := (hS.out.setc 1 rfl 0 (.string kj)).setc 1 rfl 1 (.int .u64 vj)
    simp only [List.set_cons_zero, List.set_cons_succ] at hZ
    clear y0 y1 q0 q1
    replace hS := Lib.hid hZ
    clear hZ
    refine hK.out _ _ (hS.out.top 1) (fun hcur2 => ?_)
    clear hK K
    replace hcur := hcur2
    (try dsimp only at hcur)
    clear hcur2
    (try simp only [Act.put, List.getElem_toArray, List.getElem_cons_zero, List.getElem_cons_succ, List.setIfInBounds_toArray, List.set_cons_zero, List.set_cons_succ])
    refine wpAnyH_take (i := 12) (v := ?_) rfl (by decide +kernel) (by decide +kernel) (by decide +kernel) (fun _ _ _ h => h) (Or.inl ⟨by rfl, ?hy⟩) hcur ?_
    case hy =>
      intro w1 hSw
      (try dsimp only at hSw)
      obtain ⟨x0, x1, x2, x3, x4, x5, x6, x7, -, -, -, -, -, -, -, -⟩ := nd_facts (hSw.has 0 _ _ rfl).1
      have k0 := (hSw.below.cell (p := ⟨b, off + j, none⟩) HC1.out.1).trans HC1.out.2
      have k1 := (hSw.below.cell (p := ⟨b', off' + j, none⟩) HC2.out.1).trans HC2.out.2
      go_simp
      (try with_reducible rfl)
    (try simp only [Act.put, List.getElem_toArray, List.getElem_cons_zero, List.getElem_cons_succ, List.setIfInBounds_toArray, List.set_cons_zero, List.set_cons_succ])
    refine wpAnyH_done (by decide +kernel) ?_ _
    clear hcur
    generalize World.setCell _ _ _ = X2 at hS ⊢
    obtain ⟨y0, y1, q0, q1⟩ := pr_facts (hS.out.has 1 _ _ rfl).1
    go_wp2_with fail
    exact bodyPost_ret (v := .tuple #[.agg #[.string kj, .int .u64 vj], .bool true]) (by simp [results, Try.results96, go_sem, *]) rfl ⟨rfl, hS.out.below⟩

set_option maxRecDepth 100000 in
set_option maxHeartbeats 4000000 in
theorem leafpairs_any (d : Nd) (A B C : Option Addr) (ca cb cc : Nat) (w : World) (h : Lies w d A B C ca cb cc) (hl : d.keys.length ≤ 1000) :
    Calls Try.prog 40 #[.agg (ndCells d A B C ca cb cc)] w (PrsRet (Pl.zipP d.keys d.vals) w) := by
  have H00 := Lib.hid h
  have HA := Lib.hid (fun i W hW => leafat_any d i A B C ca cb cc W hW)
  have HZL := Lib.hid (zip_min d.keys d.vals)
  have hO := (Ow.start ((Sx.start0 w).alloc (.cells (ndCells d A B C ca cb cc) 26))).nil 48 2
  simp only [List.nil_append] at hO
  have HO := Lib.hid hO
  generalize Pl.zipP d.keys d.vals = r at HA HZL ⊢
  unfold pairV at HA
  clear h hO
  obtain ⟨level, low, high, last, next, keys, vals, kids⟩ := d
  simp only [ndCells] at HO HA ⊢
  simp only [] at HZL hl
  have hl2 : keys.length ≤ 9223372036854775807 := by omega
  go_enter Try.func40, Try.ntmps40
  go_upto_region 1 with fail
  generalize w.alloc _ = W at HO ⊢
  obtain ⟨x0, x1, x2, x3, x4, x5, x6, x7, -, -, -, -, -, -, -, -⟩ := nd_facts (HO.out.sx.has 0 _ _ rfl).1
  go_wp2_with fail
  go_loopw [2, 3, 4, 5, 9] (fun v _ _ _ i wr => ∃ (j m : Nat) (A1 : Option Addr) (c1 : Nat), i = .int .i64 j ∧ v = .slice A1 m c1 ∧ Hid (j ≤ keys.length ∧ (m = min j r.length ∧ m ≤ 1000) ∧
    Ow w.heap.size w wr [(w.heap.size, .cells #[.int .i64 level, .string low, .string high, .bool last, .int .i64 next, .slice A keys.length ca, .slice B vals.length cb, .slice C kids.length cc] 26)] [⟨48, 2, .slice A1 m c1, m, prRow (r.take j)⟩])) (fun _ _ _ _ i _ => keys.length - (intOf i).toNat)
  case atStart => exact ⟨0, 0, none, 0, rfl, rfl, Nat.zero_le _, ⟨(Nat.zero_min _).symm, Nat.zero_le _⟩, HO.out⟩
  case round =>
    obtain ⟨j, m, A1, c1, rfl, rfl, H⟩ := hrel
    clear HO x0 x1 x2 x3 x4 x5 x6 x7
    by_cases hlt : j < keys.length
    · have HO := Lib.hid H.out.2.2
      have HM := Lib.hid H.out.2.1
      have HA2 := Lib.hid (HA.out (j : Int))
      clear H
      obtain ⟨x0, x1, x2, x3, x4, x5, x6, x7, -, -, -, -, -, -, -, -⟩ := nd_facts (HO.out.sx.has 0 _ _ rfl).1
      by_cases hjr : j < r.length
      · have HT := Lib.hid (zip_take (r := r) hjr)
        have hat : (atO r (j : Int)).isSome = true := by unfold atO; rw [if_pos (by omega), Int.toNat_natCast, List.getElem?_eq_getElem hjr]; rfl
        rw [hat] at HA2
        clear hat
        have HMJ := Lib.hid (show m = j by have := HM.out.1; rw [Nat.min_eq_left (by omega)] at this; exact this)
        generalize (atO r (j : Int)).getD Pl.zeroP = p at HA2 HT
        simp only [prCells] at HA2
        have hm : m ≤ 1000 := HM.out.2
        go_wp2_with fail
        refine (HA2.out _ (H00.out.up HO.out.below)).mono ?_
        rintro e w2 ⟨rfl, hbn⟩
        have hOw := (HO.out.call hbn).alloc (.cells (prCells p) 48)
        simp only [prCells, List.cons_append, List.nil_append] at hOw
        clear hbn HO x0 x1 x2 x3 x4 x5 x6 x7
        go_upto_region 5 with fail
        generalize w2.alloc _ = w3 at hOw ⊢
        generalize w2.heap.size = g3 at hOw ⊢
        obtain ⟨y0, y1, -, -⟩ := pr_facts (hOw.sx.has 1 _ _ rfl).1
        obtain ⟨A2, c2, W3, hrun, hc2, hO2⟩ := hOw.pushP 52 (by kernel_rfl) 0 rfl p (by omega)
        simp only [List.set_cons_zero] at hO2
        have HN := Lib.hid (And.intro (ow_head hO2) HT.out)
        have Hrun := Lib.hid hrun
        simp only [prCells] at Hrun
        clear hOw hO2 hrun HT
        go_wp2_with (at_builtin; refine wpList_append_run rfl (.tmp 19) (.tmp 21) 52 rfl rfl rfl Hrun.out ?_)
        go_roundw
        case rel => exact ⟨j + 1, m + 1, A2, c2, by go_num, rfl, by omega, ⟨by have := HMJ.out; rw [Nat.min_eq_left (by omega)]; omega, by have := HMJ.out; omega⟩, by rw [HN.out.2]; exact HN.out.1⟩
        case measure => simp [intOf]; omega
      · have HT := Lib.hid (show r.take (j + 1) = r.take j by rw [List.take_of_length_le (by omega), List.take_of_length_le (by omega)])
        have hat : (atO r (j : Int)).isSome = false := by unfold atO; rw [if_pos (by omega), Int.toNat_natCast, List.getElem?_eq_none (by omega)]; rfl
        rw [hat] at HA2
        clear hat
        have HMJ := Lib.hid (show m = r.length by have := HM.out.1; rw [Nat.min_eq_right (by omega)] at this; exact this)
        generalize (atO r (j : Int)).getD Pl.zeroP = p at HA2
        simp only [prCells] at HA2
        go_wp2_with fail
        refine (HA2.out _ (H00.out.up HO.out.below)).mono ?_
        rintro e w2 ⟨rfl, hbn⟩
        have hOw := (HO.out.call hbn).call (below_alloc w2 (.cells #[.string p.key, .int .u64 p.val] 48))
        clear hbn HO x0 x1 x2 x3 x4 x5 x6 x7
        go_upto_region 5 with fail
        generalize w2.alloc _ = w3 at hOw ⊢
        have HN := Lib.hid (And.intro hOw HT.out)
        clear hOw HT
        go_wp2_with fail
        go_roundw
        case rel => exact ⟨j + 1, m, A1, c1, by go_num, rfl, by omega, ⟨by have := HMJ.out; rw [Nat.min_eq_right (by omega)]; exact this, HM.out.2⟩, by rw [HN.out.2]; exact HN.out.1⟩
        case measure => simp [intOf]; omega
    · obtain rfl : j = keys.length := by have := H.out.1; omega
      have HF := Lib.hid H.out.2.2
      have HRL := Lib.hid (show r.length ≤ keys.length by rw [HZL.out]; exact Nat.min_le_left _ _)
      rw [List.take_of_length_le HRL.out] at HF
      have HME := Lib.hid (show r.length = m by have := H.out.2.1.1; rw [Nat.min_eq_right HRL.out] at this; exact this.symm)
      clear H
      go_wp2_with fail
      go_ret
      exact ⟨A1, c1, by rw [HME.out]; rfl, by rw [HME.out]; exact HF.out.own 0 _ rfl, HF.out.below⟩

end Go.Proofs.Ytcoiadncennhpaa
