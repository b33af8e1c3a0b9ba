/- The example of chapter 11: the walk. -/
import Derived.Test.YtcoiadncennhpaaLeafLives
namespace Go.Proofs.Ytcoiadncennhpaa
open Go.RowKit

def exS : List ByteArray := [⟨#[97]⟩, ⟨#[98]⟩, ⟨#[99]⟩, ⟨#[100]⟩]
theorem exK_at (j : Nat) (h : j < 4) : exK j = exS[j]'h := by
  match j, h with
  | 0, _ => rfl
  | 1, _ => rfl
  | 2, _ => rfl
  | 3, _ => rfl
theorem exK_size (j : Nat) : (exK j).size ≤ maxLen := by
  match j with
  | 0 => decide
  | 1 => decide
  | 2 => decide
  | 3 => decide
  | j + 4 => simp [exK, maxLen]
/-- The example's node in its variable, and the texts. -/
structure Ex (w X : World) (g : Nat) (N : Nd) (A B C : Option Addr) (ca cb cc : Nat) : Prop where
  box : X.heap[g]? = some (.cells (ndCells N A B C ca cb cc) 26 (0, 0))
  txt : X.heap[g + 1]? = some (.cells (strs exS).toArray 9 (0, 0))
  lies : Lies X N A B C ca cb cc
  bel : Below w.heap.size w X
  ge : w.heap.size ≤ g
theorem Ex.up {w X X' : World} {g : Nat} {N : Nd} {A B C : Option Addr} {ca cb cc : Nat} (h : Ex w X g N A B C ca cb cc) (hb : Below X.heap.size X X') : Ex w X' g N A B C ca cb cc :=
  ⟨(hb.block _ (Array.getElem?_eq_some_iff.1 h.box).1).trans h.box, (hb.block _ (Array.getElem?_eq_some_iff.1 h.txt).1).trans h.txt, h.lies.up hb, below_of h.bel hb, h.ge⟩

set_option maxRecDepth 100000 in
set_option maxHeartbeats 8000000 in
theorem lives11_any (w : World) : Calls Try.prog 28 #[] w (Ret (.bool true) w) := by
  have HST := Lib.hid (fun (j : Nat) (hj : j < 4) (W : World) (A B C : Option Addr) (ca cb cc : Nat) (hW : Lies W (exN j) A B C ca cb cc) => (ex_step j hj) ▸ leafwith_any (exN j) (exK j) 1 4 A B C ca cb cc W hW (exK_size j))
  have HE := Lib.hid (fun (W : World) (A B C : Option Addr) (ca cb cc : Nat) (hW : Lies W (exN 4) A B C ca cb cc) => ex_e ▸ leafwith_any (exN 4) ⟨#[101]⟩ 1 4 A B C ca cb cc W hW (by decide))
  have HB := Lib.hid (fun (W : World) (A B C : Option Addr) (ca cb cc : Nat) (hW : Lies W (exN 4) A B C ca cb cc) => ex_b ▸ leafwith_any (exN 4) ⟨#[98]⟩ 7 4 A B C ca cb cc W hW (by decide))
  go_enter Try.func28, Try.ntmps28
  go_wp2_with fail
  refine (empty_any _).mono ?_
  rintro e W0 ⟨rfl, hb0⟩
  have hz : ndCells (exN 0) none none none 0 0 0 = #[.int .i64 0, .string ⟨#[]⟩, .string ⟨#[]⟩, .bool true, .int .i64 (-1), .slice none 0 0, .slice none 0 0, .slice none 0 0] := rfl
  have hs1 : (W0.alloc (.cells (ndCells (exN 0) none none none 0 0 0) 26)).heap.size = W0.heap.size + 1 := by simp
  have hba := below_alloc W0 (.cells (ndCells (exN 0) none none none 0 0 0) 26)
  have hbb := below_alloc (W0.alloc (.cells (ndCells (exN 0) none none none 0 0 0) 26)) (.cells (strs exS).toArray 9)
  have h1 := (hbb.block W0.heap.size (by rw [hs1]; omega)).trans (heap_alloc_new W0 _)
  have h2 := heap_alloc_new (W0.alloc (.cells (ndCells (exN 0) none none none 0 0 0) 26)) (.cells (strs exS).toArray 9)
  rw [hs1] at h2
  have hX := Lib.hid (show Ex w _ W0.heap.size (exN 0) none none none 0 0 0 from ⟨h1, h2, ⟨Rd.nil _ _ _ _, Rd.nil _ _ _ _, Rd.nil _ _ _ _, Nat.le_refl _, Nat.le_refl _, Nat.le_refl _, by decide, by decide, by decide, Nat.zero_le _, Nat.zero_le _, fun j hj => absurd hj (Nat.not_lt_zero _)⟩, below_of (below_of hb0 hba) hbb, hb0.size⟩)
  have hss : (strs exS).toArray = #[.string ⟨#[97]⟩, .string ⟨#[98]⟩, .string ⟨#[99]⟩, .string ⟨#[100]⟩] := rfl
  rw [hz, hss] at hX
  clear hz hss hs1 hba hbb h1 h2 hb0
  go_upto_region 2 with fail
  go_wp2_with fail
  generalize (W0.alloc _).alloc _ = X0 at hX ⊢
  generalize W0.heap.size = g at hX ⊢
  go_loopw [3, 4, 5, 13] (fun _ _ _ i wr => ∃ (j : Nat) (A B C : Option Addr) (ca cb cc : Nat), i = .int .i64 j ∧ Hid (j ≤ 4 ∧ Ex w wr g (exN j) A B C ca cb cc)) (fun _ _ _ i _ => 4 - (intOf i).toNat)
  case atStart => exact ⟨0, none, none, none, 0, 0, 0, rfl, Nat.zero_le _, hX.out⟩
  case round =>
    obtain ⟨j, A, B, C, ca, cb, cc, rfl, H⟩ := hrel
    by_cases hlt : j < 4
    · have hlt2 : (j : Int) < 4 := by omega
      have ct : wr.cell? ⟨g + 1, j, none⟩ = some (.string (exK j)) := (cell_of_row wr (g + 1) j _ _ _ H.out.2.txt).trans (by rw [exK_at j hlt]; have h4 : j < exS.length := hlt; simp [strs, h4]; rfl)
      have HC := Lib.hid (fun W A B C ca cb cc hW => HST.out j hlt W A B C ca cb cc hW)
      have HEX := Lib.hid H.out.2
      generalize hN1 : exN (j + 1) = N1 at HC
      have HN1 := Lib.hid hN1
      generalize exN j = N at HC HEX
      generalize exK j = kj at HC ct
      clear hN1 H
      obtain ⟨level, low, high, last, next, keys, vals, kids⟩ := N
      obtain ⟨level', low', high', last', next', keys', vals', kids'⟩ := N1
      have hbx := HEX.out.box
      simp only [ndCells] at hbx HC
      obtain ⟨x0, x1, x2, x3, x4, x5, x6, x7, -, -, -, -, -, -, -, -⟩ := nd_facts hbx
      clear hbx
      go_wp2_with fail
      refine (HC.out _ A B C ca cb cc HEX.out.lies).mono ?_
      rintro e W1 ⟨A', B', C', ca', cb', cc', rfl, hl1, hb1, hfa, hfb⟩
      have hgl := (Array.getElem?_eq_some_iff.1 HEX.out.box).1
      have HFR := Lib.hid (And.intro (fun (a : Addr) (e : A' = some a) => (show a.block ≠ g by have := hfa a e; omega)) (fun (a : Addr) (e : B' = some a) => (show a.block ≠ g by have := hfb a e; omega)))
      have hk0 : kids'.length = 0 := by have e := congrArg (fun d : Nd => d.kids.length) HN1.out; exact e.symm
      have HK0 := Lib.hid hk0
      clear hk0
      have HE1 := Lib.hid (And.intro (HEX.out.up hb1) hl1)
      clear hb1 hl1 x0 x1 x2 x3 x4 x5 x6 x7 ct HEX hfa hfb hgl
      have hba := below_alloc W1 (.cells (ndCells ⟨level', low', high', last', next', keys', vals', kids'⟩ A' B' C' ca' cb' cc') 26)
      have H2 := Lib.hid (And.intro (HE1.out.1.up hba) (And.intro (HE1.out.2.up hba) (heap_alloc_new W1 (.cells (ndCells ⟨level', low', high', last', next', keys', vals', kids'⟩ A' B' C' ca' cb' cc') 26))))
      clear hba HE1
      simp only [ndCells] at H2 ⊢
      go_upto_region 6 with fail
      generalize W1.alloc _ = W2 at H2 ⊢
      generalize W1.heap.size = g4 at H2 ⊢
      have hbx := H2.out.1.box
      have hby := H2.out.2.2
      simp only [ndCells] at hbx
      obtain ⟨x0, x1, x2, x3, x4, x5, x6, x7, f0, f1, f2, f3, f4, f5, f6, f7⟩ := nd_facts hbx
      obtain ⟨y0, y1, y2, y3, y4, y5, y6, y7, -, -, -, -, -, -, -, -⟩ := nd_facts hby
      have h8 := set8_heap hbx (.int .i64 level') (.string low') (.string high') (.bool last') (.int .i64 next') (.slice A' keys'.length ca') (.slice B' vals'.length cb') (.slice C' kids'.length cc')
      have ho := set8_off W2 g (.int .i64 level') (.string low') (.string high') (.bool last') (.int .i64 next') (.slice A' keys'.length ca') (.slice B' vals'.length cb') (.slice C' kids'.length cc')
      have hge := H2.out.1.ge
      have htx := (ho.block (g + 1) (Array.getElem?_eq_some_iff.1 H2.out.1.txt).1 (by omega)).trans H2.out.1.txt
      have hbl := ho.below H2.out.1.bel H2.out.1.bel.size (fun q hq e => by omega)
      have hl8 := lies_off H2.out.2.1 ho HFR.out.1 HFR.out.2 (.inl HK0.out)
      have HNX := Lib.hid (show Ex w _ g ⟨level', low', high', last', next', keys', vals', kids'⟩ A' B' C' ca' cb' cc' from ⟨h8, htx, hl8, hbl, hge⟩)
      simp only [set8] at HNX
      clear hbx hby h8 ho hge htx hbl hl8 H2 HC HFR HK0
      go_wp2_with fail
      go_roundw
      case rel =>
        refine ⟨j + 1, A', B', C', ca', cb', cc', by go_num, by omega, ?_⟩
        rw [HN1.out]
        exact HNX.out
      case measure => simp [intOf]; omega
    · have hj : j = 4 := by have := H.out.1; omega
      subst hj
      have HEX := Lib.hid H.out.2
      have hv4 : (exN 4).vals.length = 4 := rfl
      have hbx := HEX.out.box
      simp only [ndCells] at hbx
      have HE1 := Lib.hid (HE.out)
      clear H HST HE hlt
      have hN4 : exN 4 = ⟨0, ByteArray.empty, ByteArray.empty, true, -1, [⟨#[97]⟩, ⟨#[98]⟩, ⟨#[99]⟩, ⟨#[100]⟩], [1, 1, 1, 1], []⟩ := rfl
      rw [hN4] at hbx HE1 HB HEX
      have hM : exM = ⟨0, ByteArray.empty, ByteArray.empty, true, -1, [⟨#[97]⟩, ⟨#[98]⟩, ⟨#[99]⟩, ⟨#[100]⟩], [1, 7, 1, 1], []⟩ := rfl
      rw [hM] at HB
      clear hN4 hM hv4
      simp only [ndCells, List.length_cons, List.length_nil, Nat.zero_add, Nat.reduceAdd] at hbx HE1 HB
      obtain ⟨x0, x1, x2, x3, x4, x5, x6, x7, -, -, -, -, -, -, -, -⟩ := nd_facts hbx
      clear hbx
      go_wp2_with fail
      refine (HE1.out _ A B C ca cb cc HEX.out.lies).mono ?_
      rintro e W1 ⟨A', B', C', ca', cb', cc', rfl, hl1, hb1, -, -⟩
      have hba := below_alloc W1 (.cells (ndCells zeroN A' B' C' ca' cb' cc') 26)
      have HX2 := Lib.hid ((HEX.out.up hb1).up hba)
      clear hb1 hl1 hba x0 x1 x2 x3 x4 x5 x6 x7 HE1
      simp only [ndCells] at HX2 ⊢
      go_upto_region 11 with fail
      generalize W1.alloc _ = W2 at HX2 ⊢
      have hbx := HX2.out.box
      simp only [ndCells, List.length_cons, List.length_nil, Nat.zero_add, Nat.reduceAdd] at hbx
      obtain ⟨x0, x1, x2, x3, x4, x5, x6, x7, -, -, -, -, -, -, -, -⟩ := nd_facts hbx
      clear hbx
      go_wp2_with fail
      refine (HB.out _ A B C ca cb cc HX2.out.lies).mono ?_
      rintro e W3 ⟨A3, B3, C3, ca3, cb3, cc3, rfl, hl3, hb3, -, -⟩
      have hba := below_alloc W3 (.cells (ndCells ⟨0, ByteArray.empty, ByteArray.empty, true, -1, [⟨#[97]⟩, ⟨#[98]⟩, ⟨#[99]⟩, ⟨#[100]⟩], [1, 7, 1, 1], []⟩ A3 B3 C3 ca3 cb3 cc3) 26)
      have H4 := Lib.hid (And.intro ((HX2.out.up hb3).up hba) (And.intro (hl3.up hba) (heap_alloc_new W3 (.cells (ndCells ⟨0, ByteArray.empty, ByteArray.empty, true, -1, [⟨#[97]⟩, ⟨#[98]⟩, ⟨#[99]⟩, ⟨#[100]⟩], [1, 7, 1, 1], []⟩ A3 B3 C3 ca3 cb3 cc3) 26))))
      clear hba hb3 hl3 HX2 x0 x1 x2 x3 x4 x5 x6 x7 HB
      simp only [ndCells, List.length_cons, List.length_nil, Nat.zero_add, Nat.reduceAdd] at H4 ⊢
      go_upto_region 12 with fail
      generalize W3.alloc _ = W4 at H4 ⊢
      generalize W3.heap.size = g8 at H4 ⊢
      have hbx := H4.out.1.box
      have hby := H4.out.2.2
      simp only [ndCells, List.length_cons, List.length_nil, Nat.zero_add, Nat.reduceAdd] at hbx
      obtain ⟨x0, x1, x2, x3, x4, x5, x6, x7, -, -, -, -, -, -, -, -⟩ := nd_facts hbx
      obtain ⟨y0, y1, y2, y3, y4, y5, y6, y7, -, -, -, -, -, -, -, -⟩ := nd_facts hby
      obtain ⟨b1, off1, rfl, hbl1, hc1⟩ := H4.out.1.lies.vals.spot (by decide)
      obtain ⟨b2, off2, rfl, hbl2, hc2⟩ := H4.out.2.1.vals.spot (by decide)
      have d1 : W4.cell? ⟨b1, off1 + 1, none⟩ = some (.int .u64 1) := hc1 1 (by decide)
      have d2 : W4.cell? ⟨b2, off2 + 1, none⟩ = some (.int .u64 7) := hc2 1 (by decide)
      have HF := Lib.hid H4.out.1.bel
      clear hbx hby hc1 hc2 H4
      go_wp2_with fail
      go_ret
      exact ⟨rfl, HF.out⟩

end Go.Proofs.Ytcoiadncennhpaa
