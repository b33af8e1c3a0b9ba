/- Contracts of package op: Read. -/
import Derived.Test.YthbafbgnclpbpaaOp12
namespace Go.Proofs.Ythbafbgnclpbpaa
open Go.RowKit

def rawL (k : Nat) (a b : ByteArray) (d : Nat) (l : List Nat) (f : Int) : OpD × List Nat × Int := (⟨k, a, b, 0, d⟩, l, f)

set_option maxRecDepth 100000 in
set_option maxHeartbeats 16000000 in
theorem opread_any (ep : Nat) (sb : Option Nat) (l : List Nat) (f : Int) (w : World) (h : EyeAt w ep sb l f) (hx : ∀ x ∈ l, x < 256) (hl : l.length ≤ 1000000) (hsb : ∀ b, sb = some b → b < w.heap.size) :
    Calls Try.prog 61 #[.pointer (some ⟨ep, 0, none⟩)] w (EyeTo (.tuple #[.agg (opCells (opRd l f).2.1), .bool (opRd l f).1]) w ep sb (opRd l f).2.2.1 (opRd l f).2.2.2) := by
  have hrd : opRd l f = opFin (raw0 (eyeUp 10 l f)) := rfl
  generalize opRd l f = q at hrd ⊢
  have hb0 := below_alloc w (.cells opZ 58)
  have hn0 : (w.alloc (.cells opZ 58)).heap[w.heap.size]? = some (.cells opZ 58 (0, 0)) := heap_alloc_new w _
  have hnum := eyenum_any ep sb l f 10 (w.alloc (.cells opZ 58)) (h.below hb0) hx hl
  have hsub := eyeUp_sub 10 l f
  have hle := eyeUp_le 10 l f
  generalize eyeUp 10 l f = r at hrd hnum hsub hle
  obtain ⟨k, l1, f1⟩ := r
  simp only [] at hnum hsub hle
  have H0 := Lib.hid (And.intro hn0 (And.intro h.lt (And.intro hsb (And.intro hx (And.intro hl hsub)))))
  have HN := Lib.hid hnum
  have hw : IntKind.i64.wrap (k : Int) = (k : Int) := IntWalk.i64_in _ (by omega)
  replace hrd : q = opFin (raw1 (usesKey (k : Int)) (usesTo (k : Int)) (usesVal (k : Int)) k l1 f1) := hrd
  have hu := used_any (k : Int)
  have hk := uses_kinds (k : Int)
  simp only [usesV] at hu
  generalize usesKey (k : Int) = ku at hrd hu hk
  generalize usesTo (k : Int) = tu at hrd hu hk
  generalize usesVal (k : Int) = vu at hrd hu hk
  have HU := Lib.hid hu
  have HQ := Lib.hid hrd
  clear hrd hb0 hn0 hnum hsub h hsb hx hl hu
  simp only [opZ] at HN
  rcases hk with ⟨rfl, rfl, rfl⟩ | ⟨rfl, rfl, rfl⟩ | ⟨rfl, rfl, rfl⟩ | ⟨rfl, rfl, rfl⟩
  · go_enter Try.func61, Try.ntmps61
    go_wp2_with fail
    refine HN.out.mono ?_
    rintro e X1 ⟨rfl, hE, hO⟩
    have HE := Lib.hid (And.intro hE hO)
    clear hE hO HN
    go_wp2_with fail
    refine (HU.out _).mono ?_
    rintro e X3 ⟨rfl, hb3⟩
    have HB3 := Lib.hid hb3
    clear hb3
    go_upto_region 3 with fail
    have HS := Lib.hid (Rs.start (k := k) H0.out.1 HE.out.1 HE.out.2 HB3.out H0.out.2.1 H0.out.2.2.1 H0.out.2.2.2.1 H0.out.2.2.2.2.1 H0.out.2.2.2.2.2 hle : Rs w (X3.alloc (.cells #[.bool false, .bool false, .bool false, .bool false] 110)) ep sb l1 f1 X1.heap.size X3.heap.size ⟨k, ⟨#[]⟩, ⟨#[]⟩, 0, 0⟩ false false false)
    clear HE HB3 H0 hw
    generalize X3.alloc _ = X at HS ⊢
    generalize X3.heap.size = g5 at HS ⊢
    generalize X1.heap.size = g4 at HS ⊢
    replace HQ := Lib.hid (show q = opFin (⟨k, ⟨#[]⟩, ⟨#[]⟩, 0, 0⟩, l1, f1) from HQ.out)
    obtain ⟨u0, u1, u2, u3⟩ := uses_facts HS.out.used
    obtain ⟨c0, c1, c2, c3, c4, y0, y1, y2, y3, y4⟩ := op_facts HS.out.box
    obtain ⟨r0, r1, r2, r3, r4, q0, q1, q2, q3, q4⟩ := op_zero HS.out.res
    simp only [] at c0 c1 c2 c3 c4
    go_wp2_with fail
    refine (eyefault_any ep sb l1 f1 _ HS.out.eye).mono ?_
    rintro e Xf ⟨rfl, rfl⟩
    by_cases hf : f1 = 0
    · subst hf
      have HC := Lib.hid (fun W => opcheck_any (⟨k, ⟨#[]⟩, ⟨#[]⟩, 0, 0⟩) W HS.out.ok)
      have e := HQ.out
      rcases (show opB (⟨k, ⟨#[]⟩, ⟨#[]⟩, 0, 0⟩) = true ∨ opB (⟨k, ⟨#[]⟩, ⟨#[]⟩, 0, 0⟩) = false by cases opB (⟨k, ⟨#[]⟩, ⟨#[]⟩, 0, 0⟩) <;> simp) with hB | hB
      · rw [opFin_good hB] at e
        subst e
        have HC0 := Lib.hid (fun W => Calls.to (HC.out W) (congrArg (Value.int .i64) (if_pos hB)))
        clear HC hB HQ
        simp only [opCells] at HC0
        go_wp2_with fail
        refine (HC0.out _).mono ?_
        rintro e Xc ⟨rfl, hb⟩
        have hA := HS.out.at_ (Off.of_below hb (fun k => k = ep))
        have HF := Lib.hid (HS.out.fin (Off.of_below hb (fun k => k = ep)) (HS.out.eye.below hb))
        clear u0 u1 u2 u3 c0 c1 c2 c3 c4 y0 y1 y2 y3 y4 r0 r1 r2 r3 r4 q0 q1 q2 q3 q4 HC0 hb
        obtain ⟨c0, c1, c2, c3, c4, y0, y1, y2, y3, y4⟩ := op_facts hA.2.1
        obtain ⟨r0, r1, r2, r3, r4, q0, q1, q2, q3, q4⟩ := op_zero hA.1
        simp only [] at c0 c1 c2 c3 c4
        clear hA
        go_wp2_with fail
        exact bodyPost_ret (v := .tuple #[.agg (opCells (⟨k, ⟨#[]⟩, ⟨#[]⟩, 0, 0⟩)), .bool true]) (by simp [results, Try.results61, go_sem, opCells, *]) rfl ⟨rfl, HF.out _ _ _ _ _⟩
      · rw [opFin_bad hB] at e
        subst e
        have HC0 := Lib.hid (fun W => Calls.to (HC.out W) (congrArg (Value.int .i64) (if_neg (by rw [hB]; exact Bool.false_ne_true))))
        clear HC hB HQ
        simp only [opCells] at HC0
        go_wp2_with fail
        refine (HC0.out _).mono ?_
        rintro e Xc ⟨rfl, hb⟩
        have HB := Lib.hid hb
        clear u0 u1 u2 u3 c0 c1 c2 c3 c4 y0 y1 y2 y3 y4 r0 r1 r2 r3 r4 q0 q1 q2 q3 q4 HC0 hb
        go_wp2_with fail
        refine (spoil_any ep sb l1 0 _ (HS.out.eye.below HB.out) HS.out.bytes HS.out.len).mono ?_
        rintro e Xs ⟨rfl, hE, hO⟩
        rw [show wrongL l1 0 = [] from if_pos rfl, show wrongF 0 10 = 10 from if_pos rfl] at hE
        have hO2 := (Off.of_below HB.out (fun k => k = ep)).trans hO (fun _ _ e => e)
        have hA := HS.out.at_ hO2
        have HF := Lib.hid (HS.out.fin hO2 hE)
        clear HB hE hO hO2
        obtain ⟨r0, r1, r2, r3, r4, q0, q1, q2, q3, q4⟩ := op_zero hA.1
        clear hA
        go_wp2_with fail
        exact bodyPost_ret (v := .tuple #[.agg #[.int .i64 0, .string ⟨#[]⟩, .string ⟨#[]⟩, .int .u64 0, .int .i64 0], .bool false]) (by simp [results, Try.results61, go_sem, *]) rfl ⟨rfl, HF.out _ _ _ _ _⟩
    · have hfb : (f1 == (0 : Int)) = false := by simp [hf]
      have e := HQ.out
      rw [opFin_fault hf] at e
      subst e
      have HF := Lib.hid (HS.out.fin (Off.refl _ _) HS.out.eye (.int .i64 0) (.string ⟨#[]⟩) (.string ⟨#[]⟩) (.int .u64 0) (.int .i64 0))
      go_wp2_with fail
      exact bodyPost_ret (v := .tuple #[.agg #[.int .i64 0, .string ⟨#[]⟩, .string ⟨#[]⟩, .int .u64 0, .int .i64 0], .bool false]) (by simp [results, Try.results61, go_sem, *]) rfl ⟨rfl, HF.out⟩
  · go_enter Try.func61, Try.ntmps61
    go_wp2_with fail
    refine HN.out.mono ?_
    rintro e X1 ⟨rfl, hE, hO⟩
    have HE := Lib.hid (And.intro hE hO)
    clear hE hO HN
    go_wp2_with fail
    refine (HU.out _).mono ?_
    rintro e X3 ⟨rfl, hb3⟩
    have HB3 := Lib.hid hb3
    clear hb3
    go_upto_region 3 with fail
    have HS := Lib.hid (Rs.start (k := k) H0.out.1 HE.out.1 HE.out.2 HB3.out H0.out.2.1 H0.out.2.2.1 H0.out.2.2.2.1 H0.out.2.2.2.2.1 H0.out.2.2.2.2.2 hle : Rs w (X3.alloc (.cells #[.bool true, .bool false, .bool false, .bool false] 110)) ep sb l1 f1 X1.heap.size X3.heap.size ⟨k, ⟨#[]⟩, ⟨#[]⟩, 0, 0⟩ true false false)
    clear HE HB3 H0 hw
    generalize X3.alloc _ = X at HS ⊢
    generalize X3.heap.size = g5 at HS ⊢
    generalize X1.heap.size = g4 at HS ⊢
    obtain ⟨u0, u1, u2, u3⟩ := uses_facts HS.out.used
    go_wp2_with fail
    have HT := Lib.hid (eyetext_any ep sb l1 f1 64 _ HS.out.eye HS.out.bytes HS.out.len (by decide))
    have hsub := eyeTxt_sub 64 l1 f1
    have hsz := Nat.le_trans (eyeTxt_size 64 l1 f1) (Nat.le_trans HS.out.len (show 1000000 ≤ maxLen by decide))
    replace HQ := Lib.hid (show q = opFin (raw2 false false k (eyeTxt 64 l1 f1).1 (eyeTxt 64 l1 f1).2.1 (eyeTxt 64 l1 f1).2.2) from HQ.out)
    generalize eyeTxt 64 l1 f1 = r at HT HQ hsub hsz
    have HG := Lib.hid (And.intro hsub hsz)
    clear hsub hsz u0 u1 u2 u3
    refine HT.out.mono ?_
    rintro e X1 ⟨rfl, hE, hO⟩
    have HE := Lib.hid (And.intro hE hO)
    clear hE hO HT
    obtain ⟨t, l1, f1⟩ := r
    simp only [] at HQ
    obtain ⟨c0, c1, c2, c3, c4, y0, y1, y2, y3, y4⟩ := op_facts (HS.out.at_ HE.out.2).2.1
    simp only [] at c0 c1 c2 c3 c4
    go_upto_region 5 with fail
    have hsz := HG.out.2
    replace HS := Lib.hid (HS.out.step (o' := ⟨k, t, ⟨#[]⟩, 0, 0⟩) HE.out.1 HE.out.2 HG.out.1 1 (.string t) rfl ⟨HS.out.ok.kind, hsz, HS.out.ok.upto, HS.out.ok.val, HS.out.ok.limit⟩)
    clear c0 c1 c2 c3 c4 y0 y1 y2 y3 y4 HE HG hsz
    generalize World.setCell _ _ _ = X at HS ⊢
    replace HQ := Lib.hid (show q = opFin (⟨k, t, ⟨#[]⟩, 0, 0⟩, l1, f1) from HQ.out)
    obtain ⟨u0, u1, u2, u3⟩ := uses_facts HS.out.used
    obtain ⟨c0, c1, c2, c3, c4, y0, y1, y2, y3, y4⟩ := op_facts HS.out.box
    obtain ⟨r0, r1, r2, r3, r4, q0, q1, q2, q3, q4⟩ := op_zero HS.out.res
    simp only [] at c0 c1 c2 c3 c4
    go_wp2_with fail
    refine (eyefault_any ep sb l1 f1 _ HS.out.eye).mono ?_
    rintro e Xf ⟨rfl, rfl⟩
    by_cases hf : f1 = 0
    · subst hf
      have HC := Lib.hid (fun W => opcheck_any (⟨k, t, ⟨#[]⟩, 0, 0⟩) W HS.out.ok)
      have e := HQ.out
      rcases (show opB (⟨k, t, ⟨#[]⟩, 0, 0⟩) = true ∨ opB (⟨k, t, ⟨#[]⟩, 0, 0⟩) = false by cases opB (⟨k, t, ⟨#[]⟩, 0, 0⟩) <;> simp) with hB | hB
      · rw [opFin_good hB] at e
        subst e
        have HC0 := Lib.hid (fun W => Calls.to (HC.out W) (congrArg (Value.int .i64) (if_pos hB)))
        clear HC hB HQ
        simp only [opCells] at HC0
        go_wp2_with fail
        refine (HC0.out _).mono ?_
        rintro e Xc ⟨rfl, hb⟩
        have hA := HS.out.at_ (Off.of_below hb (fun k => k = ep))
        have HF := Lib.hid (HS.out.fin (Off.of_below hb (fun k => k = ep)) (HS.out.eye.below hb))
        clear u0 u1 u2 u3 c0 c1 c2 c3 c4 y0 y1 y2 y3 y4 r0 r1 r2 r3 r4 q0 q1 q2 q3 q4 HC0 hb
        obtain ⟨c0, c1, c2, c3, c4, y0, y1, y2, y3, y4⟩ := op_facts hA.2.1
        obtain ⟨r0, r1, r2, r3, r4, q0, q1, q2, q3, q4⟩ := op_zero hA.1
        simp only [] at c0 c1 c2 c3 c4
        clear hA
        go_wp2_with fail
        exact bodyPost_ret (v := .tuple #[.agg (opCells (⟨k, t, ⟨#[]⟩, 0, 0⟩)), .bool true]) (by simp [results, Try.results61, go_sem, opCells, *]) rfl ⟨rfl, HF.out _ _ _ _ _⟩
      · rw [opFin_bad hB] at e
        subst e
        have HC0 := Lib.hid (fun W => Calls.to (HC.out W) (congrArg (Value.int .i64) (if_neg (by rw [hB]; exact Bool.false_ne_true))))
        clear HC hB HQ
        simp only [opCells] at HC0
        go_wp2_with fail
        refine (HC0.out _).mono ?_
        rintro e Xc ⟨rfl, hb⟩
        have HB := Lib.hid hb
        clear u0 u1 u2 u3 c0 c1 c2 c3 c4 y0 y1 y2 y3 y4 r0 r1 r2 r3 r4 q0 q1 q2 q3 q4 HC0 hb
        go_wp2_with fail
        refine (spoil_any ep sb l1 0 _ (HS.out.eye.below HB.out) HS.out.bytes HS.out.len).mono ?_
        rintro e Xs ⟨rfl, hE, hO⟩
        rw [show wrongL l1 0 = [] from if_pos rfl, show wrongF 0 10 = 10 from if_pos rfl] at hE
        have hO2 := (Off.of_below HB.out (fun k => k = ep)).trans hO (fun _ _ e => e)
        have hA := HS.out.at_ hO2
        have HF := Lib.hid (HS.out.fin hO2 hE)
        clear HB hE hO hO2
        obtain ⟨r0, r1, r2, r3, r4, q0, q1, q2, q3, q4⟩ := op_zero hA.1
        clear hA
        go_wp2_with fail
        exact bodyPost_ret (v := .tuple #[.agg #[.int .i64 0, .string ⟨#[]⟩, .string ⟨#[]⟩, .int .u64 0, .int .i64 0], .bool false]) (by simp [results, Try.results61, go_sem, *]) rfl ⟨rfl, HF.out _ _ _ _ _⟩
    · have hfb : (f1 == (0 : Int)) = false := by simp [hf]
      have e := HQ.out
      rw [opFin_fault hf] at e
      subst e
      have HF := Lib.hid (HS.out.fin (Off.refl _ _) HS.out.eye (.int .i64 0) (.string ⟨#[]⟩) (.string ⟨#[]⟩) (.int .u64 0) (.int .i64 0))
      go_wp2_with fail
      exact bodyPost_ret (v := .tuple #[.agg #[.int .i64 0, .string ⟨#[]⟩, .string ⟨#[]⟩, .int .u64 0, .int .i64 0], .bool false]) (by simp [results, Try.results61, go_sem, *]) rfl ⟨rfl, HF.out⟩
  · go_enter Try.func61, Try.ntmps61
    go_wp2_with fail
    refine HN.out.mono ?_
    rintro e X1 ⟨rfl, hE, hO⟩
    have HE := Lib.hid (And.intro hE hO)
    clear hE hO HN
    go_wp2_with fail
    refine (HU.out _).mono ?_
    rintro e X3 ⟨rfl, hb3⟩
    have HB3 := Lib.hid hb3
    clear hb3
    go_upto_region 3 with fail
    have HS := Lib.hid (Rs.start (k := k) H0.out.1 HE.out.1 HE.out.2 HB3.out H0.out.2.1 H0.out.2.2.1 H0.out.2.2.2.1 H0.out.2.2.2.2.1 H0.out.2.2.2.2.2 hle : Rs w (X3.alloc (.cells #[.bool true, .bool false, .bool true, .bool false] 110)) ep sb l1 f1 X1.heap.size X3.heap.size ⟨k, ⟨#[]⟩, ⟨#[]⟩, 0, 0⟩ true false true)
    clear HE HB3 H0 hw
    generalize X3.alloc _ = X at HS ⊢
    generalize X3.heap.size = g5 at HS ⊢
    generalize X1.heap.size = g4 at HS ⊢
    obtain ⟨u0, u1, u2, u3⟩ := uses_facts HS.out.used
    go_wp2_with fail
    have HT := Lib.hid (eyetext_any ep sb l1 f1 64 _ HS.out.eye HS.out.bytes HS.out.len (by decide))
    have hsub := eyeTxt_sub 64 l1 f1
    have hsz := Nat.le_trans (eyeTxt_size 64 l1 f1) (Nat.le_trans HS.out.len (show 1000000 ≤ maxLen by decide))
    replace HQ := Lib.hid (show q = opFin (raw2 false true k (eyeTxt 64 l1 f1).1 (eyeTxt 64 l1 f1).2.1 (eyeTxt 64 l1 f1).2.2) from HQ.out)
    generalize eyeTxt 64 l1 f1 = r at HT HQ hsub hsz
    have HG := Lib.hid (And.intro hsub hsz)
    clear hsub hsz u0 u1 u2 u3
    refine HT.out.mono ?_
    rintro e X1 ⟨rfl, hE, hO⟩
    have HE := Lib.hid (And.intro hE hO)
    clear hE hO HT
    obtain ⟨t, l1, f1⟩ := r
    simp only [] at HQ
    obtain ⟨c0, c1, c2, c3, c4, y0, y1, y2, y3, y4⟩ := op_facts (HS.out.at_ HE.out.2).2.1
    simp only [] at c0 c1 c2 c3 c4
    go_upto_region 5 with fail
    have hsz := HG.out.2
    replace HS := Lib.hid (HS.out.step (o' := ⟨k, t, ⟨#[]⟩, 0, 0⟩) HE.out.1 HE.out.2 HG.out.1 1 (.string t) rfl ⟨HS.out.ok.kind, hsz, HS.out.ok.upto, HS.out.ok.val, HS.out.ok.limit⟩)
    clear c0 c1 c2 c3 c4 y0 y1 y2 y3 y4 HE HG hsz
    generalize World.setCell _ _ _ = X at HS ⊢
    obtain ⟨u0, u1, u2, u3⟩ := uses_facts HS.out.used
    go_wp2_with fail
    have HT := Lib.hid (eyenum_any ep sb l1 f1 18446744073709551615 _ HS.out.eye HS.out.bytes HS.out.len)
    have hsub := eyeUp_sub 18446744073709551615 l1 f1
    have hsz := eyeUp_le 18446744073709551615 l1 f1
    replace HQ := Lib.hid (show q = opFin (raw4 false k t ⟨#[]⟩ (eyeUp 18446744073709551615 l1 f1).1 (eyeUp 18446744073709551615 l1 f1).2.1 (eyeUp 18446744073709551615 l1 f1).2.2) from HQ.out)
    generalize eyeUp 18446744073709551615 l1 f1 = r at HT HQ hsub hsz
    have HG := Lib.hid (And.intro hsub hsz)
    clear hsub hsz u0 u1 u2 u3
    refine HT.out.mono ?_
    rintro e X1 ⟨rfl, hE, hO⟩
    have HE := Lib.hid (And.intro hE hO)
    clear hE hO HT
    obtain ⟨n, l1, f1⟩ := r
    simp only [] at HQ
    obtain ⟨c0, c1, c2, c3, c4, y0, y1, y2, y3, y4⟩ := op_facts (HS.out.at_ HE.out.2).2.1
    simp only [] at c0 c1 c2 c3 c4
    have hsz : n ≤ 18446744073709551615 := HG.out.2
    have hwn := True.intro
    go_upto_region 9 with fail
    replace HS := Lib.hid (HS.out.step (o' := ⟨k, t, ⟨#[]⟩, n, 0⟩) HE.out.1 HE.out.2 HG.out.1 3 (.int .u64 (n : Int)) rfl ⟨HS.out.ok.kind, HS.out.ok.key, HS.out.ok.upto, (show n < 18446744073709551616 by omega), HS.out.ok.limit⟩)
    clear c0 c1 c2 c3 c4 y0 y1 y2 y3 y4 HE HG hsz hwn
    generalize World.setCell _ _ _ = X at HS ⊢
    replace HQ := Lib.hid (show q = opFin (⟨k, t, ⟨#[]⟩, n, 0⟩, l1, f1) from HQ.out)
    obtain ⟨u0, u1, u2, u3⟩ := uses_facts HS.out.used
    obtain ⟨c0, c1, c2, c3, c4, y0, y1, y2, y3, y4⟩ := op_facts HS.out.box
    obtain ⟨r0, r1, r2, r3, r4, q0, q1, q2, q3, q4⟩ := op_zero HS.out.res
    simp only [] at c0 c1 c2 c3 c4
    go_wp2_with fail
    refine (eyefault_any ep sb l1 f1 _ HS.out.eye).mono ?_
    rintro e Xf ⟨rfl, rfl⟩
    by_cases hf : f1 = 0
    · subst hf
      have HC := Lib.hid (fun W => opcheck_any (⟨k, t, ⟨#[]⟩, n, 0⟩) W HS.out.ok)
      have e := HQ.out
      rcases (show opB (⟨k, t, ⟨#[]⟩, n, 0⟩) = true ∨ opB (⟨k, t, ⟨#[]⟩, n, 0⟩) = false by cases opB (⟨k, t, ⟨#[]⟩, n, 0⟩) <;> simp) with hB | hB
      · rw [opFin_good hB] at e
        subst e
        have HC0 := Lib.hid (fun W => Calls.to (HC.out W) (congrArg (Value.int .i64) (if_pos hB)))
        clear HC hB HQ
        simp only [opCells] at HC0
        go_wp2_with fail
        refine (HC0.out _).mono ?_
        rintro e Xc ⟨rfl, hb⟩
        have hA := HS.out.at_ (Off.of_below hb (fun k => k = ep))
        have HF := Lib.hid (HS.out.fin (Off.of_below hb (fun k => k = ep)) (HS.out.eye.below hb))
        clear u0 u1 u2 u3 c0 c1 c2 c3 c4 y0 y1 y2 y3 y4 r0 r1 r2 r3 r4 q0 q1 q2 q3 q4 HC0 hb
        obtain ⟨c0, c1, c2, c3, c4, y0, y1, y2, y3, y4⟩ := op_facts hA.2.1
        obtain ⟨r0, r1, r2, r3, r4, q0, q1, q2, q3, q4⟩ := op_zero hA.1
        simp only [] at c0 c1 c2 c3 c4
        clear hA
        go_wp2_with fail
        exact bodyPost_ret (v := .tuple #[.agg (opCells (⟨k, t, ⟨#[]⟩, n, 0⟩)), .bool true]) (by simp [results, Try.results61, go_sem, opCells, *]) rfl ⟨rfl, HF.out _ _ _ _ _⟩
      · rw [opFin_bad hB] at e
        subst e
        have HC0 := Lib.hid (fun W => Calls.to (HC.out W) (congrArg (Value.int .i64) (if_neg (by rw [hB]; exact Bool.false_ne_true))))
        clear HC hB HQ
        simp only [opCells] at HC0
        go_wp2_with fail
        refine (HC0.out _).mono ?_
        rintro e Xc ⟨rfl, hb⟩
        have HB := Lib.hid hb
        clear u0 u1 u2 u3 c0 c1 c2 c3 c4 y0 y1 y2 y3 y4 r0 r1 r2 r3 r4 q0 q1 q2 q3 q4 HC0 hb
        go_wp2_with fail
        refine (spoil_any ep sb l1 0 _ (HS.out.eye.below HB.out) HS.out.bytes HS.out.len).mono ?_
        rintro e Xs ⟨rfl, hE, hO⟩
        rw [show wrongL l1 0 = [] from if_pos rfl, show wrongF 0 10 = 10 from if_pos rfl] at hE
        have hO2 := (Off.of_below HB.out (fun k => k = ep)).trans hO (fun _ _ e => e)
        have hA := HS.out.at_ hO2
        have HF := Lib.hid (HS.out.fin hO2 hE)
        clear HB hE hO hO2
        obtain ⟨r0, r1, r2, r3, r4, q0, q1, q2, q3, q4⟩ := op_zero hA.1
        clear hA
        go_wp2_with fail
        exact bodyPost_ret (v := .tuple #[.agg #[.int .i64 0, .string ⟨#[]⟩, .string ⟨#[]⟩, .int .u64 0, .int .i64 0], .bool false]) (by simp [results, Try.results61, go_sem, *]) rfl ⟨rfl, HF.out _ _ _ _ _⟩
    · have hfb : (f1 == (0 : Int)) = false := by simp [hf]
      have e := HQ.out
      rw [opFin_fault hf] at e
      subst e
      have HF := Lib.hid (HS.out.fin (Off.refl _ _) HS.out.eye (.int .i64 0) (.string ⟨#[]⟩) (.string ⟨#[]⟩) (.int .u64 0) (.int .i64 0))
      go_wp2_with fail
      exact bodyPost_ret (v := .tuple #[.agg #[.int .i64 0, .string ⟨#[]⟩, .string ⟨#[]⟩, .int .u64 0, .int .i64 0], .bool false]) (by simp [results, Try.results61, go_sem, *]) rfl ⟨rfl, HF.out⟩
  · go_enter Try.func61, Try.ntmps61
    go_wp2_with fail
    refine HN.out.mono ?_
    rintro e X1 ⟨rfl, hE, hO⟩
    have HE := Lib.hid (And.intro hE hO)
    clear hE hO HN
    go_wp2_with fail
    refine (HU.out _).mono ?_
    rintro e X3 ⟨rfl, hb3⟩
    have HB3 := Lib.hid hb3
    clear hb3
    go_upto_region 3 with fail
    have HS := Lib.hid (Rs.start (k := k) H0.out.1 HE.out.1 HE.out.2 HB3.out H0.out.2.1 H0.out.2.2.1 H0.out.2.2.2.1 H0.out.2.2.2.2.1 H0.out.2.2.2.2.2 hle : Rs w (X3.alloc (.cells #[.bool true, .bool true, .bool false, .bool true] 110)) ep sb l1 f1 X1.heap.size X3.heap.size ⟨k, ⟨#[]⟩, ⟨#[]⟩, 0, 0⟩ true true false)
    clear HE HB3 H0 hw
    generalize X3.alloc _ = X at HS ⊢
    generalize X3.heap.size = g5 at HS ⊢
    generalize X1.heap.size = g4 at HS ⊢
    obtain ⟨u0, u1, u2, u3⟩ := uses_facts HS.out.used
    go_wp2_with fail
    have HT := Lib.hid (eyetext_any ep sb l1 f1 64 _ HS.out.eye HS.out.bytes HS.out.len (by decide))
    have hsub := eyeTxt_sub 64 l1 f1
    have hsz := Nat.le_trans (eyeTxt_size 64 l1 f1) (Nat.le_trans HS.out.len (show 1000000 ≤ maxLen by decide))
    replace HQ := Lib.hid (show q = opFin (raw2 true false k (eyeTxt 64 l1 f1).1 (eyeTxt 64 l1 f1).2.1 (eyeTxt 64 l1 f1).2.2) from HQ.out)
    generalize eyeTxt 64 l1 f1 = r at HT HQ hsub hsz
    have HG := Lib.hid (And.intro hsub hsz)
    clear hsub hsz u0 u1 u2 u3
    refine HT.out.mono ?_
    rintro e X1 ⟨rfl, hE, hO⟩
    have HE := Lib.hid (And.intro hE hO)
    clear hE hO HT
    obtain ⟨t, l1, f1⟩ := r
    simp only [] at HQ
    obtain ⟨c0, c1, c2, c3, c4, y0, y1, y2, y3, y4⟩ := op_facts (HS.out.at_ HE.out.2).2.1
    simp only [] at c0 c1 c2 c3 c4
    go_upto_region 5 with fail
    have hsz := HG.out.2
    replace HS := Lib.hid (HS.out.step (o' := ⟨k, t, ⟨#[]⟩, 0, 0⟩) HE.out.1 HE.out.2 HG.out.1 1 (.string t) rfl ⟨HS.out.ok.kind, hsz, HS.out.ok.upto, HS.out.ok.val, HS.out.ok.limit⟩)
    clear c0 c1 c2 c3 c4 y0 y1 y2 y3 y4 HE HG hsz
    generalize World.setCell _ _ _ = X at HS ⊢
    generalize hkt : t = t0 at HQ HS
    clear hkt t
    obtain ⟨u0, u1, u2, u3⟩ := uses_facts HS.out.used
    go_wp2_with fail
    have HT := Lib.hid (eyetext_any ep sb l1 f1 64 _ HS.out.eye HS.out.bytes HS.out.len (by decide))
    have hsub := eyeTxt_sub 64 l1 f1
    have hsz := Nat.le_trans (eyeTxt_size 64 l1 f1) (Nat.le_trans HS.out.len (show 1000000 ≤ maxLen by decide))
    replace HQ := Lib.hid (show q = opFin (raw3 true false k t0 (eyeTxt 64 l1 f1).1 (eyeTxt 64 l1 f1).2.1 (eyeTxt 64 l1 f1).2.2) from HQ.out)
    generalize eyeTxt 64 l1 f1 = r at HT HQ hsub hsz
    have HG := Lib.hid (And.intro hsub hsz)
    clear hsub hsz u0 u1 u2 u3
    refine HT.out.mono ?_
    rintro e X1 ⟨rfl, hE, hO⟩
    have HE := Lib.hid (And.intro hE hO)
    clear hE hO HT
    obtain ⟨t, l1, f1⟩ := r
    simp only [] at HQ
    obtain ⟨c0, c1, c2, c3, c4, y0, y1, y2, y3, y4⟩ := op_facts (HS.out.at_ HE.out.2).2.1
    simp only [] at c0 c1 c2 c3 c4
    go_upto_region 7 with fail
    have hsz := HG.out.2
    replace HS := Lib.hid (HS.out.step (o' := ⟨k, t0, t, 0, 0⟩) HE.out.1 HE.out.2 HG.out.1 2 (.string t) rfl ⟨HS.out.ok.kind, HS.out.ok.key, hsz, HS.out.ok.val, HS.out.ok.limit⟩)
    clear c0 c1 c2 c3 c4 y0 y1 y2 y3 y4 HE HG hsz
    generalize World.setCell _ _ _ = X at HS ⊢
    obtain ⟨u0, u1, u2, u3⟩ := uses_facts HS.out.used
    go_wp2_with fail
    have HT := Lib.hid (eyenum_any ep sb l1 f1 4096 _ HS.out.eye HS.out.bytes HS.out.len)
    have hsub := eyeUp_sub 4096 l1 f1
    have hsz := eyeUp_le 4096 l1 f1
    replace HQ := Lib.hid (show q = opFin (rawL k t0 t (eyeUp 4096 l1 f1).1 (eyeUp 4096 l1 f1).2.1 (eyeUp 4096 l1 f1).2.2) from HQ.out)
    generalize eyeUp 4096 l1 f1 = r at HT HQ hsub hsz
    have HG := Lib.hid (And.intro hsub hsz)
    clear hsub hsz u0 u1 u2 u3
    refine HT.out.mono ?_
    rintro e X1 ⟨rfl, hE, hO⟩
    have HE := Lib.hid (And.intro hE hO)
    clear hE hO HT
    obtain ⟨n, l1, f1⟩ := r
    simp only [] at HQ
    obtain ⟨c0, c1, c2, c3, c4, y0, y1, y2, y3, y4⟩ := op_facts (HS.out.at_ HE.out.2).2.1
    simp only [] at c0 c1 c2 c3 c4
    have hsz : n ≤ 4096 := HG.out.2
    have hwn := IntWalk.i64_in (n : Int) (by omega)
    go_upto_region 11 with fail
    replace HS := Lib.hid (HS.out.step (o' := ⟨k, t0, t, 0, n⟩) HE.out.1 HE.out.2 HG.out.1 4 (.int .i64 (n : Int)) rfl ⟨HS.out.ok.kind, HS.out.ok.key, HS.out.ok.upto, HS.out.ok.val, (show -9223372036854775808 ≤ (n : Int) ∧ (n : Int) ≤ 9223372036854775807 by omega)⟩)
    clear c0 c1 c2 c3 c4 y0 y1 y2 y3 y4 HE HG hsz hwn
    generalize World.setCell _ _ _ = X at HS ⊢
    replace HQ := Lib.hid (show q = opFin (⟨k, t0, t, 0, n⟩, l1, f1) from HQ.out)
    obtain ⟨u0, u1, u2, u3⟩ := uses_facts HS.out.used
    obtain ⟨c0, c1, c2, c3, c4, y0, y1, y2, y3, y4⟩ := op_facts HS.out.box
    obtain ⟨r0, r1, r2, r3, r4, q0, q1, q2, q3, q4⟩ := op_zero HS.out.res
    simp only [] at c0 c1 c2 c3 c4
    go_wp2_with fail
    refine (eyefault_any ep sb l1 f1 _ HS.out.eye).mono ?_
    rintro e Xf ⟨rfl, rfl⟩
    by_cases hf : f1 = 0
    · subst hf
      have HC := Lib.hid (fun W => opcheck_any (⟨k, t0, t, 0, n⟩) W HS.out.ok)
      have e := HQ.out
      rcases (show opB (⟨k, t0, t, 0, n⟩) = true ∨ opB (⟨k, t0, t, 0, n⟩) = false by cases opB (⟨k, t0, t, 0, n⟩) <;> simp) with hB | hB
      · rw [opFin_good hB] at e
        subst e
        have HC0 := Lib.hid (fun W => Calls.to (HC.out W) (congrArg (Value.int .i64) (if_pos hB)))
        clear HC hB HQ
        simp only [opCells] at HC0
        go_wp2_with fail
        refine (HC0.out _).mono ?_
        rintro e Xc ⟨rfl, hb⟩
        have hA := HS.out.at_ (Off.of_below hb (fun k => k = ep))
        have HF := Lib.hid (HS.out.fin (Off.of_below hb (fun k => k = ep)) (HS.out.eye.below hb))
        clear u0 u1 u2 u3 c0 c1 c2 c3 c4 y0 y1 y2 y3 y4 r0 r1 r2 r3 r4 q0 q1 q2 q3 q4 HC0 hb
        obtain ⟨c0, c1, c2, c3, c4, y0, y1, y2, y3, y4⟩ := op_facts hA.2.1
        obtain ⟨r0, r1, r2, r3, r4, q0, q1, q2, q3, q4⟩ := op_zero hA.1
        simp only [] at c0 c1 c2 c3 c4
        clear hA
        go_wp2_with fail
        exact bodyPost_ret (v := .tuple #[.agg (opCells (⟨k, t0, t, 0, n⟩)), .bool true]) (by simp [results, Try.results61, go_sem, opCells, *]) rfl ⟨rfl, HF.out _ _ _ _ _⟩
      · rw [opFin_bad hB] at e
        subst e
        have HC0 := Lib.hid (fun W => Calls.to (HC.out W) (congrArg (Value.int .i64) (if_neg (by rw [hB]; exact Bool.false_ne_true))))
        clear HC hB HQ
        simp only [opCells] at HC0
        go_wp2_with fail
        refine (HC0.out _).mono ?_
        rintro e Xc ⟨rfl, hb⟩
        have HB := Lib.hid hb
        clear u0 u1 u2 u3 c0 c1 c2 c3 c4 y0 y1 y2 y3 y4 r0 r1 r2 r3 r4 q0 q1 q2 q3 q4 HC0 hb
        go_wp2_with fail
        refine (spoil_any ep sb l1 0 _ (HS.out.eye.below HB.out) HS.out.bytes HS.out.len).mono ?_
        rintro e Xs ⟨rfl, hE, hO⟩
        rw [show wrongL l1 0 = [] from if_pos rfl, show wrongF 0 10 = 10 from if_pos rfl] at hE
        have hO2 := (Off.of_below HB.out (fun k => k = ep)).trans hO (fun _ _ e => e)
        have hA := HS.out.at_ hO2
        have HF := Lib.hid (HS.out.fin hO2 hE)
        clear HB hE hO hO2
        obtain ⟨r0, r1, r2, r3, r4, q0, q1, q2, q3, q4⟩ := op_zero hA.1
        clear hA
        go_wp2_with fail
        exact bodyPost_ret (v := .tuple #[.agg #[.int .i64 0, .string ⟨#[]⟩, .string ⟨#[]⟩, .int .u64 0, .int .i64 0], .bool false]) (by simp [results, Try.results61, go_sem, *]) rfl ⟨rfl, HF.out _ _ _ _ _⟩
    · have hfb : (f1 == (0 : Int)) = false := by simp [hf]
      have e := HQ.out
      rw [opFin_fault hf] at e
      subst e
      have HF := Lib.hid (HS.out.fin (Off.refl _ _) HS.out.eye (.int .i64 0) (.string ⟨#[]⟩) (.string ⟨#[]⟩) (.int .u64 0) (.int .i64 0))
      go_wp2_with fail
      exact bodyPost_ret (v := .tuple #[.agg #[.int .i64 0, .string ⟨#[]⟩, .string ⟨#[]⟩, .int .u64 0, .int .i64 0], .bool false]) (by simp [results, Try.results61, go_sem, *]) rfl ⟨rfl, HF.out⟩

end Go.Proofs.Ythbafbgnclpbpaa
