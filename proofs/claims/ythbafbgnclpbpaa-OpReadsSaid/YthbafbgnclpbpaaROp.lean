/- Contracts of the reference of package op: Read. -/
import Derived.Test.YthbafbgnclpbpaaREye2
import Derived.Test.YthbafbgnclpbpaaOp12
namespace Go.Proofs.Ythbafbgnclpbpaa
open Go.RowKit

/-- What a letter reads. -/
def ltr (st : OpD × List Nat × Int) (c : Nat) : OpD × List Nat × Int :=
  if c = 107 then (⟨st.1.kind, (eyeTxt 64 st.2.1 st.2.2).1, st.1.upto, st.1.val, st.1.limit⟩, (eyeTxt 64 st.2.1 st.2.2).2)
  else if c = 116 then (⟨st.1.kind, st.1.key, (eyeTxt 64 st.2.1 st.2.2).1, st.1.val, st.1.limit⟩, (eyeTxt 64 st.2.1 st.2.2).2)
  else if c = 118 then (⟨st.1.kind, st.1.key, st.1.upto, (eyeUp 18446744073709551615 st.2.1 st.2.2).1, st.1.limit⟩, (eyeUp 18446744073709551615 st.2.1 st.2.2).2)
  else if c = 108 then (⟨st.1.kind, st.1.key, st.1.upto, st.1.val, ((eyeUp 4096 st.2.1 st.2.2).1 : Int)⟩, (eyeUp 4096 st.2.1 st.2.2).2)
  else st
theorem raw_fold {k : Nat} (h : k ≤ 10) (l : List Nat) (f : Int) : raw1 (usesKey (k : Int)) (usesTo (k : Int)) (usesVal (k : Int)) k l f = (tb (usesS (k : Int))).foldl ltr (⟨k, ⟨#[]⟩, ⟨#[]⟩, 0, 0⟩, l, f) := by
  match k, h with
  | 0, _ => rfl
  | 1, _ => rfl
  | 2, _ => rfl
  | 3, _ => rfl
  | 4, _ => rfl
  | 5, _ => rfl
  | 6, _ => rfl
  | 7, _ => rfl
  | 8, _ => rfl
  | 9, _ => rfl
  | 10, _ => rfl

/-- The reference's eye that reads an operation: the eye, the result's variable, the operation's. -/
structure Rr (w X : World) (ep : Nat) (sb : Option Nat) (g4 : Nat) (st : OpD × List Nat × Int) : Prop where
  eye : REye X ep sb st.2.1 st.2.2
  off : Off (fun k => k = ep) w X
  res : X.heap[w.heap.size]? = some (.cells opZ 58 (0, 0))
  box : X.heap[g4]? = some (.cells (opCells st.1) 58 (0, 0))
  n4 : w.heap.size < g4
  epw : ep < w.heap.size
  sbw : ∀ b, sb = some b → b < w.heap.size
  bytes : ∀ x ∈ st.2.1, x < 256
  len : st.2.1.length ≤ 1000000
  ok : OpOk st.1
theorem Rr.step {w X X1 : World} {ep : Nat} {sb : Option Nat} {g4 : Nat} {st st' : OpD × List Nat × Int} (h : Rr w X ep sb g4 st)
    (hE : REye X1 ep sb st'.2.1 st'.2.2) (hO : Off (fun k => k = ep) X X1) (hsub : ∃ k, st'.2.1 = st.2.1.drop k) (i : Nat) (v : Value) (ho : opCells st'.1 = (opCells st.1).setIfInBounds i v) (hok : OpOk st'.1) :
    Rr w (X1.setCell ⟨g4, i, none⟩ v) ep sb g4 st' := by
  have h4 : g4 < X.heap.size := (Array.getElem?_eq_some_iff.1 h.box).1
  have hn4 := h.n4
  have hep := h.epw
  have hs := Off.of_setCell X1 ⟨g4, i, none⟩ v
  refine ⟨hE.off hs (fun e => by simp only [] at e; omega) (fun b hb e => by have := h.sbw b hb; simp only [] at e; omega), (h.off.trans hO (fun _ _ e => e)).trans hs (fun j hj e => by simp only [] at e; omega), ?_, ?_, hn4, hep, h.sbw, drop_lt h.bytes hsub, Nat.le_trans (drop_le hsub) h.len, hok⟩
  · rw [cells_away (by omega)]
    exact (hO.block _ (by omega) (by omega)).trans h.res
  · exact cells_set ((hO.block _ h4 (by omega)).trans h.box) ho
theorem Rr.at_ {w X X1 : World} {ep : Nat} {sb : Option Nat} {g4 : Nat} {st : OpD × List Nat × Int} (h : Rr w X ep sb g4 st) (hO : Off (fun k => k = ep) X X1) :
    X1.heap[w.heap.size]? = some (.cells opZ 58 (0, 0)) ∧ X1.heap[g4]? = some (.cells (opCells st.1) 58 (0, 0)) := by
  have h4 : g4 < X.heap.size := (Array.getElem?_eq_some_iff.1 h.box).1
  have hn4 := h.n4
  have hep := h.epw
  exact ⟨(hO.block _ (by omega) (by omega)).trans h.res, (hO.block _ h4 (by omega)).trans h.box⟩
theorem Rr.fin {w X W : World} {ep : Nat} {sb : Option Nat} {l1 : List Nat} {f1 : Int} {g4 : Nat} {st : OpD × List Nat × Int} (h : Rr w X ep sb g4 st) (hO : Off (fun k => k = ep) X W) (hE : REye W ep sb l1 f1) (v0 v1 v2 v3 v4 : Value) :
    REye (((((W.setCell ⟨w.heap.size, 0, none⟩ v0).setCell ⟨w.heap.size, 1, none⟩ v1).setCell ⟨w.heap.size, 2, none⟩ v2).setCell ⟨w.heap.size, 3, none⟩ v3).setCell ⟨w.heap.size, 4, none⟩ v4) ep sb l1 f1 ∧
    Off (fun k => k = ep) w (((((W.setCell ⟨w.heap.size, 0, none⟩ v0).setCell ⟨w.heap.size, 1, none⟩ v1).setCell ⟨w.heap.size, 2, none⟩ v2).setCell ⟨w.heap.size, 3, none⟩ v3).setCell ⟨w.heap.size, 4, none⟩ v4) := by
  have hep := h.epw
  have k := ((((Off.of_setCell W ⟨w.heap.size, 0, none⟩ v0).trans (Off.of_setCell _ ⟨w.heap.size, 1, none⟩ v1) (fun _ _ e => e)).trans (Off.of_setCell _ ⟨w.heap.size, 2, none⟩ v2) (fun _ _ e => e)).trans (Off.of_setCell _ ⟨w.heap.size, 3, none⟩ v3) (fun _ _ e => e)).trans (Off.of_setCell _ ⟨w.heap.size, 4, none⟩ v4) (fun _ _ e => e)
  exact ⟨hE.off k (fun e => by simp only [] at e; omega) (fun b hb e => by have := h.sbw b hb; simp only [] at e; omega), (h.off.trans hO (fun _ _ e => e)).trans k (fun j hj e => by simp only [] at e; omega)⟩
theorem Rr.start {w X1 X3 : World} {ep : Nat} {sb : Option Nat} {l l1 : List Nat} {f1 : Int} {k : Nat} (hn : (w.alloc (.cells opZ 58)).heap[w.heap.size]? = some (.cells opZ 58 (0, 0)))
    (hE : REye X1 ep sb l1 f1) (hO : Off (fun k => k = ep) (w.alloc (.cells opZ 58)) X1) (hb : Below (X1.alloc (.cells (opCells ⟨k, ⟨#[]⟩, ⟨#[]⟩, 0, 0⟩) 58)).heap.size (X1.alloc (.cells (opCells ⟨k, ⟨#[]⟩, ⟨#[]⟩, 0, 0⟩) 58)) X3)
    (hep : ep < w.heap.size) (hsb : ∀ b, sb = some b → b < w.heap.size) (hx : ∀ x ∈ l, x < 256) (hl : l.length ≤ 1000000) (hsub : ∃ k, l1 = l.drop k) (hk : k ≤ 10) :
    Rr w X3 ep sb X1.heap.size (⟨k, ⟨#[]⟩, ⟨#[]⟩, 0, 0⟩, l1, f1) := by
  have s0 : (w.alloc (.cells opZ 58)).heap.size = w.heap.size + 1 := by simp
  have s1 : (X1.alloc (.cells (opCells ⟨k, ⟨#[]⟩, ⟨#[]⟩, 0, 0⟩) 58)).heap.size = X1.heap.size + 1 := by simp
  have s2 := hO.size
  have s3 := hb.size
  have b1 := below_alloc X1 (.cells (opCells ⟨k, ⟨#[]⟩, ⟨#[]⟩, 0, 0⟩) 58)
  have B := below_of b1 hb
  refine ⟨hE.below B, ?_, ?_, ?_, by omega, hep, hsb, drop_lt hx hsub, Nat.le_trans (drop_le hsub) hl, ⟨by simp only []; omega, Nat.zero_le _, Nat.zero_le _, by simp, by simp⟩⟩
  · exact ((Off.of_below (below_alloc w _) (fun k => k = ep)).trans hO (fun _ _ e => e)).trans (Off.of_below B (fun k => k = ep)) (fun _ _ e => e)
  · exact (B.block _ (by omega)).trans ((hO.block _ (by omega) (by omega)).trans hn)
  · exact (hb.block _ (by omega)).trans (heap_alloc_new X1 _)

set_option maxRecDepth 100000 in
set_option maxHeartbeats 16000000 in
theorem refopread_any (ep : Nat) (sb : Option Nat) (l : List Nat) (f : Int) (w : World) (h : REye w ep sb l f) (hx : ∀ x ∈ l, x < 256) (hl : l.length ≤ 1000000) (hsb : ∀ b, sb = some b → b < w.heap.size) :
    Calls Try.prog 62 #[.pointer (some ⟨ep, 0, none⟩)] w (RTo (.tuple #[.agg (opCells (opRd l f).2.1), .bool (opRd l f).1]) w ep sb (opRd l f).2.2.1 (opRd l f).2.2.2) := by
  have hrd : opRd l f = opFin (raw0 (eyeUp 10 l f)) := rfl
  generalize opRd l f = q at hrd ⊢
  have hb0 := below_alloc w (.cells opZ 58)
  have hn0 : (w.alloc (.cells opZ 58)).heap[w.heap.size]? = some (.cells opZ 58 (0, 0)) := heap_alloc_new w _
  have hnum := rread_any ep sb l f 10 (w.alloc (.cells opZ 58)) (h.below hb0) hx hl (by omega)
  have hsub := eyeUp_sub 10 l f
  have hle := eyeUp_le 10 l f
  generalize eyeUp 10 l f = r at hrd hnum hsub hle
  obtain ⟨k, l1, f1⟩ := r
  simp only [] at hnum hsub hle
  have H0 := Lib.hid (And.intro hn0 (And.intro h.lt (And.intro hsb (And.intro hx (And.intro hl hsub)))))
  have HN := Lib.hid hnum
  have hw : IntKind.i64.wrap (k : Int) = (k : Int) := IntWalk.i64_in _ (by omega)
  replace hrd : q = opFin ((tb (usesS (k : Int))).foldl ltr (⟨k, ⟨#[]⟩, ⟨#[]⟩, 0, 0⟩, l1, f1)) := hrd.trans (congrArg opFin (raw_fold hle l1 f1))
  have HU := Lib.hid (refuses0_any (k : Int))
  have hsz := usesS_size (k : Int)
  generalize usesS (k : Int) = s at HU hsz hrd
  have HQ := Lib.hid hrd
  clear hrd hb0 hn0 hnum hsub h hsb hx hl
  simp only [opZ] at HN
  go_enter Try.func62, Try.ntmps62
  go_wp2_with fail
  refine HN.out.mono ?_
  rintro e X1 ⟨rfl, hE, hO⟩
  have HE := Lib.hid (And.intro hE hO)
  clear hE hO HN
  go_wp2_with fail
  refine (HU.out _).mono ?_
  rintro e X3 ⟨rfl, hb3⟩
  have HR := Lib.hid (Rr.start (k := k) H0.out.1 HE.out.1 HE.out.2 hb3 H0.out.2.1 H0.out.2.2.1 H0.out.2.2.2.1 H0.out.2.2.2.2.1 H0.out.2.2.2.2.2 hle)
  clear HE H0 hw hb3
  generalize X1.heap.size = g4 at HR ⊢
  have hs2 : s.size ≤ 9223372036854775807 := by omega
  have hl := tb_length s
  generalize hst0 : ((⟨k, ⟨#[]⟩, ⟨#[]⟩, 0, 0⟩, l1, f1) : OpD × List Nat × Int) = st0 at HR HQ
  clear hst0
  go_wp2_with fail
  go_loopw [6] (fun i wr => ∃ (j : Nat) (st : OpD × List Nat × Int), i = .int .i64 j ∧ Hid (j ≤ s.size ∧ ((tb s).take j).foldl ltr st0 = st ∧ Rr w wr ep sb g4 st)) (fun i _ => s.size - (intOf i).toNat)
  case atStart => exact ⟨0, st0, rfl, Nat.zero_le _, rfl, HR.out⟩
  case round =>
    obtain ⟨j, st, rfl, H⟩ := hrel
    by_cases hlt : j < s.size
    · have hat : (tb s)[j]'(by omega) = s[j].toNat := by simp [tb]; rfl
      have hT : ((tb s).take (j + 1)).foldl ltr st0 = ltr st s[j].toNat := by
        rw [List.take_succ_eq_append_getElem (by omega), List.foldl_append, H.out.2.1, hat]; rfl
      have HT := Lib.hid hT
      clear hT hat
      obtain ⟨o, l2, f2⟩ := st
      obtain ⟨kd, key, upto, val, limit⟩ := o
      generalize hcc : s[j].toNat = c at HT
      have HCC := Lib.hid hcc
      by_cases h1 : c = 107
      · have t1 : ((s[j].toNat : Int) == 107) = true := by rw [beq_iff_eq]; omega
        have HL := Lib.hid (HT.out.trans (show ltr _ c = _ from if_pos h1))
        clear h1 hcc
        have HCt := Lib.hid (rtext_any ep sb l2 f2 64 _ H.out.2.2.eye H.out.2.2.bytes H.out.2.2.len (by decide))
        have hsub := eyeTxt_sub 64 l2 f2
        have hsz2 := Nat.le_trans (eyeTxt_size 64 l2 f2) (Nat.le_trans H.out.2.2.len (show 1000000 ≤ maxLen by decide))
        simp only [] at HCt HL hsub
        generalize eyeTxt 64 l2 f2 = r at HCt HL hsub hsz2
        have HG := Lib.hid (And.intro hsub hsz2)
        clear hsub hsz2
        obtain ⟨t, l3, f3⟩ := r
        simp only [] at HCt HL
        have hwn := True.intro
        go_wp2_with fail
        refine HCt.out.mono ?_
        rintro e X1 ⟨rfl, hE, hO⟩
        obtain ⟨c0, c1, c2, c3, c4, y0, y1, y2, y3, y4⟩ := op_facts (H.out.2.2.at_ hO).2
        simp only [] at c0 c1 c2 c3 c4
        have HS := Lib.hid (H.out.2.2.step (st' := (⟨kd, t, upto, val, limit⟩, l3, f3)) hE hO HG.out.1 1 (.string t) rfl ⟨H.out.2.2.ok.kind, HG.out.2, H.out.2.2.ok.upto, H.out.2.2.ok.val, H.out.2.2.ok.limit⟩)
        clear hE hO HCt
        go_wp2_with fail
        go_roundw
        case rel => exact ⟨j + 1, _, by go_num, by omega, HL.out, HS.out⟩
        case measure => simp [intOf]; omega
      · have t1 : ((s[j].toNat : Int) == 107) = false := by rw [beq_eq_false_iff_ne]; omega
        by_cases h2 : c = 116
        · have t2 : ((s[j].toNat : Int) == 116) = true := by rw [beq_iff_eq]; omega
          have HL := Lib.hid (HT.out.trans (show ltr _ c = _ from (if_neg h1).trans (if_pos h2)))
          clear h1 h2 hcc
          have HCt := Lib.hid (rtext_any ep sb l2 f2 64 _ H.out.2.2.eye H.out.2.2.bytes H.out.2.2.len (by decide))
          have hsub := eyeTxt_sub 64 l2 f2
          have hsz2 := Nat.le_trans (eyeTxt_size 64 l2 f2) (Nat.le_trans H.out.2.2.len (show 1000000 ≤ maxLen by decide))
          simp only [] at HCt HL hsub
          generalize eyeTxt 64 l2 f2 = r at HCt HL hsub hsz2
          have HG := Lib.hid (And.intro hsub hsz2)
          clear hsub hsz2
          obtain ⟨t, l3, f3⟩ := r
          simp only [] at HCt HL
          have hwn := True.intro
          go_wp2_with fail
          refine HCt.out.mono ?_
          rintro e X1 ⟨rfl, hE, hO⟩
          obtain ⟨c0, c1, c2, c3, c4, y0, y1, y2, y3, y4⟩ := op_facts (H.out.2.2.at_ hO).2
          simp only [] at c0 c1 c2 c3 c4
          have HS := Lib.hid (H.out.2.2.step (st' := (⟨kd, key, t, val, limit⟩, l3, f3)) hE hO HG.out.1 2 (.string t) rfl ⟨H.out.2.2.ok.kind, H.out.2.2.ok.key, HG.out.2, H.out.2.2.ok.val, H.out.2.2.ok.limit⟩)
          clear hE hO HCt
          go_wp2_with fail
          go_roundw
          case rel => exact ⟨j + 1, _, by go_num, by omega, HL.out, HS.out⟩
          case measure => simp [intOf]; omega
        · have t2 : ((s[j].toNat : Int) == 116) = false := by rw [beq_eq_false_iff_ne]; omega
          by_cases h3 : c = 118
          · have t3 : ((s[j].toNat : Int) == 118) = true := by rw [beq_iff_eq]; omega
            have HL := Lib.hid (HT.out.trans (show ltr _ c = _ from (if_neg h1).trans ((if_neg h2).trans (if_pos h3))))
            clear h1 h2 h3 hcc
            have HCt := Lib.hid (rread_any ep sb l2 f2 18446744073709551615 _ H.out.2.2.eye H.out.2.2.bytes H.out.2.2.len (by decide))
            have hsub := eyeUp_sub 18446744073709551615 l2 f2
            have hsz2 := eyeUp_le 18446744073709551615 l2 f2
            simp only [] at HCt HL hsub
            generalize eyeUp 18446744073709551615 l2 f2 = r at HCt HL hsub hsz2
            have HG := Lib.hid (And.intro hsub hsz2)
            clear hsub hsz2
            obtain ⟨t, l3, f3⟩ := r
            simp only [] at HCt HL
            have hwn := True.intro
            go_wp2_with fail
            refine HCt.out.mono ?_
            rintro e X1 ⟨rfl, hE, hO⟩
            obtain ⟨c0, c1, c2, c3, c4, y0, y1, y2, y3, y4⟩ := op_facts (H.out.2.2.at_ hO).2
            simp only [] at c0 c1 c2 c3 c4
            have HS := Lib.hid (H.out.2.2.step (st' := (⟨kd, key, upto, t, limit⟩, l3, f3)) hE hO HG.out.1 3 (.int .u64 (t : Int)) rfl ⟨H.out.2.2.ok.kind, H.out.2.2.ok.key, H.out.2.2.ok.upto, (show t < 18446744073709551616 by have : t ≤ 18446744073709551615 := HG.out.2; omega), H.out.2.2.ok.limit⟩)
            clear hE hO HCt
            go_wp2_with fail
            go_roundw
            case rel => exact ⟨j + 1, _, by go_num, by omega, HL.out, HS.out⟩
            case measure => simp [intOf]; omega
          · have t3 : ((s[j].toNat : Int) == 118) = false := by rw [beq_eq_false_iff_ne]; omega
            by_cases h4 : c = 108
            · have t4 : ((s[j].toNat : Int) == 108) = true := by rw [beq_iff_eq]; omega
              have HL := Lib.hid (HT.out.trans (show ltr _ c = _ from (if_neg h1).trans ((if_neg h2).trans ((if_neg h3).trans (if_pos h4)))))
              clear h1 h2 h3 h4 hcc
              have HCt := Lib.hid (rread_any ep sb l2 f2 4096 _ H.out.2.2.eye H.out.2.2.bytes H.out.2.2.len (by decide))
              have hsub := eyeUp_sub 4096 l2 f2
              have hsz2 := eyeUp_le 4096 l2 f2
              simp only [] at HCt HL hsub
              generalize eyeUp 4096 l2 f2 = r at HCt HL hsub hsz2
              have HG := Lib.hid (And.intro hsub hsz2)
              clear hsub hsz2
              obtain ⟨t, l3, f3⟩ := r
              simp only [] at HCt HL
              have hwn := IntWalk.i64_in (t : Int) (by have : t ≤ 4096 := HG.out.2; omega)
              go_wp2_with fail
              refine HCt.out.mono ?_
              rintro e X1 ⟨rfl, hE, hO⟩
              obtain ⟨c0, c1, c2, c3, c4, y0, y1, y2, y3, y4⟩ := op_facts (H.out.2.2.at_ hO).2
              simp only [] at c0 c1 c2 c3 c4
              have HS := Lib.hid (H.out.2.2.step (st' := (⟨kd, key, upto, val, (t : Int)⟩, l3, f3)) hE hO HG.out.1 4 (.int .i64 (t : Int)) rfl ⟨H.out.2.2.ok.kind, H.out.2.2.ok.key, H.out.2.2.ok.upto, H.out.2.2.ok.val, (show -9223372036854775808 ≤ (t : Int) ∧ (t : Int) ≤ 9223372036854775807 by have : t ≤ 4096 := HG.out.2; omega)⟩)
              clear hE hO HCt
              go_wp2_with fail
              go_roundw
              case rel => exact ⟨j + 1, _, by go_num, by omega, HL.out, HS.out⟩
              case measure => simp [intOf]; omega
            · have t4 : ((s[j].toNat : Int) == 108) = false := by rw [beq_eq_false_iff_ne]; omega
              have HL := Lib.hid (HT.out.trans (show ltr _ c = _ from (if_neg h1).trans ((if_neg h2).trans ((if_neg h3).trans (if_neg h4)))))
              clear h1 h2 h3 h4 hcc
              go_wp2_with fail
              go_roundw
              case rel => exact ⟨j + 1, _, by go_num, by omega, HL.out, H.out.2.2⟩
              case measure => simp [intOf]; omega
    · have hj : j = s.size := by have := H.out.1; omega
      have hq : q = opFin st := by
        have h1 := H.out.2.1
        rw [hj, List.take_of_length_le (by omega)] at h1
        rw [← h1]; exact HQ.out
      have HS := Lib.hid H.out.2.2
      have HZ := Lib.hid hq
      clear H HQ hq HR
      obtain ⟨o, l2, f2⟩ := st
      obtain ⟨kd, key, upto, val, limit⟩ := o
      obtain ⟨hne, A, c, hbk, hcl, hrr⟩ := HS.out.eye
      obtain ⟨a0, a1, z0, z1⟩ := reye_set hbk
      obtain ⟨c0, c1, c2, c3, c4, y0, y1, y2, y3, y4⟩ := op_facts HS.out.box
      obtain ⟨r0, r1, r2, r3, r4, p0, p1, p2, p3, p4⟩ := op_zero HS.out.res
      simp only [] at a0 a1 z0 z1 c0 c1 c2 c3 c4
      clear hne hbk hcl hrr
      by_cases hf : f2 = 0
      · subst hf
        have HC := Lib.hid (fun W => refsound16_any ⟨kd, key, upto, val, limit⟩ W HS.out.ok)
        have e := HZ.out
        rcases (show opB ⟨kd, key, upto, val, limit⟩ = true ∨ opB ⟨kd, key, upto, val, limit⟩ = false by cases opB ⟨kd, key, upto, val, limit⟩ <;> simp) with hB | hB
        · rw [opFin_good hB] at e
          subst e
          have HC0 := Lib.hid (fun W => Calls.to (HC.out W) (congrArg Value.bool hB))
          clear HC hB HZ
          simp only [opCells] at HC0
          go_wp2_with fail
          refine (HC0.out _).mono ?_
          rintro e Xc ⟨rfl, hb⟩
          have hA := HS.out.at_ (Off.of_below hb (fun k => k = ep))
          have hEy := HS.out.eye.below hb
          have HF := Lib.hid (HS.out.fin (Off.of_below hb (fun k => k = ep)) hEy)
          clear a0 a1 z0 z1 c0 c1 c2 c3 c4 y0 y1 y2 y3 y4 r0 r1 r2 r3 r4 p0 p1 p2 p3 p4 HC0 hb
          obtain ⟨hne, A, c, hbk, hcl, hrr⟩ := hEy
          obtain ⟨a0, a1, z0, z1⟩ := reye_set hbk
          obtain ⟨c0, c1, c2, c3, c4, y0, y1, y2, y3, y4⟩ := op_facts hA.2
          obtain ⟨r0, r1, r2, r3, r4, p0, p1, p2, p3, p4⟩ := op_zero hA.1
          simp only [] at a0 a1 z0 z1 c0 c1 c2 c3 c4
          clear hA hne hbk hcl hrr
          go_wp2_with fail
          exact bodyPost_ret (v := .tuple #[.agg #[.int .i64 kd, .string key, .string upto, .int .u64 (val : Int), .int .i64 limit], .bool true]) (by simp [results, Try.results62, go_sem, opCells, *]) rfl ⟨rfl, HF.out _ _ _ _ _⟩
        · rw [opFin_bad hB] at e
          subst e
          have HC0 := Lib.hid (fun W => Calls.to (HC.out W) (congrArg Value.bool hB))
          clear HC hB HZ
          simp only [opCells] at HC0
          go_wp2_with fail
          refine (HC0.out _).mono ?_
          rintro e Xc ⟨rfl, hb⟩
          have hEy := HS.out.eye.below hb
          clear a0 a1 z0 z1 c0 c1 c2 c3 c4 y0 y1 y2 y3 y4 r0 r1 r2 r3 r4 p0 p1 p2 p3 p4 HC0
          obtain ⟨hne, A, c, hbk, hcl, hrr⟩ := id hEy
          obtain ⟨a0, a1, z0, z1⟩ := reye_set hbk
          have hN := reye_nil hne hbk 10
          have b0 : (Xc.setCell ⟨ep, 1, none⟩ (.int .i64 10)).cell? ⟨ep, 0, none⟩ = some (.slice A l2.length c) := by simp [World.cell?, World.setCell, Array.getElem?_modify, hbk]
          have b1 : (Xc.setCell ⟨ep, 1, none⟩ (.int .i64 10)).frozen? ⟨ep, 0, none⟩ = false := by simp [World.frozen?, World.setCell, Array.getElem?_modify, hbk]
          have hO2 := (Off.of_below hb (fun k => k = ep)).trans hN.2 (fun _ _ e => e)
          have hA := HS.out.at_ hO2
          have HF := Lib.hid (HS.out.fin hO2 hN.1)
          have HN1 := Lib.hid (And.intro hN.1 hA.1)
          simp only [] at a0 a1 z0 z1 b0 b1
          clear hEy hne hbk hcl hrr hN hO2 hA hb
          go_upto_region 18 with fail
          generalize (Xc.setCell _ _).setCell _ _ = Xd at HF HN1 ⊢
          clear a0 a1 z0 z1 b0 b1
          obtain ⟨hne, A, c, hbk, hcl, hrr⟩ := HN1.out.1
          obtain ⟨a0, a1, z0, z1⟩ := reye_set hbk
          obtain ⟨r0, r1, r2, r3, r4, p0, p1, p2, p3, p4⟩ := op_zero HN1.out.2
          clear hne hbk hcl hrr HN1
          go_wp2_with fail
          exact bodyPost_ret (v := .tuple #[.agg #[.int .i64 0, .string ⟨#[]⟩, .string ⟨#[]⟩, .int .u64 0, .int .i64 0], .bool false]) (by simp [results, Try.results62, go_sem, *]) rfl ⟨rfl, HF.out _ _ _ _ _⟩
      · have hfb : (f2 == (0 : Int)) = false := by simp [hf]
        have e := HZ.out
        rw [opFin_fault hf] at e
        subst e
        have HF := Lib.hid (HS.out.fin (Off.refl _ _) HS.out.eye)
        clear HZ
        go_wp2_with fail
        exact bodyPost_ret (v := .tuple #[.agg #[.int .i64 0, .string ⟨#[]⟩, .string ⟨#[]⟩, .int .u64 0, .int .i64 0], .bool false]) (by simp [results, Try.results62, go_sem, *]) rfl ⟨rfl, HF.out _ _ _ _ _⟩

end Go.Proofs.Ythbafbgnclpbpaa
