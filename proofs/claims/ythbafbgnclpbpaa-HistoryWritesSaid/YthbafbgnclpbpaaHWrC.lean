/- Contract of package history: call of an operation; both. -/
import Derived.Test.YthbafbgnclpbpaaZHWr4
import Derived.Test.YthbafbgnclpbpaaHistB
namespace Go.Proofs.Ythbafbgnclpbpaa
open Go.RowKit

set_option maxRecDepth 100000 in
set_option maxHeartbeats 16000000 in
theorem hcall_yes (ep : Nat) (sb : Option Nat) (x : CallD) (R : List Nat) (w : World) (h : EyeAt w ep sb (callBytes x ++ R) 0) (hsnd : sndC x = true) (hok : CallOk x) (hsm : Small x) (hby : ∀ b ∈ callBytes x ++ R, b < 256) (hl : (callBytes x ++ R).length ≤ 1000000) (hsb : ∀ b, sb = some b → b < w.heap.size) (hob : opB x.op = true) :
    Calls Try.prog 99 #[.pointer (some ⟨ep, 0, none⟩)] w (fun e w' => ∃ pa pc, e = .returned (.agg (callCells (plainC x pa pc))) ∧ EyeAt w' ep sb R 0 ∧ Off (fun k => k = ep) w w' ∧ w'.ownsRow w.heap.size 32 2 (.slice pa x.ans.pairs.length pc) x.ans.pairs.length (prRow x.ans.pairs)) := by
  have hnn := sndC_nums hsnd
  have hth := hnn.1.2
  have hs1 := hsm.since
  have hs2 := hsm.done
  have hs3 := hsm.upto
  have hs4 := hsm.steps
  have HAZ := Lib.hid (fun q => ansB_eq (hnn.2.2.2.2.2.1 q))
  have HAS := Lib.hid hnn.2.2.2.2.2.2
  have HOO := Lib.hid hok.op
  have HAO := Lib.hid hok.ans
  obtain ⟨tn, htn⟩ := Int.eq_ofNat_of_zero_le hnn.1.1
  obtain ⟨sn, hsn⟩ := Int.eq_ofNat_of_zero_le hnn.2.1
  obtain ⟨en, hen⟩ := Int.eq_ofNat_of_zero_le hnn.2.2.1
  obtain ⟨dn, hdn⟩ := Int.eq_ofNat_of_zero_le (show 0 ≤ x.done + 1 by have := hnn.2.2.2.1; omega)
  obtain ⟨un, hun⟩ := Int.eq_ofNat_of_zero_le (show 0 ≤ x.upto + 1 by have := hnn.2.2.2.2.1; omega)
  have hepl := h.lt
  have hbx : (fun b => True) ep := trivial
  obtain ⟨thread, op, since, done, upto, steps, short, ans, pa0, pc0⟩ := x
  simp only [] at htn hsn hen hdn hun hth hs1 hs2 hs3 hs4 HAZ HAS HOO HAO hob
  subst htn hsn hen
  obtain rfl : done = (dn : Int) - 1 := by omega
  obtain rfl : upto = (un : Int) - 1 := by omega
  have hcb : callBytes ⟨(tn : Int), op, (sn : Int), (dn : Int) - 1, (un : Int) - 1, (en : Int), short, ans, pa0, pc0⟩ ++ R = dig tn ++ (dig sn ++ (dig dn ++ (dig un ++ (dig en ++ (dig (bits1 short) ++ (dig (bits1 (opB op)) ++ (callOp ⟨(tn : Int), op, (sn : Int), (dn : Int) - 1, (un : Int) - 1, (en : Int), short, ans, pa0, pc0⟩ ++ (callAns ⟨(tn : Int), op, (sn : Int), (dn : Int) - 1, (un : Int) - 1, (en : Int), short, ans, pa0, pc0⟩ ++ R)))))))) := by
    have h1 : dig (bits1 short) = [bits1 short] := dig_small (by cases short <;> decide)
    have h2 : dig (bits1 (opB op)) = [bits1 (opB op)] := dig_small (by cases opB op <;> decide)
    have e1 : ((dn : Int) - 1 + 1).toNat = dn := by omega
    have e2 : ((un : Int) - 1 + 1).toNat = un := by omega
    rw [h1, h2]
    unfold callBytes callHead
    simp only [Int.toNat_natCast, e1, e2, List.append_assoc, List.cons_append, List.nil_append]
  rw [hcb] at h hby hl
  have HCO := Lib.hid (show callOp ⟨(tn : Int), op, (sn : Int), (dn : Int) - 1, (un : Int) - 1, (en : Int), short, ans, pa0, pc0⟩ = if opB op = true then opBytes op else [] from rfl)
  have HCA := Lib.hid (show callAns ⟨(tn : Int), op, (sn : Int), (dn : Int) - 1, (un : Int) - 1, (en : Int), short, ans, pa0, pc0⟩ = if (un : Int) - 1 = -1 then [] else ansBytes ans from rfl)
  generalize callOp ⟨(tn : Int), op, (sn : Int), (dn : Int) - 1, (un : Int) - 1, (en : Int), short, ans, pa0, pc0⟩ = CO at h hby hl HCO
  generalize callAns ⟨(tn : Int), op, (sn : Int), (dn : Int) - 1, (un : Int) - 1, (en : Int), short, ans, pa0, pc0⟩ = CA at h hby hl HCA
  clear hcb hnn hsnd hok hsm hbx
  obtain ⟨l7, hl7⟩ : ∃ l, l = CO ++ (CA ++ R) := ⟨_, rfl⟩
  obtain ⟨l6, hl6⟩ : ∃ l, l = dig (bits1 (opB op)) ++ l7 := ⟨_, rfl⟩
  obtain ⟨l5, hl5⟩ : ∃ l, l = dig (bits1 short) ++ l6 := ⟨_, rfl⟩
  obtain ⟨l4, hl4⟩ : ∃ l, l = dig en ++ l5 := ⟨_, rfl⟩
  obtain ⟨l3, hl3⟩ : ∃ l, l = dig un ++ l4 := ⟨_, rfl⟩
  obtain ⟨l2, hl2⟩ : ∃ l, l = dig dn ++ l3 := ⟨_, rfl⟩
  obtain ⟨l1, hl1⟩ : ∃ l, l = dig sn ++ l2 := ⟨_, rfl⟩
  rw [← hl7, ← hl6, ← hl5, ← hl4, ← hl3, ← hl2, ← hl1] at h hby hl
  have B1 : (∀ b ∈ l1, b < 256) ∧ l1.length ≤ 1000000 := ⟨fun b hb => hby b (List.mem_append_right _ hb), by rw [List.length_append] at hl; omega⟩
  have B2 : (∀ b ∈ l2, b < 256) ∧ l2.length ≤ 1000000 := ⟨fun b hb => B1.1 b (by rw [hl1]; exact List.mem_append_right _ hb), by have := B1.2; rw [hl1, List.length_append] at this; omega⟩
  have B3 : (∀ b ∈ l3, b < 256) ∧ l3.length ≤ 1000000 := ⟨fun b hb => B2.1 b (by rw [hl2]; exact List.mem_append_right _ hb), by have := B2.2; rw [hl2, List.length_append] at this; omega⟩
  have B4 : (∀ b ∈ l4, b < 256) ∧ l4.length ≤ 1000000 := ⟨fun b hb => B3.1 b (by rw [hl3]; exact List.mem_append_right _ hb), by have := B3.2; rw [hl3, List.length_append] at this; omega⟩
  have B5 : (∀ b ∈ l5, b < 256) ∧ l5.length ≤ 1000000 := ⟨fun b hb => B4.1 b (by rw [hl4]; exact List.mem_append_right _ hb), by have := B4.2; rw [hl4, List.length_append] at this; omega⟩
  have B6 : (∀ b ∈ l6, b < 256) ∧ l6.length ≤ 1000000 := ⟨fun b hb => B5.1 b (by rw [hl5]; exact List.mem_append_right _ hb), by have := B5.2; rw [hl5, List.length_append] at this; omega⟩
  have B7 : (∀ b ∈ l7, b < 256) ∧ l7.length ≤ 1000000 := ⟨fun b hb => B6.1 b (by rw [hl6]; exact List.mem_append_right _ hb), by have := B6.2; rw [hl6, List.length_append] at this; omega⟩
  have K1 := Lib.hid (fun g W hE hg => call1_any g ep sb tn 15 l1 W hE hg hby hl (by omega) (by omega))
  rw [hl1] at B1
  have K2 := Lib.hid (fun g W (hE : EyeAt W ep sb l1 0) hg => call1_any g ep sb sn 1099511627776 l2 W (by rw [← hl1]; exact hE) hg B1.1 B1.2 (by omega) (by omega))
  rw [hl2] at B2
  have K3 := Lib.hid (fun g W (hE : EyeAt W ep sb l2 0) hg => call1_any g ep sb dn 1099511627776 l3 W (by rw [← hl2]; exact hE) hg B2.1 B2.2 (by omega) (by omega))
  rw [hl3] at B3
  have K4 := Lib.hid (fun g W (hE : EyeAt W ep sb l3 0) hg => call1_any g ep sb un 1099511627776 l4 W (by rw [← hl3]; exact hE) hg B3.1 B3.2 (by omega) (by omega))
  rw [hl4] at B4
  have K5 := Lib.hid (fun g W (hE : EyeAt W ep sb l4 0) hg => call1_any g ep sb en 1099511627776 l5 W (by rw [← hl4]; exact hE) hg B4.1 B4.2 (by omega) (by omega))
  have K6 := Lib.hid (fun W (hE : EyeAt W ep sb l5 0) => truth_any ep sb short l6 W (by rw [← hl5]; exact hE) (by rw [← hl5]; exact B5.1) (by rw [← hl5]; exact B5.2))
  have K7 := Lib.hid (fun W (hE : EyeAt W ep sb l6 0) => truth_any ep sb (opB op) l7 W (by rw [← hl6]; exact hE) (by rw [← hl6]; exact B6.1) (by rw [← hl6]; exact B6.2))
  have HL7 := Lib.hid (And.intro hl7 B7)
  have HS := Lib.hid (Rc.start h hsb [.int .i64 0, .int .i64 0, .string ⟨#[]⟩, .string ⟨#[]⟩, .int .u64 0, .int .i64 0, .int .i64 0, .int .i64 0, .int .i64 0, .int .i64 0, .bool false, .int .i64 0, .string ⟨#[]⟩, .int .u64 0, .slice none 0 0])
  have hwd : wrap64 ((dn : Int) - 1) = (dn : Int) - 1 := by unfold wrap64; omega
  have hwu : wrap64 ((un : Int) - 1) = (un : Int) - 1 := by unfold wrap64; omega
  have HRR := Lib.hid (fun (W : World) (hW : EyeAt W ep sb l7 0) (hs : ∀ b, sb = some b → b < W.heap.size) (q : opB op = true) => show Calls Try.prog 61 #[.pointer (some ⟨ep, 0, none⟩)] W (EyeTo (.tuple #[.agg (opCells (plainO op)), .bool true]) W ep sb (CA ++ R) 0) from by
    have hco := HCO.out
    rw [if_pos q] at hco
    have e : l7 = opBytes op ++ (CA ++ R) := by rw [HL7.out.1, hco]
    have h9 := opread_any ep sb l7 0 W hW HL7.out.2.1 HL7.out.2.2 hs
    rw [e, opRd_good q HOO.out] at h9
    exact h9)
  have HRA := Lib.hid (fun (W : World) (hW : EyeAt W ep sb (CA ++ R) 0) (hs : ∀ b, sb = some b → b < W.heap.size) (hb : (∀ b ∈ CA ++ R, b < 256) ∧ (CA ++ R).length ≤ 1000000) (q : (un : Int) - 1 ≠ -1) => show Calls Try.prog 50 #[.pointer (some ⟨ep, 0, none⟩)] W (AnsTo W ep sb (true, ans, R, 0)) from by
    have hca := HCA.out
    rw [if_neg q] at hca
    have h9 := ansread_any ep sb (CA ++ R) 0 W hW hb.1 hb.2 hs
    rw [hca, ansRd_good (HAS.out q) HAO.out] at h9
    exact h9)
  have HBR := Lib.hid (show (∀ b ∈ CA ++ R, b < 256) ∧ (CA ++ R).length ≤ 1000000 from ⟨fun b hb => B7.1 b (by rw [hl7]; exact List.mem_append_right _ hb), by have := B7.2; rw [hl7, List.length_append] at this; omega⟩)
  have HSB := Lib.hid (fun (W : World) (hle : w.heap.size ≤ W.heap.size) b hb => Nat.lt_of_lt_of_le (hsb b hb) hle)
  clear h hby hl hsb hs1 hs4 hepl hl1 hl2 hl3 hl4 hl5 hl6 hl7 B1 B2 B3 B4 B5 B6 B7
  go_enter Try.func99, Try.ntmps99
  go_upto_region 1 with fail
  generalize (w.alloc _).alloc _ = X at HS ⊢
  have xp := HS.out.pcell
  have x0 := (HS.out.cell 0 (by simp))
  have f0 := heap_frozen HS.out.res 0
  have x1 := (HS.out.cell 1 (by simp))
  have f1 := heap_frozen HS.out.res 1
  have x2 := (HS.out.cell 2 (by simp))
  have f2 := heap_frozen HS.out.res 2
  have x3 := (HS.out.cell 3 (by simp))
  have f3 := heap_frozen HS.out.res 3
  have x4 := (HS.out.cell 4 (by simp))
  have f4 := heap_frozen HS.out.res 4
  have x5 := (HS.out.cell 5 (by simp))
  have f5 := heap_frozen HS.out.res 5
  have x6 := (HS.out.cell 6 (by simp))
  have f6 := heap_frozen HS.out.res 6
  have x7 := (HS.out.cell 7 (by simp))
  have f7 := heap_frozen HS.out.res 7
  have x8 := (HS.out.cell 8 (by simp))
  have f8 := heap_frozen HS.out.res 8
  have x9 := (HS.out.cell 9 (by simp))
  have f9 := heap_frozen HS.out.res 9
  have x10 := (HS.out.cell 10 (by simp))
  have f10 := heap_frozen HS.out.res 10
  have x11 := (HS.out.cell 11 (by simp))
  have f11 := heap_frozen HS.out.res 11
  have x12 := (HS.out.cell 12 (by simp))
  have f12 := heap_frozen HS.out.res 12
  have x13 := (HS.out.cell 13 (by simp))
  have f13 := heap_frozen HS.out.res 13
  have x14 := (HS.out.cell 14 (by simp))
  have f14 := heap_frozen HS.out.res 14
  (try simp only [List.getElem_cons_zero, List.getElem_cons_succ] at x0 x1 x2 x3 x4 x5 x6 x7 x8 x9 x10 x11 x12 x13 x14)
  go_wp2_with fail
  refine (K1.out w.heap.size _ HS.out.eye HS.out.pcell).mono ?_
  rintro e X ⟨rfl, hE, hO⟩
  clear xp x0 x1 x2 x3 x4 x5 x6 x7 x8 x9 x10 x11 x12 x13 x14 f0 f1 f2 f3 f4 f5 f6 f7 f8 f9 f10 f11 f12 f13 f14
  replace HS := Lib.hid (HS.out.eye_ hE hO)
  clear hE hO
  have xp := HS.out.pcell
  have x0 := (HS.out.cell 0 (by simp))
  have f0 := heap_frozen HS.out.res 0
  have x1 := (HS.out.cell 1 (by simp))
  have f1 := heap_frozen HS.out.res 1
  have x2 := (HS.out.cell 2 (by simp))
  have f2 := heap_frozen HS.out.res 2
  have x3 := (HS.out.cell 3 (by simp))
  have f3 := heap_frozen HS.out.res 3
  have x4 := (HS.out.cell 4 (by simp))
  have f4 := heap_frozen HS.out.res 4
  have x5 := (HS.out.cell 5 (by simp))
  have f5 := heap_frozen HS.out.res 5
  have x6 := (HS.out.cell 6 (by simp))
  have f6 := heap_frozen HS.out.res 6
  have x7 := (HS.out.cell 7 (by simp))
  have f7 := heap_frozen HS.out.res 7
  have x8 := (HS.out.cell 8 (by simp))
  have f8 := heap_frozen HS.out.res 8
  have x9 := (HS.out.cell 9 (by simp))
  have f9 := heap_frozen HS.out.res 9
  have x10 := (HS.out.cell 10 (by simp))
  have f10 := heap_frozen HS.out.res 10
  have x11 := (HS.out.cell 11 (by simp))
  have f11 := heap_frozen HS.out.res 11
  have x12 := (HS.out.cell 12 (by simp))
  have f12 := heap_frozen HS.out.res 12
  have x13 := (HS.out.cell 13 (by simp))
  have f13 := heap_frozen HS.out.res 13
  have x14 := (HS.out.cell 14 (by simp))
  have f14 := heap_frozen HS.out.res 14
  (try simp only [List.getElem_cons_zero, List.getElem_cons_succ] at x0 x1 x2 x3 x4 x5 x6 x7 x8 x9 x10 x11 x12 x13 x14)
  go_wp2_with fail
  refine (K2.out w.heap.size _ HS.out.eye HS.out.pcell).mono ?_
  rintro e X ⟨rfl, hE, hO⟩
  clear xp x0 x1 x2 x3 x4 x5 x6 x7 x8 x9 x10 x11 x12 x13 x14 f0 f1 f2 f3 f4 f5 f6 f7 f8 f9 f10 f11 f12 f13 f14
  replace HS := Lib.hid (HS.out.eye_ hE hO)
  clear hE hO
  have xp := HS.out.pcell
  have x0 := (HS.out.cell 0 (by simp))
  have f0 := heap_frozen HS.out.res 0
  have x1 := (HS.out.cell 1 (by simp))
  have f1 := heap_frozen HS.out.res 1
  have x2 := (HS.out.cell 2 (by simp))
  have f2 := heap_frozen HS.out.res 2
  have x3 := (HS.out.cell 3 (by simp))
  have f3 := heap_frozen HS.out.res 3
  have x4 := (HS.out.cell 4 (by simp))
  have f4 := heap_frozen HS.out.res 4
  have x5 := (HS.out.cell 5 (by simp))
  have f5 := heap_frozen HS.out.res 5
  have x6 := (HS.out.cell 6 (by simp))
  have f6 := heap_frozen HS.out.res 6
  have x7 := (HS.out.cell 7 (by simp))
  have f7 := heap_frozen HS.out.res 7
  have x8 := (HS.out.cell 8 (by simp))
  have f8 := heap_frozen HS.out.res 8
  have x9 := (HS.out.cell 9 (by simp))
  have f9 := heap_frozen HS.out.res 9
  have x10 := (HS.out.cell 10 (by simp))
  have f10 := heap_frozen HS.out.res 10
  have x11 := (HS.out.cell 11 (by simp))
  have f11 := heap_frozen HS.out.res 11
  have x12 := (HS.out.cell 12 (by simp))
  have f12 := heap_frozen HS.out.res 12
  have x13 := (HS.out.cell 13 (by simp))
  have f13 := heap_frozen HS.out.res 13
  have x14 := (HS.out.cell 14 (by simp))
  have f14 := heap_frozen HS.out.res 14
  (try simp only [List.getElem_cons_zero, List.getElem_cons_succ] at x0 x1 x2 x3 x4 x5 x6 x7 x8 x9 x10 x11 x12 x13 x14)
  go_upto_region 3 with fail
  have hs := (HS.out.set 0 (.int .i64 (tn : Int))).set 6 (.int .i64 (sn : Int))
  simp only [List.set_cons_zero, List.set_cons_succ] at hs
  clear xp x0 x1 x2 x3 x4 x5 x6 x7 x8 x9 x10 x11 x12 x13 x14 f0 f1 f2 f3 f4 f5 f6 f7 f8 f9 f10 f11 f12 f13 f14
  generalize World.setCell _ _ _ = X3 at hs ⊢
  replace HS := Lib.hid hs
  clear hs
  have xp := HS.out.pcell
  have x0 := (HS.out.cell 0 (by simp))
  have f0 := heap_frozen HS.out.res 0
  have x1 := (HS.out.cell 1 (by simp))
  have f1 := heap_frozen HS.out.res 1
  have x2 := (HS.out.cell 2 (by simp))
  have f2 := heap_frozen HS.out.res 2
  have x3 := (HS.out.cell 3 (by simp))
  have f3 := heap_frozen HS.out.res 3
  have x4 := (HS.out.cell 4 (by simp))
  have f4 := heap_frozen HS.out.res 4
  have x5 := (HS.out.cell 5 (by simp))
  have f5 := heap_frozen HS.out.res 5
  have x6 := (HS.out.cell 6 (by simp))
  have f6 := heap_frozen HS.out.res 6
  have x7 := (HS.out.cell 7 (by simp))
  have f7 := heap_frozen HS.out.res 7
  have x8 := (HS.out.cell 8 (by simp))
  have f8 := heap_frozen HS.out.res 8
  have x9 := (HS.out.cell 9 (by simp))
  have f9 := heap_frozen HS.out.res 9
  have x10 := (HS.out.cell 10 (by simp))
  have f10 := heap_frozen HS.out.res 10
  have x11 := (HS.out.cell 11 (by simp))
  have f11 := heap_frozen HS.out.res 11
  have x12 := (HS.out.cell 12 (by simp))
  have f12 := heap_frozen HS.out.res 12
  have x13 := (HS.out.cell 13 (by simp))
  have f13 := heap_frozen HS.out.res 13
  have x14 := (HS.out.cell 14 (by simp))
  have f14 := heap_frozen HS.out.res 14
  (try simp only [List.getElem_cons_zero, List.getElem_cons_succ] at x0 x1 x2 x3 x4 x5 x6 x7 x8 x9 x10 x11 x12 x13 x14)
  go_wp2_with fail
  refine (K3.out w.heap.size _ HS.out.eye HS.out.pcell).mono ?_
  rintro e X ⟨rfl, hE, hO⟩
  clear xp x0 x1 x2 x3 x4 x5 x6 x7 x8 x9 x10 x11 x12 x13 x14 f0 f1 f2 f3 f4 f5 f6 f7 f8 f9 f10 f11 f12 f13 f14
  replace HS := Lib.hid (HS.out.eye_ hE hO)
  clear hE hO
  have xp := HS.out.pcell
  have x0 := (HS.out.cell 0 (by simp))
  have f0 := heap_frozen HS.out.res 0
  have x1 := (HS.out.cell 1 (by simp))
  have f1 := heap_frozen HS.out.res 1
  have x2 := (HS.out.cell 2 (by simp))
  have f2 := heap_frozen HS.out.res 2
  have x3 := (HS.out.cell 3 (by simp))
  have f3 := heap_frozen HS.out.res 3
  have x4 := (HS.out.cell 4 (by simp))
  have f4 := heap_frozen HS.out.res 4
  have x5 := (HS.out.cell 5 (by simp))
  have f5 := heap_frozen HS.out.res 5
  have x6 := (HS.out.cell 6 (by simp))
  have f6 := heap_frozen HS.out.res 6
  have x7 := (HS.out.cell 7 (by simp))
  have f7 := heap_frozen HS.out.res 7
  have x8 := (HS.out.cell 8 (by simp))
  have f8 := heap_frozen HS.out.res 8
  have x9 := (HS.out.cell 9 (by simp))
  have f9 := heap_frozen HS.out.res 9
  have x10 := (HS.out.cell 10 (by simp))
  have f10 := heap_frozen HS.out.res 10
  have x11 := (HS.out.cell 11 (by simp))
  have f11 := heap_frozen HS.out.res 11
  have x12 := (HS.out.cell 12 (by simp))
  have f12 := heap_frozen HS.out.res 12
  have x13 := (HS.out.cell 13 (by simp))
  have f13 := heap_frozen HS.out.res 13
  have x14 := (HS.out.cell 14 (by simp))
  have f14 := heap_frozen HS.out.res 14
  (try simp only [List.getElem_cons_zero, List.getElem_cons_succ] at x0 x1 x2 x3 x4 x5 x6 x7 x8 x9 x10 x11 x12 x13 x14)
  go_wp2_with fail
  refine (K4.out w.heap.size _ HS.out.eye HS.out.pcell).mono ?_
  rintro e X ⟨rfl, hE, hO⟩
  clear xp x0 x1 x2 x3 x4 x5 x6 x7 x8 x9 x10 x11 x12 x13 x14 f0 f1 f2 f3 f4 f5 f6 f7 f8 f9 f10 f11 f12 f13 f14
  replace HS := Lib.hid (HS.out.eye_ hE hO)
  clear hE hO
  have xp := HS.out.pcell
  have x0 := (HS.out.cell 0 (by simp))
  have f0 := heap_frozen HS.out.res 0
  have x1 := (HS.out.cell 1 (by simp))
  have f1 := heap_frozen HS.out.res 1
  have x2 := (HS.out.cell 2 (by simp))
  have f2 := heap_frozen HS.out.res 2
  have x3 := (HS.out.cell 3 (by simp))
  have f3 := heap_frozen HS.out.res 3
  have x4 := (HS.out.cell 4 (by simp))
  have f4 := heap_frozen HS.out.res 4
  have x5 := (HS.out.cell 5 (by simp))
  have f5 := heap_frozen HS.out.res 5
  have x6 := (HS.out.cell 6 (by simp))
  have f6 := heap_frozen HS.out.res 6
  have x7 := (HS.out.cell 7 (by simp))
  have f7 := heap_frozen HS.out.res 7
  have x8 := (HS.out.cell 8 (by simp))
  have f8 := heap_frozen HS.out.res 8
  have x9 := (HS.out.cell 9 (by simp))
  have f9 := heap_frozen HS.out.res 9
  have x10 := (HS.out.cell 10 (by simp))
  have f10 := heap_frozen HS.out.res 10
  have x11 := (HS.out.cell 11 (by simp))
  have f11 := heap_frozen HS.out.res 11
  have x12 := (HS.out.cell 12 (by simp))
  have f12 := heap_frozen HS.out.res 12
  have x13 := (HS.out.cell 13 (by simp))
  have f13 := heap_frozen HS.out.res 13
  have x14 := (HS.out.cell 14 (by simp))
  have f14 := heap_frozen HS.out.res 14
  (try simp only [List.getElem_cons_zero, List.getElem_cons_succ] at x0 x1 x2 x3 x4 x5 x6 x7 x8 x9 x10 x11 x12 x13 x14)
  go_wp2_with fail
  refine (K5.out w.heap.size _ HS.out.eye HS.out.pcell).mono ?_
  rintro e X ⟨rfl, hE, hO⟩
  clear xp x0 x1 x2 x3 x4 x5 x6 x7 x8 x9 x10 x11 x12 x13 x14 f0 f1 f2 f3 f4 f5 f6 f7 f8 f9 f10 f11 f12 f13 f14
  replace HS := Lib.hid (HS.out.eye_ hE hO)
  clear hE hO
  have xp := HS.out.pcell
  have x0 := (HS.out.cell 0 (by simp))
  have f0 := heap_frozen HS.out.res 0
  have x1 := (HS.out.cell 1 (by simp))
  have f1 := heap_frozen HS.out.res 1
  have x2 := (HS.out.cell 2 (by simp))
  have f2 := heap_frozen HS.out.res 2
  have x3 := (HS.out.cell 3 (by simp))
  have f3 := heap_frozen HS.out.res 3
  have x4 := (HS.out.cell 4 (by simp))
  have f4 := heap_frozen HS.out.res 4
  have x5 := (HS.out.cell 5 (by simp))
  have f5 := heap_frozen HS.out.res 5
  have x6 := (HS.out.cell 6 (by simp))
  have f6 := heap_frozen HS.out.res 6
  have x7 := (HS.out.cell 7 (by simp))
  have f7 := heap_frozen HS.out.res 7
  have x8 := (HS.out.cell 8 (by simp))
  have f8 := heap_frozen HS.out.res 8
  have x9 := (HS.out.cell 9 (by simp))
  have f9 := heap_frozen HS.out.res 9
  have x10 := (HS.out.cell 10 (by simp))
  have f10 := heap_frozen HS.out.res 10
  have x11 := (HS.out.cell 11 (by simp))
  have f11 := heap_frozen HS.out.res 11
  have x12 := (HS.out.cell 12 (by simp))
  have f12 := heap_frozen HS.out.res 12
  have x13 := (HS.out.cell 13 (by simp))
  have f13 := heap_frozen HS.out.res 13
  have x14 := (HS.out.cell 14 (by simp))
  have f14 := heap_frozen HS.out.res 14
  (try simp only [List.getElem_cons_zero, List.getElem_cons_succ] at x0 x1 x2 x3 x4 x5 x6 x7 x8 x9 x10 x11 x12 x13 x14)
  go_upto_region 4 with fail
  have hs := ((HS.out.set 7 (.int .i64 ((dn : Int) - 1))).set 8 (.int .i64 ((un : Int) - 1))).set 9 (.int .i64 (en : Int))
  simp only [List.set_cons_zero, List.set_cons_succ] at hs
  clear xp x0 x1 x2 x3 x4 x5 x6 x7 x8 x9 x10 x11 x12 x13 x14 f0 f1 f2 f3 f4 f5 f6 f7 f8 f9 f10 f11 f12 f13 f14
  generalize World.setCell _ _ _ = X4 at hs ⊢
  replace HS := Lib.hid hs
  clear hs
  have xp := HS.out.pcell
  have x0 := (HS.out.cell 0 (by simp))
  have f0 := heap_frozen HS.out.res 0
  have x1 := (HS.out.cell 1 (by simp))
  have f1 := heap_frozen HS.out.res 1
  have x2 := (HS.out.cell 2 (by simp))
  have f2 := heap_frozen HS.out.res 2
  have x3 := (HS.out.cell 3 (by simp))
  have f3 := heap_frozen HS.out.res 3
  have x4 := (HS.out.cell 4 (by simp))
  have f4 := heap_frozen HS.out.res 4
  have x5 := (HS.out.cell 5 (by simp))
  have f5 := heap_frozen HS.out.res 5
  have x6 := (HS.out.cell 6 (by simp))
  have f6 := heap_frozen HS.out.res 6
  have x7 := (HS.out.cell 7 (by simp))
  have f7 := heap_frozen HS.out.res 7
  have x8 := (HS.out.cell 8 (by simp))
  have f8 := heap_frozen HS.out.res 8
  have x9 := (HS.out.cell 9 (by simp))
  have f9 := heap_frozen HS.out.res 9
  have x10 := (HS.out.cell 10 (by simp))
  have f10 := heap_frozen HS.out.res 10
  have x11 := (HS.out.cell 11 (by simp))
  have f11 := heap_frozen HS.out.res 11
  have x12 := (HS.out.cell 12 (by simp))
  have f12 := heap_frozen HS.out.res 12
  have x13 := (HS.out.cell 13 (by simp))
  have f13 := heap_frozen HS.out.res 13
  have x14 := (HS.out.cell 14 (by simp))
  have f14 := heap_frozen HS.out.res 14
  (try simp only [List.getElem_cons_zero, List.getElem_cons_succ] at x0 x1 x2 x3 x4 x5 x6 x7 x8 x9 x10 x11 x12 x13 x14)
  go_wp2_with fail
  refine (K6.out _ HS.out.eye).mono ?_
  rintro e X ⟨rfl, hE, hO⟩
  clear xp x0 x1 x2 x3 x4 x5 x6 x7 x8 x9 x10 x11 x12 x13 x14 f0 f1 f2 f3 f4 f5 f6 f7 f8 f9 f10 f11 f12 f13 f14
  replace HS := Lib.hid (HS.out.eye_ hE hO)
  clear hE hO
  have xp := HS.out.pcell
  have x0 := (HS.out.cell 0 (by simp))
  have f0 := heap_frozen HS.out.res 0
  have x1 := (HS.out.cell 1 (by simp))
  have f1 := heap_frozen HS.out.res 1
  have x2 := (HS.out.cell 2 (by simp))
  have f2 := heap_frozen HS.out.res 2
  have x3 := (HS.out.cell 3 (by simp))
  have f3 := heap_frozen HS.out.res 3
  have x4 := (HS.out.cell 4 (by simp))
  have f4 := heap_frozen HS.out.res 4
  have x5 := (HS.out.cell 5 (by simp))
  have f5 := heap_frozen HS.out.res 5
  have x6 := (HS.out.cell 6 (by simp))
  have f6 := heap_frozen HS.out.res 6
  have x7 := (HS.out.cell 7 (by simp))
  have f7 := heap_frozen HS.out.res 7
  have x8 := (HS.out.cell 8 (by simp))
  have f8 := heap_frozen HS.out.res 8
  have x9 := (HS.out.cell 9 (by simp))
  have f9 := heap_frozen HS.out.res 9
  have x10 := (HS.out.cell 10 (by simp))
  have f10 := heap_frozen HS.out.res 10
  have x11 := (HS.out.cell 11 (by simp))
  have f11 := heap_frozen HS.out.res 11
  have x12 := (HS.out.cell 12 (by simp))
  have f12 := heap_frozen HS.out.res 12
  have x13 := (HS.out.cell 13 (by simp))
  have f13 := heap_frozen HS.out.res 13
  have x14 := (HS.out.cell 14 (by simp))
  have f14 := heap_frozen HS.out.res 14
  (try simp only [List.getElem_cons_zero, List.getElem_cons_succ] at x0 x1 x2 x3 x4 x5 x6 x7 x8 x9 x10 x11 x12 x13 x14)
  go_upto_region 5 with fail
  have hs := HS.out.set 10 (.bool short)
  simp only [List.set_cons_zero, List.set_cons_succ] at hs
  clear xp x0 x1 x2 x3 x4 x5 x6 x7 x8 x9 x10 x11 x12 x13 x14 f0 f1 f2 f3 f4 f5 f6 f7 f8 f9 f10 f11 f12 f13 f14
  generalize World.setCell _ _ _ = X5 at hs ⊢
  replace HS := Lib.hid hs
  clear hs
  have xp := HS.out.pcell
  have x0 := (HS.out.cell 0 (by simp))
  have f0 := heap_frozen HS.out.res 0
  have x1 := (HS.out.cell 1 (by simp))
  have f1 := heap_frozen HS.out.res 1
  have x2 := (HS.out.cell 2 (by simp))
  have f2 := heap_frozen HS.out.res 2
  have x3 := (HS.out.cell 3 (by simp))
  have f3 := heap_frozen HS.out.res 3
  have x4 := (HS.out.cell 4 (by simp))
  have f4 := heap_frozen HS.out.res 4
  have x5 := (HS.out.cell 5 (by simp))
  have f5 := heap_frozen HS.out.res 5
  have x6 := (HS.out.cell 6 (by simp))
  have f6 := heap_frozen HS.out.res 6
  have x7 := (HS.out.cell 7 (by simp))
  have f7 := heap_frozen HS.out.res 7
  have x8 := (HS.out.cell 8 (by simp))
  have f8 := heap_frozen HS.out.res 8
  have x9 := (HS.out.cell 9 (by simp))
  have f9 := heap_frozen HS.out.res 9
  have x10 := (HS.out.cell 10 (by simp))
  have f10 := heap_frozen HS.out.res 10
  have x11 := (HS.out.cell 11 (by simp))
  have f11 := heap_frozen HS.out.res 11
  have x12 := (HS.out.cell 12 (by simp))
  have f12 := heap_frozen HS.out.res 12
  have x13 := (HS.out.cell 13 (by simp))
  have f13 := heap_frozen HS.out.res 13
  have x14 := (HS.out.cell 14 (by simp))
  have f14 := heap_frozen HS.out.res 14
  (try simp only [List.getElem_cons_zero, List.getElem_cons_succ] at x0 x1 x2 x3 x4 x5 x6 x7 x8 x9 x10 x11 x12 x13 x14)
  clear K1 K2 K3 K4 K5 K6
  rw [hob] at K7
  have HOP := Lib.hid hob
  clear hob
  go_wp2_with fail
  refine (K7.out _ HS.out.eye).mono ?_
  rintro e X ⟨rfl, hE, hO⟩
  clear xp x0 x1 x2 x3 x4 x5 x6 x7 x8 x9 x10 x11 x12 x13 x14 f0 f1 f2 f3 f4 f5 f6 f7 f8 f9 f10 f11 f12 f13 f14
  replace HS := Lib.hid (HS.out.eye_ hE hO)
  clear hE hO
  have xp := HS.out.pcell
  have x0 := (HS.out.cell 0 (by simp))
  have f0 := heap_frozen HS.out.res 0
  have x1 := (HS.out.cell 1 (by simp))
  have f1 := heap_frozen HS.out.res 1
  have x2 := (HS.out.cell 2 (by simp))
  have f2 := heap_frozen HS.out.res 2
  have x3 := (HS.out.cell 3 (by simp))
  have f3 := heap_frozen HS.out.res 3
  have x4 := (HS.out.cell 4 (by simp))
  have f4 := heap_frozen HS.out.res 4
  have x5 := (HS.out.cell 5 (by simp))
  have f5 := heap_frozen HS.out.res 5
  have x6 := (HS.out.cell 6 (by simp))
  have f6 := heap_frozen HS.out.res 6
  have x7 := (HS.out.cell 7 (by simp))
  have f7 := heap_frozen HS.out.res 7
  have x8 := (HS.out.cell 8 (by simp))
  have f8 := heap_frozen HS.out.res 8
  have x9 := (HS.out.cell 9 (by simp))
  have f9 := heap_frozen HS.out.res 9
  have x10 := (HS.out.cell 10 (by simp))
  have f10 := heap_frozen HS.out.res 10
  have x11 := (HS.out.cell 11 (by simp))
  have f11 := heap_frozen HS.out.res 11
  have x12 := (HS.out.cell 12 (by simp))
  have f12 := heap_frozen HS.out.res 12
  have x13 := (HS.out.cell 13 (by simp))
  have f13 := heap_frozen HS.out.res 13
  have x14 := (HS.out.cell 14 (by simp))
  have f14 := heap_frozen HS.out.res 14
  (try simp only [List.getElem_cons_zero, List.getElem_cons_succ] at x0 x1 x2 x3 x4 x5 x6 x7 x8 x9 x10 x11 x12 x13 x14)
  go_wp2_with fail
  refine (HRR.out _ HS.out.eye (HSB.out _ HS.out.off.size) HOP.out).mono ?_
  rintro e X ⟨rfl, hE, hO⟩
  clear xp x0 x1 x2 x3 x4 x5 x6 x7 x8 x9 x10 x11 x12 x13 x14 f0 f1 f2 f3 f4 f5 f6 f7 f8 f9 f10 f11 f12 f13 f14
  replace HS := Lib.hid (HS.out.eye_ hE hO)
  clear hE hO
  have xp := HS.out.pcell
  have x0 := (HS.out.cell 0 (by simp))
  have f0 := heap_frozen HS.out.res 0
  have x1 := (HS.out.cell 1 (by simp))
  have f1 := heap_frozen HS.out.res 1
  have x2 := (HS.out.cell 2 (by simp))
  have f2 := heap_frozen HS.out.res 2
  have x3 := (HS.out.cell 3 (by simp))
  have f3 := heap_frozen HS.out.res 3
  have x4 := (HS.out.cell 4 (by simp))
  have f4 := heap_frozen HS.out.res 4
  have x5 := (HS.out.cell 5 (by simp))
  have f5 := heap_frozen HS.out.res 5
  have x6 := (HS.out.cell 6 (by simp))
  have f6 := heap_frozen HS.out.res 6
  have x7 := (HS.out.cell 7 (by simp))
  have f7 := heap_frozen HS.out.res 7
  have x8 := (HS.out.cell 8 (by simp))
  have f8 := heap_frozen HS.out.res 8
  have x9 := (HS.out.cell 9 (by simp))
  have f9 := heap_frozen HS.out.res 9
  have x10 := (HS.out.cell 10 (by simp))
  have f10 := heap_frozen HS.out.res 10
  have x11 := (HS.out.cell 11 (by simp))
  have f11 := heap_frozen HS.out.res 11
  have x12 := (HS.out.cell 12 (by simp))
  have f12 := heap_frozen HS.out.res 12
  have x13 := (HS.out.cell 13 (by simp))
  have f13 := heap_frozen HS.out.res 13
  have x14 := (HS.out.cell 14 (by simp))
  have f14 := heap_frozen HS.out.res 14
  (try simp only [List.getElem_cons_zero, List.getElem_cons_succ] at x0 x1 x2 x3 x4 x5 x6 x7 x8 x9 x10 x11 x12 x13 x14)
  simp only [opCells]
  go_upto_region 7 with fail
  have hs := ((((HS.out.set 1 (.int .i64 (plainO op).kind)).set 2 (.string (plainO op).key)).set 3 (.string (plainO op).upto)).set 4 (.int .u64 ((plainO op).val : Int))).set 5 (.int .i64 (plainO op).limit)
  simp only [List.set_cons_zero, List.set_cons_succ] at hs
  clear xp x0 x1 x2 x3 x4 x5 x6 x7 x8 x9 x10 x11 x12 x13 x14 f0 f1 f2 f3 f4 f5 f6 f7 f8 f9 f10 f11 f12 f13 f14
  generalize World.setCell _ _ _ = X6 at hs ⊢
  replace HS := Lib.hid hs
  clear hs
  have xp := HS.out.pcell
  have x0 := (HS.out.cell 0 (by simp))
  have f0 := heap_frozen HS.out.res 0
  have x1 := (HS.out.cell 1 (by simp))
  have f1 := heap_frozen HS.out.res 1
  have x2 := (HS.out.cell 2 (by simp))
  have f2 := heap_frozen HS.out.res 2
  have x3 := (HS.out.cell 3 (by simp))
  have f3 := heap_frozen HS.out.res 3
  have x4 := (HS.out.cell 4 (by simp))
  have f4 := heap_frozen HS.out.res 4
  have x5 := (HS.out.cell 5 (by simp))
  have f5 := heap_frozen HS.out.res 5
  have x6 := (HS.out.cell 6 (by simp))
  have f6 := heap_frozen HS.out.res 6
  have x7 := (HS.out.cell 7 (by simp))
  have f7 := heap_frozen HS.out.res 7
  have x8 := (HS.out.cell 8 (by simp))
  have f8 := heap_frozen HS.out.res 8
  have x9 := (HS.out.cell 9 (by simp))
  have f9 := heap_frozen HS.out.res 9
  have x10 := (HS.out.cell 10 (by simp))
  have f10 := heap_frozen HS.out.res 10
  have x11 := (HS.out.cell 11 (by simp))
  have f11 := heap_frozen HS.out.res 11
  have x12 := (HS.out.cell 12 (by simp))
  have f12 := heap_frozen HS.out.res 12
  have x13 := (HS.out.cell 13 (by simp))
  have f13 := heap_frozen HS.out.res 13
  have x14 := (HS.out.cell 14 (by simp))
  have f14 := heap_frozen HS.out.res 14
  (try simp only [List.getElem_cons_zero, List.getElem_cons_succ] at x0 x1 x2 x3 x4 x5 x6 x7 x8 x9 x10 x11 x12 x13 x14)
  clear HRR K7
  by_cases hu : (un : Int) - 1 = -1
  · have hub : (((un : Int) - 1) != (-1 : Int)) = false := by rw [hu]; rfl
    obtain rfl : ans = ansZ := HAZ.out hu
    have hs := HS.out
    have hca := HCA.out
    rw [if_pos hu] at hca
    rw [hca, List.nil_append] at hs
    replace HS := Lib.hid hs
    clear hs hca hu
    have hz := ((((((((((((((HS.out.set 0 (.int .i64 (tn : Int))).set 1 (.int .i64 (plainO op).kind)).set 2 (.string (plainO op).key)).set 3 (.string (plainO op).upto)).set 4 (.int .u64 ((plainO op).val : Int))).set 5 (.int .i64 (plainO op).limit)).set 6 (.int .i64 (sn : Int))).set 7 (.int .i64 ((dn : Int) - 1))).set 8 (.int .i64 ((un : Int) - 1))).set 9 (.int .i64 (en : Int))).set 10 (.bool short)).set 11 (.int .i64 0)).set 12 (.string ⟨#[]⟩)).set 13 (.int .u64 0)).set 14 (.slice none 0 0)
    have HZ := Lib.hid (And.intro hz.eye (And.intro hz.off hz.row))
    clear hz
    go_wp2_with fail
    exact bodyPost_ret (v := .agg #[.int .i64 (tn : Int), .int .i64 (plainO op).kind, .string (plainO op).key, .string (plainO op).upto, .int .u64 ((plainO op).val : Int), .int .i64 (plainO op).limit, .int .i64 (sn : Int), .int .i64 ((dn : Int) - 1), .int .i64 ((un : Int) - 1), .int .i64 (en : Int), .bool short, .int .i64 0, .string ⟨#[]⟩, .int .u64 0, .slice none 0 0]) (by simp [results, Try.results99, go_sem, *]) rfl
      ⟨none, 0, by simp only [plainC, HOP.out, if_true]; rfl, HZ.out.1, HZ.out.2.1, own_less HZ.out.2.2 (by omega)⟩
  · have hub : (((un : Int) - 1) != (-1 : Int)) = true := by simp [hu]
    have HA9 := Lib.hid (fun W hW hs => HRA.out W hW hs HBR.out hu)
    clear hu
    go_wp2_with fail
    refine (HA9.out _ HS.out.eye (HSB.out _ HS.out.off.size)).mono ?_
    rintro e X ⟨A9, c9, rfl, -, hE, hO, hown⟩
    clear xp x0 x1 x2 x3 x4 x5 x6 x7 x8 x9 x10 x11 x12 x13 x14 f0 f1 f2 f3 f4 f5 f6 f7 f8 f9 f10 f11 f12 f13 f14
    have hle := HS.out.lt
    replace HS := Lib.hid ((HS.out.eye_ hE hO).put (own_less hown (Nat.succ_le_of_lt hle)))
    clear hE hO hown hle HA9
    have xp := HS.out.pcell
    have x0 := (HS.out.cell 0 (by simp))
    have f0 := heap_frozen HS.out.res 0
    have x1 := (HS.out.cell 1 (by simp))
    have f1 := heap_frozen HS.out.res 1
    have x2 := (HS.out.cell 2 (by simp))
    have f2 := heap_frozen HS.out.res 2
    have x3 := (HS.out.cell 3 (by simp))
    have f3 := heap_frozen HS.out.res 3
    have x4 := (HS.out.cell 4 (by simp))
    have f4 := heap_frozen HS.out.res 4
    have x5 := (HS.out.cell 5 (by simp))
    have f5 := heap_frozen HS.out.res 5
    have x6 := (HS.out.cell 6 (by simp))
    have f6 := heap_frozen HS.out.res 6
    have x7 := (HS.out.cell 7 (by simp))
    have f7 := heap_frozen HS.out.res 7
    have x8 := (HS.out.cell 8 (by simp))
    have f8 := heap_frozen HS.out.res 8
    have x9 := (HS.out.cell 9 (by simp))
    have f9 := heap_frozen HS.out.res 9
    have x10 := (HS.out.cell 10 (by simp))
    have f10 := heap_frozen HS.out.res 10
    have x11 := (HS.out.cell 11 (by simp))
    have f11 := heap_frozen HS.out.res 11
    have x12 := (HS.out.cell 12 (by simp))
    have f12 := heap_frozen HS.out.res 12
    have x13 := (HS.out.cell 13 (by simp))
    have f13 := heap_frozen HS.out.res 13
    have x14 := (HS.out.cell 14 (by simp))
    have f14 := heap_frozen HS.out.res 14
    (try simp only [List.getElem_cons_zero, List.getElem_cons_succ] at x0 x1 x2 x3 x4 x5 x6 x7 x8 x9 x10 x11 x12 x13 x14)
    simp only [ansCells]
    go_upto_region 9 with fail
    have hs := (((HS.out.set 11 (.int .i64 ans.code)).set 12 (.string ans.key)).set 13 (.int .u64 (ans.val : Int))).set 14 (.slice A9 ans.pairs.length c9)
    simp only [List.set_cons_zero, List.set_cons_succ] at hs
    clear xp x0 x1 x2 x3 x4 x5 x6 x7 x8 x9 x10 x11 x12 x13 x14 f0 f1 f2 f3 f4 f5 f6 f7 f8 f9 f10 f11 f12 f13 f14
    generalize World.setCell _ _ _ = X7 at hs ⊢
    replace HS := Lib.hid hs
    clear hs
    have xp := HS.out.pcell
    have x0 := (HS.out.cell 0 (by simp))
    have f0 := heap_frozen HS.out.res 0
    have x1 := (HS.out.cell 1 (by simp))
    have f1 := heap_frozen HS.out.res 1
    have x2 := (HS.out.cell 2 (by simp))
    have f2 := heap_frozen HS.out.res 2
    have x3 := (HS.out.cell 3 (by simp))
    have f3 := heap_frozen HS.out.res 3
    have x4 := (HS.out.cell 4 (by simp))
    have f4 := heap_frozen HS.out.res 4
    have x5 := (HS.out.cell 5 (by simp))
    have f5 := heap_frozen HS.out.res 5
    have x6 := (HS.out.cell 6 (by simp))
    have f6 := heap_frozen HS.out.res 6
    have x7 := (HS.out.cell 7 (by simp))
    have f7 := heap_frozen HS.out.res 7
    have x8 := (HS.out.cell 8 (by simp))
    have f8 := heap_frozen HS.out.res 8
    have x9 := (HS.out.cell 9 (by simp))
    have f9 := heap_frozen HS.out.res 9
    have x10 := (HS.out.cell 10 (by simp))
    have f10 := heap_frozen HS.out.res 10
    have x11 := (HS.out.cell 11 (by simp))
    have f11 := heap_frozen HS.out.res 11
    have x12 := (HS.out.cell 12 (by simp))
    have f12 := heap_frozen HS.out.res 12
    have x13 := (HS.out.cell 13 (by simp))
    have f13 := heap_frozen HS.out.res 13
    have x14 := (HS.out.cell 14 (by simp))
    have f14 := heap_frozen HS.out.res 14
    (try simp only [List.getElem_cons_zero, List.getElem_cons_succ] at x0 x1 x2 x3 x4 x5 x6 x7 x8 x9 x10 x11 x12 x13 x14)
    have hz := ((((((((((((((HS.out.set 0 (.int .i64 (tn : Int))).set 1 (.int .i64 (plainO op).kind)).set 2 (.string (plainO op).key)).set 3 (.string (plainO op).upto)).set 4 (.int .u64 ((plainO op).val : Int))).set 5 (.int .i64 (plainO op).limit)).set 6 (.int .i64 (sn : Int))).set 7 (.int .i64 ((dn : Int) - 1))).set 8 (.int .i64 ((un : Int) - 1))).set 9 (.int .i64 (en : Int))).set 10 (.bool short)).set 11 (.int .i64 ans.code)).set 12 (.string ans.key)).set 13 (.int .u64 (ans.val : Int))).set 14 (.slice A9 ans.pairs.length c9)
    have HZ := Lib.hid (And.intro hz.eye (And.intro hz.off hz.row))
    clear hz
    go_wp2_with fail
    exact bodyPost_ret (v := .agg #[.int .i64 (tn : Int), .int .i64 (plainO op).kind, .string (plainO op).key, .string (plainO op).upto, .int .u64 ((plainO op).val : Int), .int .i64 (plainO op).limit, .int .i64 (sn : Int), .int .i64 ((dn : Int) - 1), .int .i64 ((un : Int) - 1), .int .i64 (en : Int), .bool short, .int .i64 ans.code, .string ans.key, .int .u64 (ans.val : Int), .slice A9 ans.pairs.length c9]) (by simp [results, Try.results99, go_sem, *]) rfl
      ⟨A9, c9, by simp only [plainC, HOP.out, if_true]; rfl, HZ.out.1, HZ.out.2.1, own_less HZ.out.2.2 (by omega)⟩

theorem hcall_any (ep : Nat) (sb : Option Nat) (x : CallD) (R : List Nat) (w : World) (h : EyeAt w ep sb (callBytes x ++ R) 0) (hsnd : sndC x = true) (hok : CallOk x) (hsm : Small x) (hby : ∀ b ∈ callBytes x ++ R, b < 256) (hl : (callBytes x ++ R).length ≤ 1000000) (hsb : ∀ b, sb = some b → b < w.heap.size) :
    Calls Try.prog 99 #[.pointer (some ⟨ep, 0, none⟩)] w (fun e w' => ∃ pa pc, e = .returned (.agg (callCells (plainC x pa pc))) ∧ EyeAt w' ep sb R 0 ∧ Off (fun k => k = ep) w w' ∧ w'.ownsRow w.heap.size 32 2 (.slice pa x.ans.pairs.length pc) x.ans.pairs.length (prRow x.ans.pairs)) := by
  cases hob : opB x.op
  · exact hcall_no ep sb x R w h hsnd hok hsm hby hl hsb hob
  · exact hcall_yes ep sb x R w h hsnd hok hsm hby hl hsb hob

end Go.Proofs.Ythbafbgnclpbpaa

namespace Go.Proofs.Ythbafbgnclpbpaa
open Go.RowKit

theorem nil_size : (⟨#[]⟩ : ByteArray).size ≤ maxLen := Nat.zero_le _
theorem opZero_ok : OpOk opZero := ⟨by decide, nil_size, nil_size, by decide, by decide⟩
theorem plainO_ok {o : OpD} (h : OpOk o) : OpOk (plainO o) := by
  unfold plainO plainV
  split
  · refine ⟨h.kind, ?_, ?_, ?_, ?_⟩
    · simp only []; split; exact h.key; exact nil_size
    · simp only []; split; exact h.upto; exact nil_size
    · simp only []; split; exact h.val; decide
    · simp only []; split; exact h.limit; decide
  · exact opZero_ok
/-- y is x with a plain operation, its pairs lie elsewhere. -/
def PlC (x y : CallD) : Prop := ∃ pa pc, y = plainC x pa pc
theorem PlC.ok {x y : CallD} (h : PlC x y) (hx : CallOk x) : CallOk y := by
  obtain ⟨pa, pc, rfl⟩ := h
  refine ⟨hx.thread, ?_, hx.since, hx.done, hx.upto, hx.steps, hx.ans⟩
  unfold plainC
  simp only []
  split
  · exact plainO_ok hx.op
  · exact opZero_ok
theorem PlC.snd {x y : CallD} (h : PlC x y) : sndC y = sndC x := by
  obtain ⟨pa, pc, rfl⟩ := h
  rfl
theorem PlC.pair {x y x' y' : CallD} (h : PlC x y) (h' : PlC x' y') : pairB y y' = pairB x x' := by
  obtain ⟨pa, pc, rfl⟩ := h
  obtain ⟨pa', pc', rfl⟩ := h'
  rfl
/-- The calls of ys are those of xs, plain. -/
def PlCs (xs ys : List CallD) : Prop := ∀ (i : Nat) (hx : i < xs.length) (hy : i < ys.length), PlC xs[i] ys[i]
theorem PlCs.may {xs ys : List CallD} (h : PlCs xs ys) (hl : ys.length = xs.length) (hm : mayC xs = true) : mayC ys = true := by
  rw [mayC_iff] at hm ⊢
  intro i hi
  have hi' : i < xs.length := by omega
  have h1 := hm i hi'
  refine ⟨by rw [(h i hi' hi).snd]; exact h1.1, fun k hk => ?_⟩
  rw [(h k (by omega) (by omega)).pair (h i hi' hi)]
  exact h1.2 k hk
theorem PlCs.push {xs ys : List CallD} {j : Nat} (h : PlCs xs ys) (hj : j < xs.length) (hl : ys.length = j) {y : CallD} (hy : PlC xs[j] y) : PlCs xs (ys ++ [y]) := by
  intro i hx hi
  by_cases e : i < ys.length
  · rw [List.getElem_append_left e]
    exact h i hx e
  · have : i = j := by simp at hi; omega
    subst this
    rw [List.getElem_append_right (by omega)]
    simpa using hy

theorem opb_lt {o : OpD} (h : OpOk o) : ∀ b ∈ opBytes o, b < 256 := by
  intro b hb
  unfold opBytes at hb
  split at hb
  · rename_i hB
    have hk := opB_kind hB
    rw [List.mem_append, List.mem_append, List.mem_append, List.mem_append] at hb
    rcases hb with hb | hb | hb | hb | hb
    · exact dig_lt (by omega) b hb
    · split at hb
      · exact tx_lt h.key b hb
      · cases hb
    · split at hb
      · exact tx_lt h.upto b hb
      · cases hb
    · split at hb
      · exact dig_lt h.val b hb
      · cases hb
    · split at hb
      · exact dig_lt (by have := h.limit; omega) b hb
      · cases hb
  · simp at hb; omega
theorem callBytes_lt {x : CallD} (h : CallOk x) (hsm : Small x) (hs : sndC x = true) : ∀ b ∈ callBytes x, b < 256 := by
  intro b hb
  have hn := sndC_nums hs
  have h1 := hsm.since
  have h2 := hsm.done
  have h3 := hsm.upto
  have h4 := hsm.steps
  have hb1 : ∀ q : Bool, bits1 q < 256 := by intro q; cases q <;> decide
  unfold callBytes callHead at hb
  simp only [List.mem_append, List.mem_cons, List.not_mem_nil, or_false] at hb
  rcases hb with (hb | hb | hb | hb | hb | hb | hb) | hb | hb
  · exact dig_lt (by omega) b hb
  · exact dig_lt (by omega) b hb
  · exact dig_lt (by omega) b hb
  · exact dig_lt (by omega) b hb
  · exact dig_lt (by omega) b hb
  · rw [hb]; exact hb1 _
  · rw [hb]; exact hb1 _
  · unfold callOp at hb
    split at hb
    · exact opb_lt h.op b hb
    · cases hb
  · unfold callAns at hb
    split at hb
    · cases hb
    · exact ansBytes_lt h.ans b hb
theorem histBytes_lt {xs : List CallD} (h : ∀ x ∈ xs, CallOk x) (hsm : ∀ x ∈ xs, Small x) (hm : mayC xs = true) (hl : xs.length ≤ 40) : ∀ b ∈ histBytes xs, b < 256 := by
  intro b hb
  unfold histBytes at hb
  rcases List.mem_append.1 hb with hb | hb
  · exact dig_lt (by omega) b hb
  · unfold callsBytes at hb
    obtain ⟨x, hx, hb⟩ := List.mem_flatMap.1 hb
    obtain ⟨i, hi, rfl⟩ := List.mem_iff_getElem.1 hx
    exact callBytes_lt (h _ hx) (hsm _ hx) (((mayC_iff xs).1 hm) i hi).1 b hb
theorem callsBytes_drop (xs : List CallD) (j : Nat) (h : j < xs.length) : callsBytes (xs.drop j) = callBytes xs[j] ++ callsBytes (xs.drop (j + 1)) := by
  rw [List.drop_eq_getElem_cons h]
  rfl
theorem callsBytes_split (xs : List CallD) (j : Nat) : callsBytes xs = callsBytes (xs.take j) ++ callsBytes (xs.drop j) := by
  unfold callsBytes
  rw [← List.flatMap_append, List.take_append_drop]

/-- The rows of calls that were read: the calls', each one's pairs'. -/
def crow (v : Value) (n : Nat) (ys : List CallD) : List RowT :=
  ⟨71, 15, v, n, clRow ys⟩ :: ys.map (fun y => ⟨32, 2, .slice y.pa y.ans.pairs.length y.pc, y.ans.pairs.length, prRow y.ans.pairs⟩)
theorem Ow.base {B : Nat} {W0 W : World} {R : List RowT} (h : Ow B W0 W [] R) : Ow B W W [] R :=
  ⟨⟨Below.refl _ _, h.sx.le, fun i g o q => by simp at q, fun i j p q _ r => by simp at r⟩, h.own, h.ne, fun i j k r p _ _ q => by simp at q⟩
theorem Ow.turn {B ep : Nat} {W0 W X : World} {R : List RowT} (h : Ow B W0 W [] R) (hO : Off (fun k => k = ep) W X) (hep : ep < B) {t : TypeId} {s n : Nat} {v : Value} {xs : List Value} (ho : X.ownsRow W.heap.size t s v n xs) : Ow B X X [] (R ++ [⟨t, s, v, n, xs⟩]) := by
  have key : ∀ (i : Nat) (r : RowT), (R ++ [(⟨t, s, v, n, xs⟩ : RowT)])[i]? = some r → (i < R.length ∧ R[i]? = some r) ∨ (i = R.length ∧ r = ⟨t, s, v, n, xs⟩) := by
    intro i r hi
    rcases Nat.lt_or_ge i R.length with g | g
    · rw [List.getElem?_append_left g] at hi
      exact .inl ⟨g, hi⟩
    · have h2 := (List.getElem?_eq_some_iff.1 hi).1
      rw [List.length_append, List.length_singleton] at h2
      have e : i = R.length := by omega
      subst e
      simp at hi
      exact .inr ⟨rfl, hi.symm⟩
  refine ⟨⟨Below.refl _ _, Nat.le_trans h.sx.le hO.size, fun i g o q => by simp at q, fun i j p q _ r => by simp at r⟩, fun i r hi => ?_, fun i j k r r' hij hi hj hk hk' => ?_, fun i j k r p _ _ q => by simp at q⟩
  · rcases key i r hi with ⟨_, hi⟩ | ⟨_, rfl⟩
    · exact own_off (h.own i r hi) hO (fun k hk e => by have := (own_lt (h.own i r hi) hk).1; omega)
    · exact own_less ho h.sx.le
  · rcases key i r hi with ⟨_, hi⟩ | ⟨a, rfl⟩ <;> rcases key j r' hj with ⟨_, hj⟩ | ⟨b, rfl⟩
    · exact h.ne i j k r r' hij hi hj hk hk'
    · have h1 := (own_lt (h.own i r hi) hk).2
      have h2 := (own_lt ho hk').1
      omega
    · have h1 := (own_lt (h.own j r' hj) hk').2
      have h2 := (own_lt ho hk).1
      omega
    · omega
theorem off_of_below {B : Nat} {w w' : World} (h : Below B w w') : Off (fun k => B ≤ k) w w' := ⟨h.os, h.tape, h.output, h.size, fun k _ hs => h.block k (Nat.lt_of_not_le hs)⟩
theorem crow_prs {B : Nat} {W0 W : World} {v : Value} {n : Nat} {ys : List CallD} (h : Ow B W0 W [] (crow v n ys)) : ∀ y ∈ ys, Prs W y.pa y.ans.pairs.length y.ans.pairs := by
  intro y hy
  obtain ⟨i, hi, rfl⟩ := List.mem_iff_getElem.1 hy
  have h1 := h.own (i + 1) ⟨32, 2, .slice ys[i].pa ys[i].ans.pairs.length ys[i].pc, ys[i].ans.pairs.length, prRow ys[i].ans.pairs⟩ (by simp [crow, hi])
  exact prs_of_own h1
theorem crow_push (v v2 : Value) (n m : Nat) (ys : List CallD) (y : CallD) : (crow v n ys ++ [(⟨32, 2, .slice y.pa y.ans.pairs.length y.pc, y.ans.pairs.length, prRow y.ans.pairs⟩ : RowT)]).set 0 ⟨71, 15, v2, m, clRow (ys ++ [y])⟩ = crow v2 m (ys ++ [y]) := by
  simp [crow]

set_option maxRecDepth 100000 in
set_option maxHeartbeats 16000000 in
theorem hread_any (A : Option Addr) (c : Nat) (xs : List CallD) (w : World) (h : Rd w w.heap.size 1 A (histBytes xs).length (u8s (histBytes xs))) (hc : (histBytes xs).length ≤ c) (hx : ∀ x ∈ xs, CallOk x) (hsm : ∀ x ∈ xs, Small x) (hm : mayC xs = true) (hl : xs.length ≤ 40) (hlen : (histBytes xs).length ≤ 1000000) :
    Calls Try.prog 67 #[.slice A (histBytes xs).length c] w (fun e w' => ∃ A' c' ys, e = .returned (.tuple #[.slice A' xs.length c', .int .i64 0]) ∧ ys.length = xs.length ∧ PlCs xs ys ∧ Cls w' A' xs.length ys ∧ Below w.heap.size w w') := by
  have hlk := eyelook_any A c (histBytes xs) w h hc
  have hby := histBytes_lt hx hsm hm hl
  have hsl : ∀ b, srcOf A (histBytes xs) = some b → b < w.heap.size := by
    intro b hb
    unfold srcOf at hb
    split at hb
    · cases hb
    · obtain ⟨b', off, rfl, hbl, _⟩ := h.2 (by omega)
      simp at hb
      omega
  generalize srcOf A (histBytes xs) = sb at hlk hsl
  have HSB := Lib.hid hsl
  have HXO := Lib.hid hx
  have HSm := Lib.hid hsm
  have HMy := Lib.hid hm
  have HLK := Lib.hid hlk
  have HBY := Lib.hid (show (∀ b ∈ dig xs.length ++ callsBytes xs, b < 256) ∧ (dig xs.length ++ callsBytes xs).length ≤ 1000000 from ⟨hby, hlen⟩)
  have HNE := Lib.hid (show histBytes xs = dig xs.length ++ callsBytes xs from rfl)
  generalize histBytes xs = hb at HLK HNE
  clear h hc hx hsm hm hlk hby hsl hlen
  go_enter Try.func67, Try.ntmps67
  go_wp2_with fail
  refine HLK.out.mono ?_
  rintro e w1 ⟨rfl, hE, hb1⟩
  rw [HNE.out] at hE
  have HE := Lib.hid (And.intro hE hb1)
  clear hE hb1 HLK
  have hnum := eyenum_any w.heap.size sb (dig xs.length ++ callsBytes xs) 0 1099511627776 w1 HE.out.1 HBY.out.1 HBY.out.2
  rw [eyeUp_dig (by omega) (by omega)] at hnum
  have HNM := Lib.hid hnum
  clear hnum
  go_wp2_with fail
  refine HNM.out.mono ?_
  rintro e w2 ⟨rfl, hE, hO⟩
  have hlt2 := hE.lt
  have HR := Lib.hid (show ([] : List CallD).length = 0 ∧ PlCs xs [] ∧ EyeAt w2 w.heap.size sb (callsBytes (xs.drop 0)) 0 ∧ Ow (w.heap.size + 1) w2 w2 [] (crow (.slice none 0 0) 0 []) ∧ Below w.heap.size w w2 from
    ⟨rfl, fun i _ hy => by simp at hy, hE, (Ow.start ⟨Below.refl _ _, hlt2, fun i g o q => by simp at q, fun i j p q _ r => by simp at r⟩).nil 71 15,
      hO.below HE.out.2 HE.out.2.size (fun j hj e => by omega)⟩)
  clear hE hO hlt2 HE HNM
  go_wp2_with fail
  go_loopw [5, 7] (fun v i wr => ∃ (j : Nat) (ys : List CallD) (A5 : Option Addr) (c5 : Nat), i = .int .u64 j ∧ v = .slice A5 j c5 ∧ Hid (j ≤ xs.length) ∧ Hid (ys.length = j ∧ PlCs xs ys ∧ EyeAt wr w.heap.size sb (callsBytes (xs.drop j)) 0 ∧ Ow (w.heap.size + 1) wr wr [] (crow (.slice A5 j c5) j ys) ∧ Below w.heap.size w wr)) (fun _ i _ => xs.length - (intOf i).toNat)
  case atStart => exact ⟨0, [], none, 0, rfl, rfl, Nat.zero_le _, HR.out⟩
  case round =>
    obtain ⟨j, ys, A5, c5, rfl, rfl, HJ, H⟩ := hrel
    clear HR
    by_cases hlt : j < xs.length
    · have hmem := List.getElem_mem hlt
      have hE := H.out.2.2.1
      have hdr := callsBytes_drop xs j hlt
      rw [hdr] at hE
      have hsub : ∀ b ∈ callBytes xs[j] ++ callsBytes (xs.drop (j + 1)), b < 256 := by
        intro b hb
        rw [← hdr] at hb
        exact HBY.out.1 b (List.mem_append_right _ (by rw [callsBytes_split xs j]; exact List.mem_append_right _ hb))
      have hln : (callBytes xs[j] ++ callsBytes (xs.drop (j + 1))).length ≤ 1000000 := by
        have h1 := HBY.out.2
        rw [← hdr]
        rw [List.length_append, callsBytes_split xs j, List.length_append] at h1
        omega
      have hcl := hcall_any w.heap.size sb xs[j] (callsBytes (xs.drop (j + 1))) wr hE (((mayC_iff xs).1 HMy.out) j hlt).1 (HXO.out _ hmem) (HSm.out _ hmem) hsub hln (fun b hb => by have h1 := HSB.out b hb; have h2 := hE.lt; omega)
      have HPU := Lib.hid (fun (y : CallD) (hy : PlC xs[j] y) => H.out.2.1.push hlt H.out.1 hy)
      have HEF := Lib.hid hE
      have HW := Lib.hid (And.intro H.out.1 H.out.2.2.2)
      generalize xs[j] = x at hcl HPU HEF
      generalize hRR : callsBytes (xs.drop (j + 1)) = R at hcl HEF
      have HRE := Lib.hid hRR
      clear hRR
      have HCL := Lib.hid hcl
      clear hE hdr hsub hln hcl H hmem
      go_wp2_with fail
      refine (eyefault_any w.heap.size sb _ 0 _ HEF.out).mono ?_
      rintro e wq ⟨rfl, rfl⟩
      go_wp2_with fail
      refine HCL.out.mono ?_
      rintro e X ⟨pa, pc, rfl, hE, hO, hown⟩
      have hOw : Ow (w.heap.size + 1) X X [] (crow (.slice A5 j c5) j ys ++ [(⟨32, 2, .slice (plainC x pa pc).pa (plainC x pa pc).ans.pairs.length (plainC x pa pc).pc, (plainC x pa pc).ans.pairs.length, prRow (plainC x pa pc).ans.pairs⟩ : RowT)]) := HW.out.2.1.turn hO (Nat.lt_succ_self _) hown
      have hbl := hO.below HW.out.2.2 (Nat.le_of_lt HEF.out.lt) (fun j hj e => by omega)
      have hpl : PlC x (plainC x pa pc) := ⟨pa, pc, rfl⟩
      generalize plainC x pa pc = y at hpl hOw ⊢
      have hys := HPU.out y hpl
      obtain ⟨A9, c9, W9, hrun, -, hO9⟩ := hOw.pushC 0 rfl y (by omega)
      rw [crow_push] at hO9
      have hb9 := hO9.below
      have HN := Lib.hid (show (ys ++ [y]).length = j + 1 ∧ PlCs xs (ys ++ [y]) ∧ EyeAt W9 w.heap.size sb R 0 ∧ Ow (w.heap.size + 1) W9 W9 [] (crow (.slice A9 (j + 1) c9) (j + 1) (ys ++ [y])) ∧ Below w.heap.size w W9 from
        ⟨by rw [List.length_append, HW.out.1]; rfl, hys, hE.off (off_of_below hb9) (by omega) (fun b hb => by have := HSB.out b hb; omega), hO9.base, hbl.trans (hb9.mono (Nat.le_succ _))⟩)
      have Hrun := Lib.hid hrun
      simp only [callCells] at Hrun ⊢
      clear hOw hbl hys hO9 hb9 hrun hE hO hown hpl
      go_wp2_with (at_builtin; refine wpList_append_run rfl (.tmp 23) (.tmp 26) 67 rfl rfl rfl Hrun.out ?_)
      go_roundw
      case rel => exact ⟨j + 1, ys ++ [y], A9, c9, by go_num, rfl, hlt, by rw [HRE.out]; exact HN.out⟩
      case measure => simp [intOf]; omega
    · obtain rfl : j = xs.length := by have := HJ.out; omega
      have hE := H.out.2.2.1
      rw [List.drop_length] at hE
      have hE0 : EyeAt wr w.heap.size sb [] 0 := hE
      have hOw := H.out.2.2.2.1
      have hcl := cls_of_own (hOw.own 0 _ rfl) (crow_prs hOw) H.out.1
      have hok : ∀ y ∈ ys, CallOk y := by
        intro y hy
        obtain ⟨i, hi, rfl⟩ := List.mem_iff_getElem.1 hy
        have hi' : i < xs.length := by have := H.out.1; omega
        exact (H.out.2.1 i hi' hi).ok (HXO.out _ (List.getElem_mem hi'))
      have hck := ccheck_any A5 c5 ys wr (by rw [H.out.1]; exact hcl) hok (by have := H.out.1; omega)
      rw [if_pos (H.out.2.1.may H.out.1 HMy.out), H.out.1] at hck
      have HCK := Lib.hid hck
      have HF := Lib.hid (And.intro H.out.1 (And.intro H.out.2.1 (And.intro hcl H.out.2.2.2.2)))
      have HE0 := Lib.hid hE0
      clear hE hE0 hOw hcl hok hck H hlt
      go_wp2_with fail
      refine (eyeclose_any w.heap.size sb [] 0 _ HE0.out (by decide)).mono ?_
      rintro e wq ⟨rfl, rfl⟩
      go_wp2_with fail
      refine HCK.out.mono ?_
      rintro e w7 ⟨rfl, hb7⟩
      have H7 := Lib.hid hb7
      clear hb7
      go_wp2_with fail
      exact bodyPost_ret (v := .tuple #[.slice A5 xs.length c5, .int .i64 0]) (by simp [results, Try.results67, go_sem, *]) rfl ⟨A5, c5, ys, rfl, HF.out.1, HF.out.2.1, HF.out.2.2.1.up H7.out, below_of HF.out.2.2.2 H7.out⟩

end Go.Proofs.Ythbafbgnclpbpaa
