/- Contract of package history: call, read of bytes that were written. -/
import Derived.Test.YthbafbgnclpbpaaHWrA
namespace Go.Proofs.Ythbafbgnclpbpaa
open Go.RowKit

/-- A call as it is read again: its operation is plain. -/
def plainC (x : CallD) (pa : Option Addr) (pc : Nat) : CallD := ⟨x.thread, if opB x.op = true then plainO x.op else opZero, x.since, x.done, x.upto, x.steps, x.short, x.ans, pa, pc⟩
set_option maxHeartbeats 1000000 in
theorem call1_any (g1 ep : Nat) (sb : Option Nat) (n top : Nat) (R : List Nat) (w : World) (h : EyeAt w ep sb (dig n ++ R) 0) (hg : w.cell? ⟨g1, 0, none⟩ = some (.pointer (some ⟨ep, 0, none⟩))) (hx : ∀ x ∈ dig n ++ R, x < 256) (hl : (dig n ++ R).length ≤ 1000000) (hn : n ≤ top) (ht : top ≤ 1099511627776) :
    Calls Try.prog 109 #[.int .u64 (top : Int), .pointer (some ⟨g1, 0, none⟩)] w (EyeTo (.int .i64 (n : Int)) w ep sb R 0) := by
  have hu := eyeUp_dig (n := n) (top := top) (by omega) hn R
  have HC := Lib.hid (eyenum_any ep sb (dig n ++ R) 0 top w h hx hl)
  rw [hu] at HC
  have hw : IntKind.i64.wrap (n : Int) = (n : Int) := by rw [IntKind.wrap_i64]; omega
  clear h hx hl hu hn ht
  go_enter Try.func109, Try.ntmps109
  go_wp2_with fail
  refine HC.out.mono ?_
  rintro e w2 ⟨rfl, hE, hO⟩
  have HE := Lib.hid (And.intro hE hO)
  clear hE hO HC hg
  go_wp2_with fail
  go_ret
  exact ⟨rfl, HE.out⟩

theorem truth_any (ep : Nat) (sb : Option Nat) (b : Bool) (R : List Nat) (w : World) (h : EyeAt w ep sb (dig (bits1 b) ++ R) 0) (hx : ∀ x ∈ dig (bits1 b) ++ R, x < 256) (hl : (dig (bits1 b) ++ R).length ≤ 1000000) :
    Calls Try.prog 37 #[.pointer (some ⟨ep, 0, none⟩)] w (EyeTo (.bool b) w ep sb R 0) := by
  have hb1 : bits1 b ≤ 1 := by cases b <;> decide
  have hu := eyeUp_dig (n := bits1 b) (top := 1) (by omega) hb1 R
  have := eyetruth_any ep sb (dig (bits1 b) ++ R) 0 w h hx hl
  rw [hu] at this
  refine EyeTo.to this ?_ rfl rfl
  cases b <;> rfl

/-- A call that is read: the eye, the variable with the eye, the result's, the pairs of its answer. -/
structure Rc (w X : World) (ep : Nat) (sb : Option Nat) (l : List Nat) (cs : List Value) (vr : Value) (ps : List PairD) : Prop where
  eye : EyeAt X ep sb l 0
  off : Off (fun k => k = ep) w X
  ptr : X.heap[w.heap.size]? = some (.cells #[.pointer (some ⟨ep, 0, none⟩)] 47 (0, 0))
  res : X.heap[w.heap.size + 1]? = some (.cells cs.toArray 71 (0, 0))
  row : X.ownsRow (w.heap.size + 2) 32 2 vr ps.length (prRow ps)
  epw : ep < w.heap.size
  sbw : ∀ b, sb = some b → b < w.heap.size
section
variable {w X X1 : World} {ep : Nat} {sb : Option Nat} {l l1 : List Nat} {cs : List Value} {vr vr' : Value} {ps ps' : List PairD}
theorem Rc.lt (h : Rc w X ep sb l cs vr ps) : w.heap.size + 1 < X.heap.size := (Array.getElem?_eq_some_iff.1 h.res).1
theorem Rc.eye_ (h : Rc w X ep sb l cs vr ps) (hE : EyeAt X1 ep sb l1 0) (hO : Off (fun k => k = ep) X X1) : Rc w X1 ep sb l1 cs vr ps := by
  have h1 := h.epw
  have h2 := h.lt
  exact ⟨hE, h.off.trans hO (fun _ _ e => e), (hO.block _ (by omega) (by omega)).trans h.ptr, (hO.block _ h2 (by omega)).trans h.res, own_off h.row hO (fun k hk e => by have := (own_lt h.row hk).1; omega), h1, h.sbw⟩
theorem Rc.up (h : Rc w X ep sb l cs vr ps) (hb : Below X.heap.size X X1) : Rc w X1 ep sb l cs vr ps := h.eye_ (h.eye.below hb) (Off.of_below hb _)
theorem Rc.set (h : Rc w X ep sb l cs vr ps) (k : Nat) (v : Value) : Rc w (X.setCell ⟨w.heap.size + 1, k, none⟩ v) ep sb l (cs.set k v) vr ps := by
  have h1 := h.epw
  have h2 := h.lt
  have hs := Off.of_setCell X ⟨w.heap.size + 1, k, none⟩ v
  exact ⟨h.eye.off hs (fun e => by simp only [] at e; omega) (fun b hb e => by have := h.sbw b hb; simp only [] at e; omega), h.off.trans hs (fun j hj e => by simp only [] at e; omega),
    (hs.block _ (by omega) (by simp only []; omega)).trans h.ptr, heap_set h.res k v, own_off h.row hs (fun j hj e => by have := (own_lt h.row hj).1; simp only [] at e; omega), h1, h.sbw⟩
theorem Rc.put (h : Rc w X ep sb l cs vr ps) (ho : X.ownsRow (w.heap.size + 2) 32 2 vr' ps'.length (prRow ps')) : Rc w X ep sb l cs vr' ps' := { h with row := ho }
theorem Rc.cell (h : Rc w X ep sb l cs vr ps) (k : Nat) (hk : k < cs.length) : X.cell? ⟨w.heap.size + 1, k, none⟩ = some cs[k] := heap_cell h.res k hk
theorem Rc.pcell (h : Rc w X ep sb l cs vr ps) : X.cell? ⟨w.heap.size, 0, none⟩ = some (.pointer (some ⟨ep, 0, none⟩)) := by rw [cell_of_row X w.heap.size 0 _ _ _ h.ptr]; rfl
theorem Rc.start (h : EyeAt w ep sb l 0) (hsb : ∀ b, sb = some b → b < w.heap.size) (cs : List Value) : Rc w ((w.alloc (.cells #[.pointer (some ⟨ep, 0, none⟩)] 47)).alloc (.cells cs.toArray 71)) ep sb l cs (.slice none 0 0) [] := by
  have h1 := below_alloc w (.cells #[.pointer (some ⟨ep, 0, none⟩)] 47)
  have h2 := below_alloc (w.alloc (.cells #[.pointer (some ⟨ep, 0, none⟩)] 47)) (.cells cs.toArray 71)
  have hs : (w.alloc (.cells #[.pointer (some ⟨ep, 0, none⟩)] 47)).heap.size = w.heap.size + 1 := by simp
  refine ⟨(h.below h1).below h2, Off.of_below (below_of h1 h2) _, ?_, ?_, World.ownsRow_nil _ _ _ _, h.lt, hsb⟩
  · rw [h2.block w.heap.size (by omega)]
    exact heap_alloc_new w _
  · rw [← hs]
    exact heap_alloc_new _ _
end
theorem ansB_eq {a b : AnsD} (h : ansB a b = true) : a = b := by
  unfold ansB at h
  simp only [Bool.and_eq_true, decide_eq_true_iff] at h
  obtain ⟨h1, h2, h3, h4⟩ := h
  cases a
  cases b
  simp_all
set_option maxRecDepth 100000 in
set_option maxHeartbeats 16000000 in
theorem hcall_no (ep : Nat) (sb : Option Nat) (x : CallD) (R : List Nat) (w : World) (h : EyeAt w ep sb (callBytes x ++ R) 0) (hsnd : sndC x = true) (hok : CallOk x) (hsm : Small x) (hby : ∀ b ∈ callBytes x ++ R, b < 256) (hl : (callBytes x ++ R).length ≤ 1000000) (hsb : ∀ b, sb = some b → b < w.heap.size) (hob : opB x.op = false) :
    Calls Try.prog 99 #[.pointer (some ⟨ep, 0, none⟩)] w (fun e w' => ∃ pa pc, e = .returned (.agg (callCells (plainC x pa pc))) ∧ EyeAt w' ep sb R 0 ∧ Off (fun k => k = ep) w w' ∧ w'.ownsRow w.heap.size 32 2 (.slice pa x.ans.pairs.length pc) x.ans.pairs.length (prRow x.ans.pairs)) := by
  have hnn := sndC_nums hsnd
  have hth := hnn.1.2
  have hs1 := hsm.since
  have hs2 := hsm.done
  have hs3 := hsm.upto
  have hs4 := hsm.steps
  have HAZ := Lib.hid (fun q => ansB_eq (hnn.2.2.2.2.2.1 q))
  have HAS := Lib.hid hnn.2.2.2.2.2.2
  have HOO := Lib.hid hok.op
  have HAO := Lib.hid hok.ans
  obtain ⟨tn, htn⟩ := Int.eq_ofNat_of_zero_le hnn.1.1
  obtain ⟨sn, hsn⟩ := Int.eq_ofNat_of_zero_le hnn.2.1
  obtain ⟨en, hen⟩ := Int.eq_ofNat_of_zero_le hnn.2.2.1
  obtain ⟨dn, hdn⟩ := Int.eq_ofNat_of_zero_le (show 0 ≤ x.done + 1 by have := hnn.2.2.2.1; omega)
  obtain ⟨un, hun⟩ := Int.eq_ofNat_of_zero_le (show 0 ≤ x.upto + 1 by have := hnn.2.2.2.2.1; omega)
  have hepl := h.lt
  have hbx : (fun b => True) ep := trivial
  obtain ⟨thread, op, since, done, upto, steps, short, ans, pa0, pc0⟩ := x
  simp only [] at htn hsn hen hdn hun hth hs1 hs2 hs3 hs4 HAZ HAS HOO HAO hob
  subst htn hsn hen
  obtain rfl : done = (dn : Int) - 1 := by omega
  obtain rfl : upto = (un : Int) - 1 := by omega
  have hcb : callBytes ⟨(tn : Int), op, (sn : Int), (dn : Int) - 1, (un : Int) - 1, (en : Int), short, ans, pa0, pc0⟩ ++ R = dig tn ++ (dig sn ++ (dig dn ++ (dig un ++ (dig en ++ (dig (bits1 short) ++ (dig (bits1 (opB op)) ++ (callOp ⟨(tn : Int), op, (sn : Int), (dn : Int) - 1, (un : Int) - 1, (en : Int), short, ans, pa0, pc0⟩ ++ (callAns ⟨(tn : Int), op, (sn : Int), (dn : Int) - 1, (un : Int) - 1, (en : Int), short, ans, pa0, pc0⟩ ++ R)))))))) := by
    have h1 : dig (bits1 short) = [bits1 short] := dig_small (by cases short <;> decide)
    have h2 : dig (bits1 (opB op)) = [bits1 (opB op)] := dig_small (by cases opB op <;> decide)
    have e1 : ((dn : Int) - 1 + 1).toNat = dn := by omega
    have e2 : ((un : Int) - 1 + 1).toNat = un := by omega
    rw [h1, h2]
    unfold callBytes callHead
    simp only [Int.toNat_natCast, e1, e2, List.append_assoc, List.cons_append, List.nil_append]
  rw [hcb] at h hby hl
  have HCO := Lib.hid (show callOp ⟨(tn : Int), op, (sn : Int), (dn : Int) - 1, (un : Int) - 1, (en : Int), short, ans, pa0, pc0⟩ = if opB op = true then opBytes op else [] from rfl)
  have HCA := Lib.hid (show callAns ⟨(tn : Int), op, (sn : Int), (dn : Int) - 1, (un : Int) - 1, (en : Int), short, ans, pa0, pc0⟩ = if (un : Int) - 1 = -1 then [] else ansBytes ans from rfl)
  generalize callOp ⟨(tn : Int), op, (sn : Int), (dn : Int) - 1, (un : Int) - 1, (en : Int), short, ans, pa0, pc0⟩ = CO at h hby hl HCO
  generalize callAns ⟨(tn : Int), op, (sn : Int), (dn : Int) - 1, (un : Int) - 1, (en : Int), short, ans, pa0, pc0⟩ = CA at h hby hl HCA
  clear hcb hnn hsnd hok hsm hbx
  obtain ⟨l7, hl7⟩ : ∃ l, l = CO ++ (CA ++ R) := ⟨_, rfl⟩
  obtain ⟨l6, hl6⟩ : ∃ l, l = dig (bits1 (opB op)) ++ l7 := ⟨_, rfl⟩
  obtain ⟨l5, hl5⟩ : ∃ l, l = dig (bits1 short) ++ l6 := ⟨_, rfl⟩
  obtain ⟨l4, hl4⟩ : ∃ l, l = dig en ++ l5 := ⟨_, rfl⟩
  obtain ⟨l3, hl3⟩ : ∃ l, l = dig un ++ l4 := ⟨_, rfl⟩
  obtain ⟨l2, hl2⟩ : ∃ l, l = dig dn ++ l3 := ⟨_, rfl⟩
  obtain ⟨l1, hl1⟩ : ∃ l, l = dig sn ++ l2 := ⟨_, rfl⟩
  rw [← hl7, ← hl6, ← hl5, ← hl4, ← hl3, ← hl2, ← hl1] at h hby hl
  have B1 : (∀ b ∈ l1, b < 256) ∧ l1.length ≤ 1000000 := ⟨fun b hb => hby b (List.mem_append_right _ hb), by rw [List.length_append] at hl; omega⟩
  have B2 : (∀ b ∈ l2, b < 256) ∧ l2.length ≤ 1000000 := ⟨fun b hb => B1.1 b (by rw [hl1]; exact List.mem_append_right _ hb), by have := B1.2; rw [hl1, List.length_append] at this; omega⟩
  have B3 : (∀ b ∈ l3, b < 256) ∧ l3.length ≤ 1000000 := ⟨fun b hb => B2.1 b (by rw [hl2]; exact List.mem_append_right _ hb), by have := B2.2; rw [hl2, List.length_append] at this; omega⟩
  have B4 : (∀ b ∈ l4, b < 256) ∧ l4.length ≤ 1000000 := ⟨fun b hb => B3.1 b (by rw [hl3]; exact List.mem_append_right _ hb), by have := B3.2; rw [hl3, List.length_append] at this; omega⟩
  have B5 : (∀ b ∈ l5, b < 256) ∧ l5.length ≤ 1000000 := ⟨fun b hb => B4.1 b (by rw [hl4]; exact List.mem_append_right _ hb), by have := B4.2; rw [hl4, List.length_append] at this; omega⟩
  have B6 : (∀ b ∈ l6, b < 256) ∧ l6.length ≤ 1000000 := ⟨fun b hb => B5.1 b (by rw [hl5]; exact List.mem_append_right _ hb), by have := B5.2; rw [hl5, List.length_append] at this; omega⟩
  have B7 : (∀ b ∈ l7, b < 256) ∧ l7.length ≤ 1000000 := ⟨fun b hb => B6.1 b (by rw [hl6]; exact List.mem_append_right _ hb), by have := B6.2; rw [hl6, List.length_append] at this; omega⟩
  have K1 := Lib.hid (fun g W hE hg => call1_any g ep sb tn 15 l1 W hE hg hby hl (by omega) (by omega))
  rw [hl1] at B1
  have K2 := Lib.hid (fun g W (hE : EyeAt W ep sb l1 0) hg => call1_any g ep sb sn 1099511627776 l2 W (by rw [← hl1]; exact hE) hg B1.1 B1.2 (by omega) (by omega))
  rw [hl2] at B2
  have K3 := Lib.hid (fun g W (hE : EyeAt W ep sb l2 0) hg => call1_any g ep sb dn 1099511627776 l3 W (by rw [← hl2]; exact hE) hg B2.1 B2.2 (by omega) (by omega))
  rw [hl3] at B3
  have K4 := Lib.hid (fun g W (hE : EyeAt W ep sb l3 0) hg => call1_any g ep sb un 1099511627776 l4 W (by rw [← hl3]; exact hE) hg B3.1 B3.2 (by omega) (by omega))
  rw [hl4] at B4
  have K5 := Lib.hid (fun g W (hE : EyeAt W ep sb l4 0) hg => call1_any g ep sb en 1099511627776 l5 W (by rw [← hl4]; exact hE) hg B4.1 B4.2 (by omega) (by omega))
  have K6 := Lib.hid (fun W (hE : EyeAt W ep sb l5 0) => truth_any ep sb short l6 W (by rw [← hl5]; exact hE) (by rw [← hl5]; exact B5.1) (by rw [← hl5]; exact B5.2))
  have K7 := Lib.hid (fun W (hE : EyeAt W ep sb l6 0) => truth_any ep sb (opB op) l7 W (by rw [← hl6]; exact hE) (by rw [← hl6]; exact B6.1) (by rw [← hl6]; exact B6.2))
  have HL7 := Lib.hid (And.intro hl7 B7)
  have HS := Lib.hid (Rc.start h hsb [.int .i64 0, .int .i64 0, .string ⟨#[]⟩, .string ⟨#[]⟩, .int .u64 0, .int .i64 0, .int .i64 0, .int .i64 0, .int .i64 0, .int .i64 0, .bool false, .int .i64 0, .string ⟨#[]⟩, .int .u64 0, .slice none 0 0])
  have hwd : wrap64 ((dn : Int) - 1) = (dn : Int) - 1 := by unfold wrap64; omega
  have hwu : wrap64 ((un : Int) - 1) = (un : Int) - 1 := by unfold wrap64; omega
  have HRR := Lib.hid (fun (W : World) (hW : EyeAt W ep sb l7 0) (hs : ∀ b, sb = some b → b < W.heap.size) (q : opB op = true) => show Calls Try.prog 61 #[.pointer (some ⟨ep, 0, none⟩)] W (EyeTo (.tuple #[.agg (opCells (plainO op)), .bool true]) W ep sb (CA ++ R) 0) from by
    have hco := HCO.out
    rw [if_pos q] at hco
    have e : l7 = opBytes op ++ (CA ++ R) := by rw [HL7.out.1, hco]
    have h9 := opread_any ep sb l7 0 W hW HL7.out.2.1 HL7.out.2.2 hs
    rw [e, opRd_good q HOO.out] at h9
    exact h9)
  have HRA := Lib.hid (fun (W : World) (hW : EyeAt W ep sb (CA ++ R) 0) (hs : ∀ b, sb = some b → b < W.heap.size) (hb : (∀ b ∈ CA ++ R, b < 256) ∧ (CA ++ R).length ≤ 1000000) (q : (un : Int) - 1 ≠ -1) => show Calls Try.prog 50 #[.pointer (some ⟨ep, 0, none⟩)] W (AnsTo W ep sb (true, ans, R, 0)) from by
    have hca := HCA.out
    rw [if_neg q] at hca
    have h9 := ansread_any ep sb (CA ++ R) 0 W hW hb.1 hb.2 hs
    rw [hca, ansRd_good (HAS.out q) HAO.out] at h9
    exact h9)
  have HBR := Lib.hid (show (∀ b ∈ CA ++ R, b < 256) ∧ (CA ++ R).length ≤ 1000000 from ⟨fun b hb => B7.1 b (by rw [hl7]; exact List.mem_append_right _ hb), by have := B7.2; rw [hl7, List.length_append] at this; omega⟩)
  have HSB := Lib.hid (fun (W : World) (hle : w.heap.size ≤ W.heap.size) b hb => Nat.lt_of_lt_of_le (hsb b hb) hle)
  clear h hby hl hsb hs1 hs4 hepl hl1 hl2 hl3 hl4 hl5 hl6 hl7 B1 B2 B3 B4 B5 B6 B7
  go_enter Try.func99, Try.ntmps99
  go_upto_region 1 with fail
  generalize (w.alloc _).alloc _ = X at HS ⊢
  have xp := HS.out.pcell
  have x0 := (HS.out.cell 0 (by simp))
  have f0 := heap_frozen HS.out.res 0
  have x1 := (HS.out.cell 1 (by simp))
  have f1 := heap_frozen HS.out.res 1
  have x2 := (HS.out.cell 2 (by simp))
  have f2 := heap_frozen HS.out.res 2
  have x3 := (HS.out.cell 3 (by simp))
  have f3 := heap_frozen HS.out.res 3
  have x4 := (HS.out.cell 4 (by simp))
  have f4 := heap_frozen HS.out.res 4
  have x5 := (HS.out.cell 5 (by simp))
  have f5 := heap_frozen HS.out.res 5
  have x6 := (HS.out.cell 6 (by simp))
  have f6 := heap_frozen HS.out.res 6
  have x7 := (HS.out.cell 7 (by simp))
  have f7 := heap_frozen HS.out.res 7
  have x8 := (HS.out.cell 8 (by simp))
  have f8 := heap_frozen HS.out.res 8
  have x9 := (HS.out.cell 9 (by simp))
  have f9 := heap_frozen HS.out.res 9
  have x10 := (HS.out.cell 10 (by simp))
  have f10 := heap_frozen HS.out.res 10
  have x11 := (HS.out.cell 11 (by simp))
  have f11 := heap_frozen HS.out.res 11
  have x12 := (HS.out.cell 12 (by simp))
  have f12 := heap_frozen HS.out.res 12
  have x13 := (HS.out.cell 13 (by simp))
  have f13 := heap_frozen HS.out.res 13
  have x14 := (HS.out.cell 14 (by simp))
  have f14 := heap_frozen HS.out.res 14
  (try simp only [List.getElem_cons_zero, List.getElem_cons_succ] at x0 x1 x2 x3 x4 x5 x6 x7 x8 x9 x10 x11 x12 x13 x14)
  go_wp2_with fail
  refine (K1.out w.heap.size _ HS.out.eye HS.out.pcell).mono ?_
  rintro e X ⟨rfl, hE, hO⟩
  clear xp x0 x1 x2 x3 x4 x5 x6 x7 x8 x9 x10 x11 x12 x13 x14 f0 f1 f2 f3 f4 f5 f6 f7 f8 f9 f10 f11 f12 f13 f14
  replace HS := Lib.hid (HS.out.eye_ hE hO)
  clear hE hO
  have xp := HS.out.pcell
  have x0 := (HS.out.cell 0 (by simp))
  have f0 := heap_frozen HS.out.res 0
  have x1 := (HS.out.cell 1 (by simp))
  have f1 := heap_frozen HS.out.res 1
  have x2 := (HS.out.cell 2 (by simp))
  have f2 := heap_frozen HS.out.res 2
  have x3 := (HS.out.cell 3 (by simp))
  have f3 := heap_frozen HS.out.res 3
  have x4 := (HS.out.cell 4 (by simp))
  have f4 := heap_frozen HS.out.res 4
  have x5 := (HS.out.cell 5 (by simp))
  have f5 := heap_frozen HS.out.res 5
  have x6 := (HS.out.cell 6 (by simp))
  have f6 := heap_frozen HS.out.res 6
  have x7 := (HS.out.cell 7 (by simp))
  have f7 := heap_frozen HS.out.res 7
  have x8 := (HS.out.cell 8 (by simp))
  have f8 := heap_frozen HS.out.res 8
  have x9 := (HS.out.cell 9 (by simp))
  have f9 := heap_frozen HS.out.res 9
  have x10 := (HS.out.cell 10 (by simp))
  have f10 := heap_frozen HS.out.res 10
  have x11 := (HS.out.cell 11 (by simp))
  have f11 := heap_frozen HS.out.res 11
  have x12 := (HS.out.cell 12 (by simp))
  have f12 := heap_frozen HS.out.res 12
  have x13 := (HS.out.cell 13 (by simp))
  have f13 := heap_frozen HS.out.res 13
  have x14 := (HS.out.cell 14 (by simp))
  have f14 := heap_frozen HS.out.res 14
  (try simp only [List.getElem_cons_zero, List.getElem_cons_succ] at x0 x1 x2 x3 x4 x5 x6 x7 x8 x9 x10 x11 x12 x13 x14)
  go_wp2_with fail
  refine (K2.out w.heap.size _ HS.out.eye HS.out.pcell).mono ?_
  rintro e X ⟨rfl, hE, hO⟩
  clear xp x0 x1 x2 x3 x4 x5 x6 x7 x8 x9 x10 x11 x12 x13 x14 f0 f1 f2 f3 f4 f5 f6 f7 f8 f9 f10 f11 f12 f13 f14
  replace HS := Lib.hid (HS.out.eye_ hE hO)
  clear hE hO
  have xp := HS.out.pcell
  have x0 := (HS.out.cell 0 (by simp))
  have f0 := heap_frozen HS.out.res 0
  have x1 := (HS.out.cell 1 (by simp))
  have f1 := heap_frozen HS.out.res 1
  have x2 := (HS.out.cell 2 (by simp))
  have f2 := heap_frozen HS.out.res 2
  have x3 := (HS.out.cell 3 (by simp))
  have f3 := heap_frozen HS.out.res 3
  have x4 := (HS.out.cell 4 (by simp))
  have f4 := heap_frozen HS.out.res 4
  have x5 := (HS.out.cell 5 (by simp))
  have f5 := heap_frozen HS.out.res 5
  have x6 := (HS.out.cell 6 (by simp))
  have f6 := heap_frozen HS.out.res 6
  have x7 := (HS.out.cell 7 (by simp))
  have f7 := heap_frozen HS.out.res 7
  have x8 := (HS.out.cell 8 (by simp))
  have f8 := heap_frozen HS.out.res 8
  have x9 := (HS.out.cell 9 (by simp))
  have f9 := heap_frozen HS.out.res 9
  have x10 := (HS.out.cell 10 (by simp))
  have f10 := heap_frozen HS.out.res 10
  have x11 := (HS.out.cell 11 (by simp))
  have f11 := heap_frozen HS.out.res 11
  have x12 := (HS.out.cell 12 (by simp))
  have f12 := heap_frozen HS.out.res 12
  have x13 := (HS.out.cell 13 (by simp))
  have f13 := heap_frozen HS.out.res 13
  have x14 := (HS.out.cell 14 (by simp))
  have f14 := heap_frozen HS.out.res 14
  (try simp only [List.getElem_cons_zero, List.getElem_cons_succ] at x0 x1 x2 x3 x4 x5 x6 x7 x8 x9 x10 x11 x12 x13 x14)
  go_upto_region 3 with fail
  have hs := (HS.out.set 0 (.int .i64 (tn : Int))).set 6 (.int .i64 (sn : Int))
  simp only [List.set_cons_zero, List.set_cons_succ] at hs
  clear xp x0 x1 x2 x3 x4 x5 x6 x7 x8 x9 x10 x11 x12 x13 x14 f0 f1 f2 f3 f4 f5 f6 f7 f8 f9 f10 f11 f12 f13 f14
  generalize World.setCell _ _ _ = X3 at hs ⊢
  replace HS := Lib.hid hs
  clear hs
  have xp := HS.out.pcell
  have x0 := (HS.out.cell 0 (by simp))
  have f0 := heap_frozen HS.out.res 0
  have x1 := (HS.out.cell 1 (by simp))
  have f1 := heap_frozen HS.out.res 1
  have x2 := (HS.out.cell 2 (by simp))
  have f2 := heap_frozen HS.out.res 2
  have x3 := (HS.out.cell 3 (by simp))
  have f3 := heap_frozen HS.out.res 3
  have x4 := (HS.out.cell 4 (by simp))
  have f4 := heap_frozen HS.out.res 4
  have x5 := (HS.out.cell 5 (by simp))
  have f5 := heap_frozen HS.out.res 5
  have x6 := (HS.out.cell 6 (by simp))
  have f6 := heap_frozen HS.out.res 6
  have x7 := (HS.out.cell 7 (by simp))
  have f7 := heap_frozen HS.out.res 7
  have x8 := (HS.out.cell 8 (by simp))
  have f8 := heap_frozen HS.out.res 8
  have x9 := (HS.out.cell 9 (by simp))
  have f9 := heap_frozen HS.out.res 9
  have x10 := (HS.out.cell 10 (by simp))
  have f10 := heap_frozen HS.out.res 10
  have x11 := (HS.out.cell 11 (by simp))
  have f11 := heap_frozen HS.out.res 11
  have x12 := (HS.out.cell 12 (by simp))
  have f12 := heap_frozen HS.out.res 12
  have x13 := (HS.out.cell 13 (by simp))
  have f13 := heap_frozen HS.out.res 13
  have x14 := (HS.out.cell 14 (by simp))
  have f14 := heap_frozen HS.out.res 14
  (try simp only [List.getElem_cons_zero, List.getElem_cons_succ] at x0 x1 x2 x3 x4 x5 x6 x7 x8 x9 x10 x11 x12 x13 x14)
  go_wp2_with fail
  refine (K3.out w.heap.size _ HS.out.eye HS.out.pcell).mono ?_
  rintro e X ⟨rfl, hE, hO⟩
  clear xp x0 x1 x2 x3 x4 x5 x6 x7 x8 x9 x10 x11 x12 x13 x14 f0 f1 f2 f3 f4 f5 f6 f7 f8 f9 f10 f11 f12 f13 f14
  replace HS := Lib.hid (HS.out.eye_ hE hO)
  clear hE hO
  have xp := HS.out.pcell
  have x0 := (HS.out.cell 0 (by simp))
  have f0 := heap_frozen HS.out.res 0
  have x1 := (HS.out.cell 1 (by simp))
  have f1 := heap_frozen HS.out.res 1
  have x2 := (HS.out.cell 2 (by simp))
  have f2 := heap_frozen HS.out.res 2
  have x3 := (HS.out.cell 3 (by simp))
  have f3 := heap_frozen HS.out.res 3
  have x4 := (HS.out.cell 4 (by simp))
  have f4 := heap_frozen HS.out.res 4
  have x5 := (HS.out.cell 5 (by simp))
  have f5 := heap_frozen HS.out.res 5
  have x6 := (HS.out.cell 6 (by simp))
  have f6 := heap_frozen HS.out.res 6
  have x7 := (HS.out.cell 7 (by simp))
  have f7 := heap_frozen HS.out.res 7
  have x8 := (HS.out.cell 8 (by simp))
  have f8 := heap_frozen HS.out.res 8
  have x9 := (HS.out.cell 9 (by simp))
  have f9 := heap_frozen HS.out.res 9
  have x10 := (HS.out.cell 10 (by simp))
  have f10 := heap_frozen HS.out.res 10
  have x11 := (HS.out.cell 11 (by simp))
  have f11 := heap_frozen HS.out.res 11
  have x12 := (HS.out.cell 12 (by simp))
  have f12 := heap_frozen HS.out.res 12
  have x13 := (HS.out.cell 13 (by simp))
  have f13 := heap_frozen HS.out.res 13
  have x14 := (HS.out.cell 14 (by simp))
  have f14 := heap_frozen HS.out.res 14
  (try simp only [List.getElem_cons_zero, List.getElem_cons_succ] at x0 x1 x2 x3 x4 x5 x6 x7 x8 x9 x10 x11 x12 x13 x14)
  go_wp2_with fail
  refine (K4.out w.heap.size _ HS.out.eye HS.out.pcell).mono ?_
  rintro e X ⟨rfl, hE, hO⟩
  clear xp x0 x1 x2 x3 x4 x5 x6 x7 x8 x9 x10 x11 x12 x13 x14 f0 f1 f2 f3 f4 f5 f6 f7 f8 f9 f10 f11 f12 f13 f14
  replace HS := Lib.hid (HS.out.eye_ hE hO)
  clear hE hO
  have xp := HS.out.pcell
  have x0 := (HS.out.cell 0 (by simp))
  have f0 := heap_frozen HS.out.res 0
  have x1 := (HS.out.cell 1 (by simp))
  have f1 := heap_frozen HS.out.res 1
  have x2 := (HS.out.cell 2 (by simp))
  have f2 := heap_frozen HS.out.res 2
  have x3 := (HS.out.cell 3 (by simp))
  have f3 := heap_frozen HS.out.res 3
  have x4 := (HS.out.cell 4 (by simp))
  have f4 := heap_frozen HS.out.res 4
  have x5 := (HS.out.cell 5 (by simp))
  have f5 := heap_frozen HS.out.res 5
  have x6 := (HS.out.cell 6 (by simp))
  have f6 := heap_frozen HS.out.res 6
  have x7 := (HS.out.cell 7 (by simp))
  have f7 := heap_frozen HS.out.res 7
  have x8 := (HS.out.cell 8 (by simp))
  have f8 := heap_frozen HS.out.res 8
  have x9 := (HS.out.cell 9 (by simp))
  have f9 := heap_frozen HS.out.res 9
  have x10 := (HS.out.cell 10 (by simp))
  have f10 := heap_frozen HS.out.res 10
  have x11 := (HS.out.cell 11 (by simp))
  have f11 := heap_frozen HS.out.res 11
  have x12 := (HS.out.cell 12 (by simp))
  have f12 := heap_frozen HS.out.res 12
  have x13 := (HS.out.cell 13 (by simp))
  have f13 := heap_frozen HS.out.res 13
  have x14 := (HS.out.cell 14 (by simp))
  have f14 := heap_frozen HS.out.res 14
  (try simp only [List.getElem_cons_zero, List.getElem_cons_succ] at x0 x1 x2 x3 x4 x5 x6 x7 x8 x9 x10 x11 x12 x13 x14)
  go_wp2_with fail
  refine (K5.out w.heap.size _ HS.out.eye HS.out.pcell).mono ?_
  rintro e X ⟨rfl, hE, hO⟩
  clear xp x0 x1 x2 x3 x4 x5 x6 x7 x8 x9 x10 x11 x12 x13 x14 f0 f1 f2 f3 f4 f5 f6 f7 f8 f9 f10 f11 f12 f13 f14
  replace HS := Lib.hid (HS.out.eye_ hE hO)
  clear hE hO
  have xp := HS.out.pcell
  have x0 := (HS.out.cell 0 (by simp))
  have f0 := heap_frozen HS.out.res 0
  have x1 := (HS.out.cell 1 (by simp))
  have f1 := heap_frozen HS.out.res 1
  have x2 := (HS.out.cell 2 (by simp))
  have f2 := heap_frozen HS.out.res 2
  have x3 := (HS.out.cell 3 (by simp))
  have f3 := heap_frozen HS.out.res 3
  have x4 := (HS.out.cell 4 (by simp))
  have f4 := heap_frozen HS.out.res 4
  have x5 := (HS.out.cell 5 (by simp))
  have f5 := heap_frozen HS.out.res 5
  have x6 := (HS.out.cell 6 (by simp))
  have f6 := heap_frozen HS.out.res 6
  have x7 := (HS.out.cell 7 (by simp))
  have f7 := heap_frozen HS.out.res 7
  have x8 := (HS.out.cell 8 (by simp))
  have f8 := heap_frozen HS.out.res 8
  have x9 := (HS.out.cell 9 (by simp))
  have f9 := heap_frozen HS.out.res 9
  have x10 := (HS.out.cell 10 (by simp))
  have f10 := heap_frozen HS.out.res 10
  have x11 := (HS.out.cell 11 (by simp))
  have f11 := heap_frozen HS.out.res 11
  have x12 := (HS.out.cell 12 (by simp))
  have f12 := heap_frozen HS.out.res 12
  have x13 := (HS.out.cell 13 (by simp))
  have f13 := heap_frozen HS.out.res 13
  have x14 := (HS.out.cell 14 (by simp))
  have f14 := heap_frozen HS.out.res 14
  (try simp only [List.getElem_cons_zero, List.getElem_cons_succ] at x0 x1 x2 x3 x4 x5 x6 x7 x8 x9 x10 x11 x12 x13 x14)
  go_upto_region 4 with fail
  have hs := ((HS.out.set 7 (.int .i64 ((dn : Int) - 1))).set 8 (.int .i64 ((un : Int) - 1))).set 9 (.int .i64 (en : Int))
  simp only [List.set_cons_zero, List.set_cons_succ] at hs
  clear xp x0 x1 x2 x3 x4 x5 x6 x7 x8 x9 x10 x11 x12 x13 x14 f0 f1 f2 f3 f4 f5 f6 f7 f8 f9 f10 f11 f12 f13 f14
  generalize World.setCell _ _ _ = X4 at hs ⊢
  replace HS := Lib.hid hs
  clear hs
  have xp := HS.out.pcell
  have x0 := (HS.out.cell 0 (by simp))
  have f0 := heap_frozen HS.out.res 0
  have x1 := (HS.out.cell 1 (by simp))
  have f1 := heap_frozen HS.out.res 1
  have x2 := (HS.out.cell 2 (by simp))
  have f2 := heap_frozen HS.out.res 2
  have x3 := (HS.out.cell 3 (by simp))
  have f3 := heap_frozen HS.out.res 3
  have x4 := (HS.out.cell 4 (by simp))
  have f4 := heap_frozen HS.out.res 4
  have x5 := (HS.out.cell 5 (by simp))
  have f5 := heap_frozen HS.out.res 5
  have x6 := (HS.out.cell 6 (by simp))
  have f6 := heap_frozen HS.out.res 6
  have x7 := (HS.out.cell 7 (by simp))
  have f7 := heap_frozen HS.out.res 7
  have x8 := (HS.out.cell 8 (by simp))
  have f8 := heap_frozen HS.out.res 8
  have x9 := (HS.out.cell 9 (by simp))
  have f9 := heap_frozen HS.out.res 9
  have x10 := (HS.out.cell 10 (by simp))
  have f10 := heap_frozen HS.out.res 10
  have x11 := (HS.out.cell 11 (by simp))
  have f11 := heap_frozen HS.out.res 11
  have x12 := (HS.out.cell 12 (by simp))
  have f12 := heap_frozen HS.out.res 12
  have x13 := (HS.out.cell 13 (by simp))
  have f13 := heap_frozen HS.out.res 13
  have x14 := (HS.out.cell 14 (by simp))
  have f14 := heap_frozen HS.out.res 14
  (try simp only [List.getElem_cons_zero, List.getElem_cons_succ] at x0 x1 x2 x3 x4 x5 x6 x7 x8 x9 x10 x11 x12 x13 x14)
  go_wp2_with fail
  refine (K6.out _ HS.out.eye).mono ?_
  rintro e X ⟨rfl, hE, hO⟩
  clear xp x0 x1 x2 x3 x4 x5 x6 x7 x8 x9 x10 x11 x12 x13 x14 f0 f1 f2 f3 f4 f5 f6 f7 f8 f9 f10 f11 f12 f13 f14
  replace HS := Lib.hid (HS.out.eye_ hE hO)
  clear hE hO
  have xp := HS.out.pcell
  have x0 := (HS.out.cell 0 (by simp))
  have f0 := heap_frozen HS.out.res 0
  have x1 := (HS.out.cell 1 (by simp))
  have f1 := heap_frozen HS.out.res 1
  have x2 := (HS.out.cell 2 (by simp))
  have f2 := heap_frozen HS.out.res 2
  have x3 := (HS.out.cell 3 (by simp))
  have f3 := heap_frozen HS.out.res 3
  have x4 := (HS.out.cell 4 (by simp))
  have f4 := heap_frozen HS.out.res 4
  have x5 := (HS.out.cell 5 (by simp))
  have f5 := heap_frozen HS.out.res 5
  have x6 := (HS.out.cell 6 (by simp))
  have f6 := heap_frozen HS.out.res 6
  have x7 := (HS.out.cell 7 (by simp))
  have f7 := heap_frozen HS.out.res 7
  have x8 := (HS.out.cell 8 (by simp))
  have f8 := heap_frozen HS.out.res 8
  have x9 := (HS.out.cell 9 (by simp))
  have f9 := heap_frozen HS.out.res 9
  have x10 := (HS.out.cell 10 (by simp))
  have f10 := heap_frozen HS.out.res 10
  have x11 := (HS.out.cell 11 (by simp))
  have f11 := heap_frozen HS.out.res 11
  have x12 := (HS.out.cell 12 (by simp))
  have f12 := heap_frozen HS.out.res 12
  have x13 := (HS.out.cell 13 (by simp))
  have f13 := heap_frozen HS.out.res 13
  have x14 := (HS.out.cell 14 (by simp))
  have f14 := heap_frozen HS.out.res 14
  (try simp only [List.getElem_cons_zero, List.getElem_cons_succ] at x0 x1 x2 x3 x4 x5 x6 x7 x8 x9 x10 x11 x12 x13 x14)
  go_upto_region 5 with fail
  have hs := HS.out.set 10 (.bool short)
  simp only [List.set_cons_zero, List.set_cons_succ] at hs
  clear xp x0 x1 x2 x3 x4 x5 x6 x7 x8 x9 x10 x11 x12 x13 x14 f0 f1 f2 f3 f4 f5 f6 f7 f8 f9 f10 f11 f12 f13 f14
  generalize World.setCell _ _ _ = X5 at hs ⊢
  replace HS := Lib.hid hs
  clear hs
  have xp := HS.out.pcell
  have x0 := (HS.out.cell 0 (by simp))
  have f0 := heap_frozen HS.out.res 0
  have x1 := (HS.out.cell 1 (by simp))
  have f1 := heap_frozen HS.out.res 1
  have x2 := (HS.out.cell 2 (by simp))
  have f2 := heap_frozen HS.out.res 2
  have x3 := (HS.out.cell 3 (by simp))
  have f3 := heap_frozen HS.out.res 3
  have x4 := (HS.out.cell 4 (by simp))
  have f4 := heap_frozen HS.out.res 4
  have x5 := (HS.out.cell 5 (by simp))
  have f5 := heap_frozen HS.out.res 5
  have x6 := (HS.out.cell 6 (by simp))
  have f6 := heap_frozen HS.out.res 6
  have x7 := (HS.out.cell 7 (by simp))
  have f7 := heap_frozen HS.out.res 7
  have x8 := (HS.out.cell 8 (by simp))
  have f8 := heap_frozen HS.out.res 8
  have x9 := (HS.out.cell 9 (by simp))
  have f9 := heap_frozen HS.out.res 9
  have x10 := (HS.out.cell 10 (by simp))
  have f10 := heap_frozen HS.out.res 10
  have x11 := (HS.out.cell 11 (by simp))
  have f11 := heap_frozen HS.out.res 11
  have x12 := (HS.out.cell 12 (by simp))
  have f12 := heap_frozen HS.out.res 12
  have x13 := (HS.out.cell 13 (by simp))
  have f13 := heap_frozen HS.out.res 13
  have x14 := (HS.out.cell 14 (by simp))
  have f14 := heap_frozen HS.out.res 14
  (try simp only [List.getElem_cons_zero, List.getElem_cons_succ] at x0 x1 x2 x3 x4 x5 x6 x7 x8 x9 x10 x11 x12 x13 x14)
  clear K1 K2 K3 K4 K5 K6
  rw [hob] at K7
  have HOP := Lib.hid hob
  clear hob HRR
  have hl7 : l7 = CA ++ R := by rw [HL7.out.1, HCO.out, if_neg (by rw [HOP.out]; exact Bool.false_ne_true)]; rfl
  go_wp2_with fail
  refine (K7.out _ HS.out.eye).mono ?_
  rintro e X ⟨rfl, hE, hO⟩
  clear xp x0 x1 x2 x3 x4 x5 x6 x7 x8 x9 x10 x11 x12 x13 x14 f0 f1 f2 f3 f4 f5 f6 f7 f8 f9 f10 f11 f12 f13 f14
  rw [hl7] at hE
  replace HS := Lib.hid (HS.out.eye_ hE hO)
  clear hE hO hl7 K7
  have xp := HS.out.pcell
  have x0 := (HS.out.cell 0 (by simp))
  have f0 := heap_frozen HS.out.res 0
  have x1 := (HS.out.cell 1 (by simp))
  have f1 := heap_frozen HS.out.res 1
  have x2 := (HS.out.cell 2 (by simp))
  have f2 := heap_frozen HS.out.res 2
  have x3 := (HS.out.cell 3 (by simp))
  have f3 := heap_frozen HS.out.res 3
  have x4 := (HS.out.cell 4 (by simp))
  have f4 := heap_frozen HS.out.res 4
  have x5 := (HS.out.cell 5 (by simp))
  have f5 := heap_frozen HS.out.res 5
  have x6 := (HS.out.cell 6 (by simp))
  have f6 := heap_frozen HS.out.res 6
  have x7 := (HS.out.cell 7 (by simp))
  have f7 := heap_frozen HS.out.res 7
  have x8 := (HS.out.cell 8 (by simp))
  have f8 := heap_frozen HS.out.res 8
  have x9 := (HS.out.cell 9 (by simp))
  have f9 := heap_frozen HS.out.res 9
  have x10 := (HS.out.cell 10 (by simp))
  have f10 := heap_frozen HS.out.res 10
  have x11 := (HS.out.cell 11 (by simp))
  have f11 := heap_frozen HS.out.res 11
  have x12 := (HS.out.cell 12 (by simp))
  have f12 := heap_frozen HS.out.res 12
  have x13 := (HS.out.cell 13 (by simp))
  have f13 := heap_frozen HS.out.res 13
  have x14 := (HS.out.cell 14 (by simp))
  have f14 := heap_frozen HS.out.res 14
  (try simp only [List.getElem_cons_zero, List.getElem_cons_succ] at x0 x1 x2 x3 x4 x5 x6 x7 x8 x9 x10 x11 x12 x13 x14)
  by_cases hu : (un : Int) - 1 = -1
  · have hub : (((un : Int) - 1) != (-1 : Int)) = false := by rw [hu]; rfl
    obtain rfl : ans = ansZ := HAZ.out hu
    have hs := HS.out
    have hca := HCA.out
    rw [if_pos hu] at hca
    rw [hca, List.nil_append] at hs
    replace HS := Lib.hid hs
    clear hs hca hu
    have hz := ((((((((((((((HS.out.set 0 (.int .i64 (tn : Int))).set 1 (.int .i64 0)).set 2 (.string ⟨#[]⟩)).set 3 (.string ⟨#[]⟩)).set 4 (.int .u64 0)).set 5 (.int .i64 0)).set 6 (.int .i64 (sn : Int))).set 7 (.int .i64 ((dn : Int) - 1))).set 8 (.int .i64 ((un : Int) - 1))).set 9 (.int .i64 (en : Int))).set 10 (.bool short)).set 11 (.int .i64 0)).set 12 (.string ⟨#[]⟩)).set 13 (.int .u64 0)).set 14 (.slice none 0 0)
    have HZ := Lib.hid (And.intro hz.eye (And.intro hz.off hz.row))
    clear hz
    go_wp2_with fail
    exact bodyPost_ret (v := .agg #[.int .i64 (tn : Int), .int .i64 0, .string ⟨#[]⟩, .string ⟨#[]⟩, .int .u64 0, .int .i64 0, .int .i64 (sn : Int), .int .i64 ((dn : Int) - 1), .int .i64 ((un : Int) - 1), .int .i64 (en : Int), .bool short, .int .i64 0, .string ⟨#[]⟩, .int .u64 0, .slice none 0 0]) (by simp [results, Try.results99, go_sem, *]) rfl
      ⟨none, 0, by simp only [plainC, HOP.out, Bool.false_eq_true, if_false]; rfl, HZ.out.1, HZ.out.2.1, own_less HZ.out.2.2 (by omega)⟩
  · have hub : (((un : Int) - 1) != (-1 : Int)) = true := by simp [hu]
    have HA9 := Lib.hid (fun W hW hs => HRA.out W hW hs HBR.out hu)
    clear hu
    go_wp2_with fail
    refine (HA9.out _ HS.out.eye (HSB.out _ HS.out.off.size)).mono ?_
    rintro e X ⟨A9, c9, rfl, -, hE, hO, hown⟩
    clear xp x0 x1 x2 x3 x4 x5 x6 x7 x8 x9 x10 x11 x12 x13 x14 f0 f1 f2 f3 f4 f5 f6 f7 f8 f9 f10 f11 f12 f13 f14
    have hle := HS.out.lt
    replace HS := Lib.hid ((HS.out.eye_ hE hO).put (own_less hown (Nat.succ_le_of_lt hle)))
    clear hE hO hown hle HA9
    have xp := HS.out.pcell
    have x0 := (HS.out.cell 0 (by simp))
    have f0 := heap_frozen HS.out.res 0
    have x1 := (HS.out.cell 1 (by simp))
    have f1 := heap_frozen HS.out.res 1
    have x2 := (HS.out.cell 2 (by simp))
    have f2 := heap_frozen HS.out.res 2
    have x3 := (HS.out.cell 3 (by simp))
    have f3 := heap_frozen HS.out.res 3
    have x4 := (HS.out.cell 4 (by simp))
    have f4 := heap_frozen HS.out.res 4
    have x5 := (HS.out.cell 5 (by simp))
    have f5 := heap_frozen HS.out.res 5
    have x6 := (HS.out.cell 6 (by simp))
    have f6 := heap_frozen HS.out.res 6
    have x7 := (HS.out.cell 7 (by simp))
    have f7 := heap_frozen HS.out.res 7
    have x8 := (HS.out.cell 8 (by simp))
    have f8 := heap_frozen HS.out.res 8
    have x9 := (HS.out.cell 9 (by simp))
    have f9 := heap_frozen HS.out.res 9
    have x10 := (HS.out.cell 10 (by simp))
    have f10 := heap_frozen HS.out.res 10
    have x11 := (HS.out.cell 11 (by simp))
    have f11 := heap_frozen HS.out.res 11
    have x12 := (HS.out.cell 12 (by simp))
    have f12 := heap_frozen HS.out.res 12
    have x13 := (HS.out.cell 13 (by simp))
    have f13 := heap_frozen HS.out.res 13
    have x14 := (HS.out.cell 14 (by simp))
    have f14 := heap_frozen HS.out.res 14
    (try simp only [List.getElem_cons_zero, List.getElem_cons_succ] at x0 x1 x2 x3 x4 x5 x6 x7 x8 x9 x10 x11 x12 x13 x14)
    simp only [ansCells]
    go_upto_region 9 with fail
    have hs := (((HS.out.set 11 (.int .i64 ans.code)).set 12 (.string ans.key)).set 13 (.int .u64 (ans.val : Int))).set 14 (.slice A9 ans.pairs.length c9)
    simp only [List.set_cons_zero, List.set_cons_succ] at hs
    clear xp x0 x1 x2 x3 x4 x5 x6 x7 x8 x9 x10 x11 x12 x13 x14 f0 f1 f2 f3 f4 f5 f6 f7 f8 f9 f10 f11 f12 f13 f14
    generalize World.setCell _ _ _ = X7 at hs ⊢
    replace HS := Lib.hid hs
    clear hs
    have xp := HS.out.pcell
    have x0 := (HS.out.cell 0 (by simp))
    have f0 := heap_frozen HS.out.res 0
    have x1 := (HS.out.cell 1 (by simp))
    have f1 := heap_frozen HS.out.res 1
    have x2 := (HS.out.cell 2 (by simp))
    have f2 := heap_frozen HS.out.res 2
    have x3 := (HS.out.cell 3 (by simp))
    have f3 := heap_frozen HS.out.res 3
    have x4 := (HS.out.cell 4 (by simp))
    have f4 := heap_frozen HS.out.res 4
    have x5 := (HS.out.cell 5 (by simp))
    have f5 := heap_frozen HS.out.res 5
    have x6 := (HS.out.cell 6 (by simp))
    have f6 := heap_frozen HS.out.res 6
    have x7 := (HS.out.cell 7 (by simp))
    have f7 := heap_frozen HS.out.res 7
    have x8 := (HS.out.cell 8 (by simp))
    have f8 := heap_frozen HS.out.res 8
    have x9 := (HS.out.cell 9 (by simp))
    have f9 := heap_frozen HS.out.res 9
    have x10 := (HS.out.cell 10 (by simp))
    have f10 := heap_frozen HS.out.res 10
    have x11 := (HS.out.cell 11 (by simp))
    have f11 := heap_frozen HS.out.res 11
    have x12 := (HS.out.cell 12 (by simp))
    have f12 := heap_frozen HS.out.res 12
    have x13 := (HS.out.cell 13 (by simp))
    have f13 := heap_frozen HS.out.res 13
    have x14 := (HS.out.cell 14 (by simp))
    have f14 := heap_frozen HS.out.res 14
    (try simp only [List.getElem_cons_zero, List.getElem_cons_succ] at x0 x1 x2 x3 x4 x5 x6 x7 x8 x9 x10 x11 x12 x13 x14)
    have hz := ((((((((((((((HS.out.set 0 (.int .i64 (tn : Int))).set 1 (.int .i64 0)).set 2 (.string ⟨#[]⟩)).set 3 (.string ⟨#[]⟩)).set 4 (.int .u64 0)).set 5 (.int .i64 0)).set 6 (.int .i64 (sn : Int))).set 7 (.int .i64 ((dn : Int) - 1))).set 8 (.int .i64 ((un : Int) - 1))).set 9 (.int .i64 (en : Int))).set 10 (.bool short)).set 11 (.int .i64 ans.code)).set 12 (.string ans.key)).set 13 (.int .u64 (ans.val : Int))).set 14 (.slice A9 ans.pairs.length c9)
    have HZ := Lib.hid (And.intro hz.eye (And.intro hz.off hz.row))
    clear hz
    go_wp2_with fail
    exact bodyPost_ret (v := .agg #[.int .i64 (tn : Int), .int .i64 0, .string ⟨#[]⟩, .string ⟨#[]⟩, .int .u64 0, .int .i64 0, .int .i64 (sn : Int), .int .i64 ((dn : Int) - 1), .int .i64 ((un : Int) - 1), .int .i64 (en : Int), .bool short, .int .i64 ans.code, .string ans.key, .int .u64 (ans.val : Int), .slice A9 ans.pairs.length c9]) (by simp [results, Try.results99, go_sem, *]) rfl
      ⟨A9, c9, by simp only [plainC, HOP.out, Bool.false_eq_true, if_false]; rfl, HZ.out.1, HZ.out.2.1, own_less HZ.out.2.2 (by omega)⟩

end Go.Proofs.Ythbafbgnclpbpaa
