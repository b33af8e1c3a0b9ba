/- Contracts of package answer: Read. -/
import Derived.Test.YthbafbgnclpbpaaAns6
import Derived.Test.YthbafbgnclpbpaaARef
import Derived.Test.YthbafbgnclpbpaaEye4
namespace Go.Proofs.Ythbafbgnclpbpaa
open Go.RowKit

/-- An answer is handed back, an eye has read it. -/
def AnsTo (w : World) (ep : Nat) (sb : Option Nat) (q : Bool × AnsD × List Nat × Int) (e : Ending) (w' : World) : Prop :=
  ∃ A c, e = .returned (.tuple #[.agg (ansCells q.2.1 A c), .bool q.1]) ∧ Prs w' A q.2.1.pairs.length q.2.1.pairs ∧ EyeAt w' ep sb q.2.2.1 q.2.2.2 ∧ Off (fun k => k = ep) w w' ∧ w'.ownsRow w.heap.size 32 2 (.slice A q.2.1.pairs.length c) q.2.1.pairs.length (prRow q.2.1.pairs)

theorem prs_nil2 (w : World) (A : Option Addr) : Prs w A 0 [] := ⟨rfl, fun h => absurd h (Nat.lt_irrefl 0)⟩
theorem sub_tr {l m n : List Nat} (h : ∃ k, m = l.drop k) (h2 : ∃ k, n = m.drop k) : ∃ k, n = l.drop k := by
  obtain ⟨k, rfl⟩ := h
  obtain ⟨j, rfl⟩ := h2
  exact ⟨k + j, by rw [List.drop_drop]⟩
theorem wrong_sub (l : List Nat) (f : Int) : ∃ k, wrongL l f = l.drop k := by
  unfold wrongL
  split
  · exact ⟨l.length, by simp⟩
  · exact ⟨0, rfl⟩
theorem txt_sub (top : Int) (l : List Nat) (f : Int) : ∃ k, (eyeTxt top l f).2.1 = l.drop k := by
  unfold eyeTxt
  split
  · exact wrong_sub l f
  · split
    · exact sub_tr (eyeUp_sub top.toNat l f) (wrong_sub _ _)
    · exact sub_tr (eyeUp_sub top.toNat l f) ⟨_, rfl⟩
theorem up_le (top : Nat) (l : List Nat) (f : Int) : (eyeUp top l f).1 ≤ top := by
  unfold eyeUp
  split
  · split
    · exact Nat.zero_le _
    · simp only []; omega
  · exact Nat.zero_le _

/-- An eye that reads an answer: the eye, the result's variable, the answer's, its pairs. -/
structure Ra (w X : World) (ep : Nat) (sb : Option Nat) (l : List Nat) (f : Int) (g : Nat) (a : AnsD) (A : Option Addr) (c : Nat) : Prop where
  eye : EyeAt X ep sb l f
  off : Off (fun k => k = ep) w X
  res : X.heap[w.heap.size]? = some (.cells #[.int .i64 0, .string ⟨#[]⟩, .int .u64 0, .slice none 0 0] 25 (0, 0))
  box : X.heap[g]? = some (.cells (ansCells a A c) 25 (0, 0))
  row : X.ownsRow (w.heap.size + 1) 32 2 (.slice A a.pairs.length c) a.pairs.length (prRow a.pairs)
  ne : ∀ k, (Value.slice A a.pairs.length c).ownBlock = some k → k ≠ g
  ng : w.heap.size < g
  epw : ep < w.heap.size
  sbw : ∀ b, sb = some b → b < w.heap.size
  bytes : ∀ x ∈ l, x < 256
  len : l.length ≤ 1000000
theorem Ra.glt {w X : World} {ep : Nat} {sb : Option Nat} {l : List Nat} {f : Int} {g : Nat} {a : AnsD} {A : Option Addr} {c : Nat} (h : Ra w X ep sb l f g a A c) : g < X.heap.size := (Array.getElem?_eq_some_iff.1 h.box).1
theorem Ra.eye_ {w X X1 : World} {ep : Nat} {sb : Option Nat} {l l1 : List Nat} {f f1 : Int} {g : Nat} {a : AnsD} {A : Option Addr} {c : Nat} (h : Ra w X ep sb l f g a A c) (hE : EyeAt X1 ep sb l1 f1) (hO : Off (fun k => k = ep) X X1) (hs : ∃ k, l1 = l.drop k) : Ra w X1 ep sb l1 f1 g a A c := by
  have h1 := h.epw
  have h2 := h.ng
  have h3 := h.glt
  exact ⟨hE, h.off.trans hO (fun _ _ e => e), (hO.block _ (by omega) (by omega)).trans h.res, (hO.block _ h3 (by omega)).trans h.box, owns_off h.row hO (fun k hk e => by have := (h.row.lt k hk).1; omega), h.ne, h2, h1, h.sbw, drop_lt h.bytes hs, Nat.le_trans (drop_le hs) h.len⟩
theorem Ra.up {w X X1 : World} {ep : Nat} {sb : Option Nat} {l : List Nat} {f : Int} {g : Nat} {a : AnsD} {A : Option Addr} {c : Nat} (h : Ra w X ep sb l f g a A c) (hb : Below X.heap.size X X1) : Ra w X1 ep sb l f g a A c :=
  h.eye_ (h.eye.below hb) (Off.of_below hb _) ⟨0, rfl⟩
theorem Ra.facts {w X : World} {ep : Nat} {sb : Option Nat} {l : List Nat} {f : Int} {g : Nat} {a : AnsD} {A : Option Addr} {c : Nat} (h : Ra w X ep sb l f g a A c) :
    X.cell? ⟨g, 0, none⟩ = some (.int .i64 a.code) ∧ X.cell? ⟨g, 1, none⟩ = some (.string a.key) ∧ X.cell? ⟨g, 2, none⟩ = some (.int .u64 (a.val : Int)) ∧ X.cell? ⟨g, 3, none⟩ = some (.slice A a.pairs.length c) ∧ X.frozen? ⟨g, 3, none⟩ = false ∧
    X.cell? ⟨w.heap.size, 0, none⟩ = some (.int .i64 0) ∧ X.cell? ⟨w.heap.size, 1, none⟩ = some (.string ⟨#[]⟩) ∧ X.cell? ⟨w.heap.size, 2, none⟩ = some (.int .u64 0) ∧ X.cell? ⟨w.heap.size, 3, none⟩ = some (.slice none 0 0) ∧
    X.frozen? ⟨w.heap.size, 0, none⟩ = false ∧ X.frozen? ⟨w.heap.size, 1, none⟩ = false ∧ X.frozen? ⟨w.heap.size, 2, none⟩ = false ∧ X.frozen? ⟨w.heap.size, 3, none⟩ = false := by
  simp [World.cell?, World.frozen?, h.box, h.res, ansCells]
theorem Ra.start {w X3 : World} {ep : Nat} {sb : Option Nat} {l l3 : List Nat} {f3 : Int} {a : AnsD} (hp : a.pairs = [])
    (hE : EyeAt X3 ep sb l3 f3) (hO : Off (fun k => k = ep) (w.alloc (.cells #[.int .i64 0, .string ⟨#[]⟩, .int .u64 0, .slice none 0 0] 25)) X3)
    (hep : ep < w.heap.size) (hsb : ∀ b, sb = some b → b < w.heap.size) (hx : ∀ x ∈ l, x < 256) (hl : l.length ≤ 1000000) (hsub : ∃ k, l3 = l.drop k) :
    Ra w (X3.alloc (.cells (ansCells a none 0) 25)) ep sb l3 f3 X3.heap.size a none 0 := by
  have s0 : (w.alloc (.cells #[.int .i64 0, .string ⟨#[]⟩, .int .u64 0, .slice none 0 0] 25)).heap.size = w.heap.size + 1 := by simp
  have s2 := hO.size
  have B := below_alloc X3 (.cells (ansCells a none 0) 25)
  refine ⟨hE.below B, ?_, ?_, heap_alloc_new X3 _, by rw [hp]; exact World.ownsRow_nil _ _ _ _, fun k hk => (by cases hk), by omega, hep, hsb, drop_lt hx hsub, Nat.le_trans (drop_le hsub) hl⟩
  · exact ((Off.of_below (below_alloc w _) (fun k => k = ep)).trans hO (fun _ _ e => e)).trans (Off.of_below B (fun k => k = ep)) (fun _ _ e => e)
  · exact (B.block _ (by omega)).trans ((hO.block _ (by omega) (by omega)).trans (heap_alloc_new w _))
theorem Ra.push {w X : World} {ep : Nat} {sb : Option Nat} {l : List Nat} {f : Int} {g : Nat} {a : AnsD} {A : Option Addr} {c : Nat} (h : Ra w X ep sb l f g a A c) (p : PairD) (hl : a.pairs.length ≤ 10000) :
    ∃ A' c' X3, (Builtin.append_ #[23, 23] 23 #[.slice A a.pairs.length c, .slice (some ⟨X.heap.size, 0, none⟩) 1 1]).run Try.prog (X.alloc (.cells #[.string p.key, .int .u64 (p.val : Int)] 32)) = .ok (.slice A' (a.pairs.length + 1) c') X3 ∧
      X3.cell? ⟨g, 3, none⟩ = some (.slice A a.pairs.length c) ∧ X3.frozen? ⟨g, 3, none⟩ = false ∧ Ra w (X3.setCell ⟨g, 3, none⟩ (.slice A' (a.pairs.length + 1) c')) ep sb l f g ⟨a.code, a.key, a.val, a.pairs ++ [p]⟩ A' c' := by
  have h1 := h.epw
  have h2 := h.ng
  have h3 := h.glt
  have hos := h.off.size
  have hsz : (X.alloc (.cells #[.string p.key, .int .u64 (p.val : Int)] 32)).heap.size = X.heap.size + 1 := by simp
  obtain ⟨A', c', X3, hrun, g2, g3, g5⟩ := pair_push p h.row (by omega) hl 23
  have hba := below_alloc X (.cells #[.string p.key, .int .u64 (p.val : Int)] 32)
  have hO : Off (fun k => some k = (Value.slice A a.pairs.length c).ownBlock) X X3 := (Off.of_below hba _).trans (Off.of_grown g3) (fun _ _ e => e)
  have hS : ∀ k, some k = (Value.slice A a.pairs.length c).ownBlock → w.heap.size < k ∧ k ≠ g := fun k e => ⟨by have := (h.row.lt k e.symm).1; omega, h.ne k e.symm⟩
  have hb3 := (hO.block g h3 (fun e => (hS g e).2 rfl)).trans h.box
  have hs := Off.of_setCell X3 ⟨g, 3, none⟩ (.slice A' (a.pairs.length + 1) c')
  have hne : ∀ k, (Value.slice A' (a.pairs ++ [p]).length c').ownBlock = some k → k ≠ g := by
    intro k hk
    rcases g5 with e | e
    · exact h.ne k (e.symm.trans hk)
    · rw [e] at hk
      injection hk with hk
      omega
  refine ⟨A', c', X3, hrun, by simp [World.cell?, hb3, ansCells], by simp [World.frozen?, hb3], ?_⟩
  refine ⟨(h.eye.off hO (fun e => by have := (hS _ e).1; omega) (fun b hb e => by have := (hS _ e).1; have := h.sbw b hb; omega)).off hs (fun e => by simp only [] at e; omega) (fun b hb e => by have := h.sbw b hb; simp only [] at e; omega), ?_, ?_, ?_, ?_, hne, h2, h1, h.sbw, h.bytes, h.len⟩
  · exact (h.off.trans hO (fun j hj e => by have := (hS _ e).1; omega)).trans hs (fun j hj e => by simp only [] at e; omega)
  · exact ((hs.block _ (by have := hO.size; omega) (by simp only []; omega)).trans (hO.block _ (by omega) (fun e => by have := (hS _ e).1; omega))).trans h.res
  · have e : (ansCells ⟨a.code, a.key, a.val, a.pairs ++ [p]⟩ A' c') = (ansCells a A c).setIfInBounds 3 (.slice A' (a.pairs.length + 1) c') := by simp [ansCells]
    rw [e]
    simp [World.setCell, Array.getElem?_modify, hb3]
  · exact owns_off g2 hs (fun k hk e => hne k hk (by simpa using e))

theorem Ra.fin {w X : World} {ep : Nat} {sb : Option Nat} {l : List Nat} {f : Int} {g : Nat} {a : AnsD} {A : Option Addr} {c : Nat} (h : Ra w X ep sb l f g a A c) (v0 v1 v2 v3 : Value) :
    Prs ((((X.setCell ⟨w.heap.size, 0, none⟩ v0).setCell ⟨w.heap.size, 1, none⟩ v1).setCell ⟨w.heap.size, 2, none⟩ v2).setCell ⟨w.heap.size, 3, none⟩ v3) A a.pairs.length a.pairs ∧
    EyeAt ((((X.setCell ⟨w.heap.size, 0, none⟩ v0).setCell ⟨w.heap.size, 1, none⟩ v1).setCell ⟨w.heap.size, 2, none⟩ v2).setCell ⟨w.heap.size, 3, none⟩ v3) ep sb l f ∧
    Off (fun k => k = ep) w ((((X.setCell ⟨w.heap.size, 0, none⟩ v0).setCell ⟨w.heap.size, 1, none⟩ v1).setCell ⟨w.heap.size, 2, none⟩ v2).setCell ⟨w.heap.size, 3, none⟩ v3) ∧
    ((((X.setCell ⟨w.heap.size, 0, none⟩ v0).setCell ⟨w.heap.size, 1, none⟩ v1).setCell ⟨w.heap.size, 2, none⟩ v2).setCell ⟨w.heap.size, 3, none⟩ v3).ownsRow w.heap.size 32 2 (.slice A a.pairs.length c) a.pairs.length (prRow a.pairs) := by
  have hep := h.epw
  have k := (((Off.of_setCell X ⟨w.heap.size, 0, none⟩ v0).trans (Off.of_setCell _ ⟨w.heap.size, 1, none⟩ v1) (fun _ _ e => e)).trans (Off.of_setCell _ ⟨w.heap.size, 2, none⟩ v2) (fun _ _ e => e)).trans (Off.of_setCell _ ⟨w.heap.size, 3, none⟩ v3) (fun _ _ e => e)
  have hown := owns_off h.row k (fun j hj e => by
    have := (h.row.lt j hj).1
    simp only [] at e
    omega)
  exact ⟨prs_of_own hown, h.eye.off k (fun e => by simp only [] at e; omega) (fun b hb e => by have := h.sbw b hb; simp only [] at e; omega), (h.off).trans k (fun j hj e => by simp only [] at e; omega), own_mono hown (by omega)⟩
theorem prsRd_step {m : Nat} {l : List Nat} : prsRd (m + 1) l 0 = ((prRd l 0).1 :: (prsRd m (prRd l 0).2.1 (prRd l 0).2.2).1, (prsRd m (prRd l 0).2.1 (prRd l 0).2.2).2) := if_pos rfl

set_option maxRecDepth 100000 in
set_option maxHeartbeats 16000000 in
theorem ansread_any (ep : Nat) (sb : Option Nat) (l : List Nat) (f : Int) (w : World) (h : EyeAt w ep sb l f) (hx : ∀ x ∈ l, x < 256) (hl : l.length ≤ 1000000) (hsb : ∀ b, sb = some b → b < w.heap.size) :
    Calls Try.prog 50 #[.pointer (some ⟨ep, 0, none⟩)] w (AnsTo w ep sb (ansRd l f)) := by
  have hrd : ansRd l f = ansFin (ansRaw1 (eyeUp 6 l f).1 (eyeTxt 64 (eyeUp 6 l f).2.1 (eyeUp 6 l f).2.2)) := rfl
  generalize ansRd l f = q at hrd ⊢
  have hb0 := below_alloc w (.cells #[.int .i64 0, .string ⟨#[]⟩, .int .u64 0, .slice none 0 0] 25)
  have hnum := eyenum_any ep sb l f 6 (w.alloc (.cells #[.int .i64 0, .string ⟨#[]⟩, .int .u64 0, .slice none 0 0] 25)) (h.below hb0) hx hl
  have hsub := eyeUp_sub 6 l f
  have hle := up_le 6 l f
  generalize eyeUp 6 l f = r at hrd hnum hsub hle
  obtain ⟨k, l1, f1⟩ := r
  simp only [] at hnum hsub hle hrd
  have HTX := Lib.hid (fun W (hW : EyeAt W ep sb l1 f1) => eyetext_any ep sb l1 f1 64 W hW (drop_lt hx hsub) (Nat.le_trans (drop_le hsub) hl) (by decide))
  have hsub2 := sub_tr hsub (txt_sub 64 l1 f1)
  replace hrd : q = ansFin (ansRaw2 k (eyeTxt 64 l1 f1).1 (eyeUp 18446744073709551615 (eyeTxt 64 l1 f1).2.1 (eyeTxt 64 l1 f1).2.2)) := hrd
  generalize eyeTxt 64 l1 f1 = r at hrd HTX hsub2
  obtain ⟨t, l2, f2⟩ := r
  simp only [] at HTX hsub2 hrd
  have HNM := Lib.hid (fun W (hW : EyeAt W ep sb l2 f2) => eyenum_any ep sb l2 f2 18446744073709551615 W hW (drop_lt hx hsub2) (Nat.le_trans (drop_le hsub2) hl))
  have hsub3 := sub_tr hsub2 (eyeUp_sub 18446744073709551615 l2 f2)
  replace hrd : q = ansFin (ansRaw3 k t (eyeUp 18446744073709551615 l2 f2).1 (eyeUp 4096 (eyeUp 18446744073709551615 l2 f2).2.1 (eyeUp 18446744073709551615 l2 f2).2.2)) := hrd
  generalize eyeUp 18446744073709551615 l2 f2 = r at hrd HNM hsub3
  obtain ⟨v, l3, f3⟩ := r
  simp only [] at HNM hsub3 hrd
  have H0 := Lib.hid (And.intro h.lt (And.intro hsb (And.intro hx (And.intro hl hsub3))))
  have HN := Lib.hid hnum
  have hw : IntKind.i64.wrap (k : Int) = (k : Int) := IntWalk.i64_in _ (by omega)
  have HQ := Lib.hid hrd
  clear hrd hnum hsub hsub2 hsub3 h hsb hx hl hb0
  go_enter Try.func50, Try.ntmps50
  go_wp2_with fail
  refine HN.out.mono ?_
  rintro e X1 ⟨rfl, hE, hO⟩
  have HE := Lib.hid (And.intro hE hO)
  clear hE hO HN
  go_wp2_with fail
  refine (HTX.out _ HE.out.1).mono ?_
  rintro e X1 ⟨rfl, hE, hO⟩
  replace HE := Lib.hid (And.intro hE (HE.out.2.trans hO (fun _ _ e => e)))
  clear hE hO HTX
  go_wp2_with fail
  refine (HNM.out _ HE.out.1).mono ?_
  rintro e X1 ⟨rfl, hE, hO⟩
  replace HE := Lib.hid (And.intro hE (HE.out.2.trans hO (fun _ _ e => e)))
  clear hE hO HNM
  have HR := Lib.hid (Ra.start (a := ⟨k, t, v, []⟩) rfl HE.out.1 HE.out.2 H0.out.1 H0.out.2.1 H0.out.2.2.1 H0.out.2.2.2.1 H0.out.2.2.2.2)
  clear HE H0 hw
  simp only [ansCells, List.length_nil] at HR
  go_upto_region 3 with fail
  generalize X1.alloc _ = X at HR ⊢
  generalize X1.heap.size = g at HR ⊢
  have hnum := eyenum_any ep sb l3 f3 4096 X HR.out.eye HR.out.bytes HR.out.len
  have hsub := eyeUp_sub 4096 l3 f3
  have hle2 := up_le 4096 l3 f3
  replace HQ := Lib.hid (show q = ansFin (ansRaw4 k t v (prsRd (eyeUp 4096 l3 f3).1 (eyeUp 4096 l3 f3).2.1 (eyeUp 4096 l3 f3).2.2)) from HQ.out)
  generalize eyeUp 4096 l3 f3 = r at HQ hnum hsub hle2
  obtain ⟨n, l4, f4⟩ := r
  simp only [] at HQ hnum hsub hle2
  have HN := Lib.hid hnum
  have HS := Lib.hid hsub
  clear hnum hsub
  have hwn : IntKind.i64.wrap (n : Int) = (n : Int) := IntWalk.i64_in _ (by omega)
  go_wp2_with fail
  refine HN.out.mono ?_
  rintro e X1 ⟨rfl, hE, hO⟩
  replace HR := Lib.hid (HR.out.eye_ hE hO HS.out)
  clear hE hO HN HS
  go_wp2_with fail
  go_loopw [22] (fun i wr => ∃ (j : Nat) (ps : List PairD) (l5 : List Nat) (f5 : Int) (A : Option Addr) (c : Nat), i = .int .i64 j ∧ Hid (j ≤ n ∧ ps.length = j ∧ prsRd n l4 f4 = (ps ++ (prsRd (n - j) l5 f5).1, (prsRd (n - j) l5 f5).2) ∧ Ra w wr ep sb l5 f5 g ⟨k, t, v, ps⟩ A c)) (fun i _ => n - (intOf i).toNat)
  case atStart => exact ⟨0, [], l4, f4, none, 0, rfl, Nat.zero_le _, rfl, rfl, HR.out⟩
  case round =>
    obtain ⟨j, ps, l5, f5, A, c, rfl, H⟩ := hrel
    by_cases hlt : j < n
    · have hlt2 : (j : Int) < (n : Int) := by omega
      go_wp2_with fail
      refine (eyefault_any ep sb l5 f5 _ H.out.2.2.2.eye).mono ?_
      rintro e Xf ⟨rfl, rfl⟩
      by_cases hf : f5 = 0
      · subst hf
        obtain ⟨m, hm⟩ : ∃ m, n - j = m + 1 := ⟨n - j - 1, by omega⟩
        have hpl := H.out.2.2.1
        rw [hm, prsRd_step] at hpl
        have hprd : prRd l5 0 = (⟨(eyeTxt 64 l5 0).1, (eyeUp 18446744073709551615 (eyeTxt 64 l5 0).2.1 (eyeTxt 64 l5 0).2.2).1⟩, (eyeUp 18446744073709551615 (eyeTxt 64 l5 0).2.1 (eyeTxt 64 l5 0).2.2).2) := rfl
        have hx5 := H.out.2.2.2.bytes
        have hl5 := H.out.2.2.2.len
        have HCt := Lib.hid (fun W (hW : EyeAt W ep sb l5 0) => eyetext_any ep sb l5 0 64 W hW hx5 hl5 (by decide))
        have hs6 := txt_sub 64 l5 0
        rw [hprd] at hpl
        generalize eyeTxt 64 l5 0 = r at hpl HCt hs6
        obtain ⟨kt, l6, f6⟩ := r
        simp only [] at hpl HCt hs6
        have HCn := Lib.hid (fun W (hW : EyeAt W ep sb l6 f6) => eyenum_any ep sb l6 f6 18446744073709551615 W hW (drop_lt hx5 hs6) (Nat.le_trans (drop_le hs6) hl5))
        have hs7 := eyeUp_sub 18446744073709551615 l6 f6
        generalize eyeUp 18446744073709551615 l6 f6 = r at hpl HCn hs7
        obtain ⟨vv, l7, f7⟩ := r
        simp only [] at hpl HCn hs7
        have HPL := Lib.hid (And.intro hpl (And.intro hs6 (And.intro hs7 (And.intro hm H.out.2.1))))
        have HX := Lib.hid (H.out.2.2.2.up (Below.drew (Below.refl _ _)))
        clear hpl hprd hx5 hl5 hs6 hs7 hm HR hwn
        go_upto_region 6 with fail
        refine wp_region_held_drew (S := fun _ => True) (by kernel_rfl) True.intro (fun hcur => ?_)
        generalize Xf.drew = X at HX ⊢
        refine wpAnyH_take (i := 0) (v := ?_) rfl (by decide +kernel) (by decide +kernel) (by decide +kernel) (fun _ _ _ h => h) (Or.inl ⟨by rfl, ?hy⟩) hcur ?_
        case hy =>
          intro w1 hSw
          go_simp
          (try with_reducible rfl)
        (try simp only [Act.put, List.getElem_toArray, List.getElem_cons_zero, List.getElem_cons_succ, List.setIfInBounds_toArray, List.set_cons_zero, List.set_cons_succ])
        refine wpAnyH_take (i := 2) (v := ?_) rfl (by decide +kernel) (by decide +kernel) (by decide +kernel) (fun _ _ _ h => h) (Or.inl ⟨by rfl, ?hy⟩) hcur ?_
        case hy =>
          intro w1 hSw
          go_simp
          (try with_reducible rfl)
        (try simp only [Act.put, List.getElem_toArray, List.getElem_cons_zero, List.getElem_cons_succ, List.setIfInBounds_toArray, List.set_cons_zero, List.set_cons_succ])
        refine wpAnyH_take (i := 4) (v := ?_) rfl (by decide +kernel) (by decide +kernel) (by decide +kernel) (fun _ _ _ h => h) (Or.inl ⟨by rfl, ?hy⟩) hcur ?_
        case hy =>
          intro w1 hSw
          go_simp
          (try with_reducible rfl)
        (try simp only [Act.put, List.getElem_toArray, List.getElem_cons_zero, List.getElem_cons_succ, List.setIfInBounds_toArray, List.set_cons_zero, List.set_cons_succ])
        refine wpAnyH_ready (rs := [1, 3]) (by decide +kernel) (by simp) ?_
        refine AllReadyH.cons rfl (fun K hK => ?_) (AllReadyH.cons rfl (fun K hK => ?_) AllReadyH.nil)
        · obtain ⟨-, -, -, b3, -, -, -, -, -, -, -, -, -⟩ := HX.out.facts
          simp only [] at b3
          go_simp
          clear b3
          refine hK.out _ _ True.intro (fun _ => ?_)
          clear hK K
          (try simp only [Act.put, List.getElem_toArray, List.getElem_cons_zero, List.getElem_cons_succ, List.setIfInBounds_toArray, List.set_cons_zero, List.set_cons_succ])
          refine wpAnyH_ready (rs := [3]) (by decide +kernel) (by simp) ?_
          refine AllReadyH.cons rfl (fun K hK => ?_) AllReadyH.nil
          go_simp
          refine (HCt.out _ HX.out.eye).mono ?_
          rintro e X ⟨rfl, hE, hO⟩
          replace HX := Lib.hid (HX.out.eye_ hE hO HPL.out.2.1)
          clear hE hO
          go_wp2_with fail
          refine hK.out _ _ True.intro (fun _ => ?_)
          clear hK K
          (try simp only [Act.put, List.getElem_toArray, List.getElem_cons_zero, List.getElem_cons_succ, List.setIfInBounds_toArray, List.set_cons_zero, List.set_cons_succ])
          refine wpAnyH_ready (rs := [5]) (by decide +kernel) (by simp) ?_
          refine AllReadyH.cons rfl (fun K hK => ?_) AllReadyH.nil
          go_simp
          refine (HCn.out _ HX.out.eye).mono ?_
          rintro e X ⟨rfl, hE, hO⟩
          replace HX := Lib.hid (HX.out.eye_ hE hO HPL.out.2.2.1)
          clear hE hO
          go_wp2_with fail
          refine hK.out _ _ True.intro (fun _ => ?_)
          clear hK K
          (try simp only [Act.put, List.getElem_toArray, List.getElem_cons_zero, List.getElem_cons_succ, List.setIfInBounds_toArray, List.set_cons_zero, List.set_cons_succ])
          refine wpAnyH_take (i := 6) (v := ?_) rfl (by decide +kernel) (by decide +kernel) (by decide +kernel) (fun _ _ _ h => h) (Or.inl ⟨by rfl, ?hy⟩) hcur ?_
          case hy =>
            intro w1 hSw
            go_simp
            (try with_reducible rfl)
          (try simp only [Act.put, List.getElem_toArray, List.getElem_cons_zero, List.getElem_cons_succ, List.setIfInBounds_toArray, List.set_cons_zero, List.set_cons_succ])
          refine wpAnyH_ready (rs := [7]) (by decide +kernel) (by simp) ?_
          refine AllReadyH.cons rfl (fun K hK => ?_) AllReadyH.nil
          go_simp
          refine hK.out _ _ True.intro (fun _ => ?_)
          clear hK K
          (try simp only [Act.put, List.getElem_toArray, List.getElem_cons_zero, List.getElem_cons_succ, List.setIfInBounds_toArray, List.set_cons_zero, List.set_cons_succ])
          refine wpAnyH_ready (rs := [8]) (by decide +kernel) (by simp) ?_
          refine AllReadyH.cons rfl (fun K hK => ?_) AllReadyH.nil
          obtain ⟨A', c', X3, hrun, b3, bf, HRn0⟩ := HX.out.push ⟨kt, vv⟩ (by have := HPL.out.2.2.2.2; simp only []; omega)
          have HRn := Lib.hid HRn0
          clear HRn0
          simp only [] at hrun b3 HRn
          rw [if_pos (by rfl)]
          refine oper_append_run (.tmp 28) (.tmp 34) 23 rfl rfl rfl hrun ?_
          refine hK.out _ _ True.intro (fun _ => ?_)
          clear hK K
          (try simp only [Act.put, List.getElem_toArray, List.getElem_cons_zero, List.getElem_cons_succ, List.setIfInBounds_toArray, List.set_cons_zero, List.set_cons_succ])
          clear hrun
          refine wpAnyH_take (i := 9) (v := ?_) rfl (by decide +kernel) (by decide +kernel) (by decide +kernel) (fun _ _ _ h => h) (Or.inl ⟨by rfl, ?hy⟩) hcur ?_
          case hy =>
            intro w1 hSw
            go_simp
            (try with_reducible rfl)
          (try simp only [Act.put, List.getElem_toArray, List.getElem_cons_zero, List.getElem_cons_succ, List.setIfInBounds_toArray, List.set_cons_zero, List.set_cons_succ])
          refine wpAnyH_ready (rs := [10]) (by decide +kernel) (by simp) ?_
          refine AllReadyH.cons rfl (fun K hK => ?_) AllReadyH.nil
          go_simp
          refine hK.out _ _ True.intro (fun _ => ?_)
          clear hK K
          (try simp only [Act.put, List.getElem_toArray, List.getElem_cons_zero, List.getElem_cons_succ, List.setIfInBounds_toArray, List.set_cons_zero, List.set_cons_succ])
          refine wpAnyH_done (by decide +kernel) ?_ _
          go_wp2_with fail
          go_roundw
          case rel =>
            refine ⟨j + 1, ps ++ [⟨kt, vv⟩], l7, f7, A', c', by go_num, by omega, by rw [List.length_append, HPL.out.2.2.2.2]; rfl, ?_, HRn.out⟩
            have h1 := HPL.out.1
            have h2 := HPL.out.2.2.2.1
            rw [show n - (j + 1) = m from by omega, h1]
            simp
          case measure => simp [intOf]; omega
        · go_simp
          refine (HCt.out _ HX.out.eye).mono ?_
          rintro e X ⟨rfl, hE, hO⟩
          replace HX := Lib.hid (HX.out.eye_ hE hO HPL.out.2.1)
          clear hE hO
          go_wp2_with fail
          refine hK.out _ _ True.intro (fun _ => ?_)
          clear hK K
          (try simp only [Act.put, List.getElem_toArray, List.getElem_cons_zero, List.getElem_cons_succ, List.setIfInBounds_toArray, List.set_cons_zero, List.set_cons_succ])
          refine wpAnyH_ready (rs := [1, 5]) (by decide +kernel) (by simp) ?_
          refine AllReadyH.cons rfl (fun K hK => ?_) (AllReadyH.cons rfl (fun K hK => ?_) AllReadyH.nil)
          · obtain ⟨-, -, -, b3, -, -, -, -, -, -, -, -, -⟩ := HX.out.facts
            simp only [] at b3
            go_simp
            clear b3
            refine hK.out _ _ True.intro (fun _ => ?_)
            clear hK K
            (try simp only [Act.put, List.getElem_toArray, List.getElem_cons_zero, List.getElem_cons_succ, List.setIfInBounds_toArray, List.set_cons_zero, List.set_cons_succ])
            refine wpAnyH_ready (rs := [5]) (by decide +kernel) (by simp) ?_
            refine AllReadyH.cons rfl (fun K hK => ?_) AllReadyH.nil
            go_simp
            refine (HCn.out _ HX.out.eye).mono ?_
            rintro e X ⟨rfl, hE, hO⟩
            replace HX := Lib.hid (HX.out.eye_ hE hO HPL.out.2.2.1)
            clear hE hO
            go_wp2_with fail
            refine hK.out _ _ True.intro (fun _ => ?_)
            clear hK K
            (try simp only [Act.put, List.getElem_toArray, List.getElem_cons_zero, List.getElem_cons_succ, List.setIfInBounds_toArray, List.set_cons_zero, List.set_cons_succ])
            refine wpAnyH_take (i := 6) (v := ?_) rfl (by decide +kernel) (by decide +kernel) (by decide +kernel) (fun _ _ _ h => h) (Or.inl ⟨by rfl, ?hy⟩) hcur ?_
            case hy =>
              intro w1 hSw
              go_simp
              (try with_reducible rfl)
            (try simp only [Act.put, List.getElem_toArray, List.getElem_cons_zero, List.getElem_cons_succ, List.setIfInBounds_toArray, List.set_cons_zero, List.set_cons_succ])
            refine wpAnyH_ready (rs := [7]) (by decide +kernel) (by simp) ?_
            refine AllReadyH.cons rfl (fun K hK => ?_) AllReadyH.nil
            go_simp
            refine hK.out _ _ True.intro (fun _ => ?_)
            clear hK K
            (try simp only [Act.put, List.getElem_toArray, List.getElem_cons_zero, List.getElem_cons_succ, List.setIfInBounds_toArray, List.set_cons_zero, List.set_cons_succ])
            refine wpAnyH_ready (rs := [8]) (by decide +kernel) (by simp) ?_
            refine AllReadyH.cons rfl (fun K hK => ?_) AllReadyH.nil
            obtain ⟨A', c', X3, hrun, b3, bf, HRn0⟩ := HX.out.push ⟨kt, vv⟩ (by have := HPL.out.2.2.2.2; simp only []; omega)
            have HRn := Lib.hid HRn0
            clear HRn0
            simp only [] at hrun b3 HRn
            rw [if_pos (by rfl)]
            refine oper_append_run (.tmp 28) (.tmp 34) 23 rfl rfl rfl hrun ?_
            refine hK.out _ _ True.intro (fun _ => ?_)
            clear hK K
            (try simp only [Act.put, List.getElem_toArray, List.getElem_cons_zero, List.getElem_cons_succ, List.setIfInBounds_toArray, List.set_cons_zero, List.set_cons_succ])
            clear hrun
            refine wpAnyH_take (i := 9) (v := ?_) rfl (by decide +kernel) (by decide +kernel) (by decide +kernel) (fun _ _ _ h => h) (Or.inl ⟨by rfl, ?hy⟩) hcur ?_
            case hy =>
              intro w1 hSw
              go_simp
              (try with_reducible rfl)
            (try simp only [Act.put, List.getElem_toArray, List.getElem_cons_zero, List.getElem_cons_succ, List.setIfInBounds_toArray, List.set_cons_zero, List.set_cons_succ])
            refine wpAnyH_ready (rs := [10]) (by decide +kernel) (by simp) ?_
            refine AllReadyH.cons rfl (fun K hK => ?_) AllReadyH.nil
            go_simp
            refine hK.out _ _ True.intro (fun _ => ?_)
            clear hK K
            (try simp only [Act.put, List.getElem_toArray, List.getElem_cons_zero, List.getElem_cons_succ, List.setIfInBounds_toArray, List.set_cons_zero, List.set_cons_succ])
            refine wpAnyH_done (by decide +kernel) ?_ _
            go_wp2_with fail
            go_roundw
            case rel =>
              refine ⟨j + 1, ps ++ [⟨kt, vv⟩], l7, f7, A', c', by go_num, by omega, by rw [List.length_append, HPL.out.2.2.2.2]; rfl, ?_, HRn.out⟩
              have h1 := HPL.out.1
              have h2 := HPL.out.2.2.2.1
              rw [show n - (j + 1) = m from by omega, h1]
              simp
            case measure => simp [intOf]; omega
          · go_simp
            refine (HCn.out _ HX.out.eye).mono ?_
            rintro e X ⟨rfl, hE, hO⟩
            replace HX := Lib.hid (HX.out.eye_ hE hO HPL.out.2.2.1)
            clear hE hO
            go_wp2_with fail
            refine hK.out _ _ True.intro (fun _ => ?_)
            clear hK K
            (try simp only [Act.put, List.getElem_toArray, List.getElem_cons_zero, List.getElem_cons_succ, List.setIfInBounds_toArray, List.set_cons_zero, List.set_cons_succ])
            refine wpAnyH_take (i := 6) (v := ?_) rfl (by decide +kernel) (by decide +kernel) (by decide +kernel) (fun _ _ _ h => h) (Or.inl ⟨by rfl, ?hy⟩) hcur ?_
            case hy =>
              intro w1 hSw
              go_simp
              (try with_reducible rfl)
            (try simp only [Act.put, List.getElem_toArray, List.getElem_cons_zero, List.getElem_cons_succ, List.setIfInBounds_toArray, List.set_cons_zero, List.set_cons_succ])
            refine wpAnyH_ready (rs := [1, 7]) (by decide +kernel) (by simp) ?_
            refine AllReadyH.cons rfl (fun K hK => ?_) (AllReadyH.cons rfl (fun K hK => ?_) AllReadyH.nil)
            · obtain ⟨-, -, -, b3, -, -, -, -, -, -, -, -, -⟩ := HX.out.facts
              simp only [] at b3
              go_simp
              clear b3
              refine hK.out _ _ True.intro (fun _ => ?_)
              clear hK K
              (try simp only [Act.put, List.getElem_toArray, List.getElem_cons_zero, List.getElem_cons_succ, List.setIfInBounds_toArray, List.set_cons_zero, List.set_cons_succ])
              refine wpAnyH_ready (rs := [7]) (by decide +kernel) (by simp) ?_
              refine AllReadyH.cons rfl (fun K hK => ?_) AllReadyH.nil
              go_simp
              refine hK.out _ _ True.intro (fun _ => ?_)
              clear hK K
              (try simp only [Act.put, List.getElem_toArray, List.getElem_cons_zero, List.getElem_cons_succ, List.setIfInBounds_toArray, List.set_cons_zero, List.set_cons_succ])
              refine wpAnyH_ready (rs := [8]) (by decide +kernel) (by simp) ?_
              refine AllReadyH.cons rfl (fun K hK => ?_) AllReadyH.nil
              obtain ⟨A', c', X3, hrun, b3, bf, HRn0⟩ := HX.out.push ⟨kt, vv⟩ (by have := HPL.out.2.2.2.2; simp only []; omega)
              have HRn := Lib.hid HRn0
              clear HRn0
              simp only [] at hrun b3 HRn
              rw [if_pos (by rfl)]
              refine oper_append_run (.tmp 28) (.tmp 34) 23 rfl rfl rfl hrun ?_
              refine hK.out _ _ True.intro (fun _ => ?_)
              clear hK K
              (try simp only [Act.put, List.getElem_toArray, List.getElem_cons_zero, List.getElem_cons_succ, List.setIfInBounds_toArray, List.set_cons_zero, List.set_cons_succ])
              clear hrun
              refine wpAnyH_take (i := 9) (v := ?_) rfl (by decide +kernel) (by decide +kernel) (by decide +kernel) (fun _ _ _ h => h) (Or.inl ⟨by rfl, ?hy⟩) hcur ?_
              case hy =>
                intro w1 hSw
                go_simp
                (try with_reducible rfl)
              (try simp only [Act.put, List.getElem_toArray, List.getElem_cons_zero, List.getElem_cons_succ, List.setIfInBounds_toArray, List.set_cons_zero, List.set_cons_succ])
              refine wpAnyH_ready (rs := [10]) (by decide +kernel) (by simp) ?_
              refine AllReadyH.cons rfl (fun K hK => ?_) AllReadyH.nil
              go_simp
              refine hK.out _ _ True.intro (fun _ => ?_)
              clear hK K
              (try simp only [Act.put, List.getElem_toArray, List.getElem_cons_zero, List.getElem_cons_succ, List.setIfInBounds_toArray, List.set_cons_zero, List.set_cons_succ])
              refine wpAnyH_done (by decide +kernel) ?_ _
              go_wp2_with fail
              go_roundw
              case rel =>
                refine ⟨j + 1, ps ++ [⟨kt, vv⟩], l7, f7, A', c', by go_num, by omega, by rw [List.length_append, HPL.out.2.2.2.2]; rfl, ?_, HRn.out⟩
                have h1 := HPL.out.1
                have h2 := HPL.out.2.2.2.1
                rw [show n - (j + 1) = m from by omega, h1]
                simp
              case measure => simp [intOf]; omega
            · go_simp
              refine hK.out _ _ True.intro (fun _ => ?_)
              clear hK K
              (try simp only [Act.put, List.getElem_toArray, List.getElem_cons_zero, List.getElem_cons_succ, List.setIfInBounds_toArray, List.set_cons_zero, List.set_cons_succ])
              refine wpAnyH_ready (rs := [1]) (by decide +kernel) (by simp) ?_
              refine AllReadyH.cons rfl (fun K hK => ?_) AllReadyH.nil
              obtain ⟨-, -, -, b3, -, -, -, -, -, -, -, -, -⟩ := (HX.out.up (below_alloc X (.cells #[.string kt, .int .u64 (vv : Int)] 32))).facts
              simp only [] at b3
              go_simp
              clear b3
              refine hK.out _ _ True.intro (fun _ => ?_)
              clear hK K
              (try simp only [Act.put, List.getElem_toArray, List.getElem_cons_zero, List.getElem_cons_succ, List.setIfInBounds_toArray, List.set_cons_zero, List.set_cons_succ])
              refine wpAnyH_ready (rs := [8]) (by decide +kernel) (by simp) ?_
              refine AllReadyH.cons rfl (fun K hK => ?_) AllReadyH.nil
              obtain ⟨A', c', X3, hrun, b3, bf, HRn0⟩ := HX.out.push ⟨kt, vv⟩ (by have := HPL.out.2.2.2.2; simp only []; omega)
              have HRn := Lib.hid HRn0
              clear HRn0
              simp only [] at hrun b3 HRn
              rw [if_pos (by rfl)]
              refine oper_append_run (.tmp 28) (.tmp 34) 23 rfl rfl rfl hrun ?_
              refine hK.out _ _ True.intro (fun _ => ?_)
              clear hK K
              (try simp only [Act.put, List.getElem_toArray, List.getElem_cons_zero, List.getElem_cons_succ, List.setIfInBounds_toArray, List.set_cons_zero, List.set_cons_succ])
              clear hrun
              refine wpAnyH_take (i := 9) (v := ?_) rfl (by decide +kernel) (by decide +kernel) (by decide +kernel) (fun _ _ _ h => h) (Or.inl ⟨by rfl, ?hy⟩) hcur ?_
              case hy =>
                intro w1 hSw
                go_simp
                (try with_reducible rfl)
              (try simp only [Act.put, List.getElem_toArray, List.getElem_cons_zero, List.getElem_cons_succ, List.setIfInBounds_toArray, List.set_cons_zero, List.set_cons_succ])
              refine wpAnyH_ready (rs := [10]) (by decide +kernel) (by simp) ?_
              refine AllReadyH.cons rfl (fun K hK => ?_) AllReadyH.nil
              go_simp
              refine hK.out _ _ True.intro (fun _ => ?_)
              clear hK K
              (try simp only [Act.put, List.getElem_toArray, List.getElem_cons_zero, List.getElem_cons_succ, List.setIfInBounds_toArray, List.set_cons_zero, List.set_cons_succ])
              refine wpAnyH_done (by decide +kernel) ?_ _
              go_wp2_with fail
              go_roundw
              case rel =>
                refine ⟨j + 1, ps ++ [⟨kt, vv⟩], l7, f7, A', c', by go_num, by omega, by rw [List.length_append, HPL.out.2.2.2.2]; rfl, ?_, HRn.out⟩
                have h1 := HPL.out.1
                have h2 := HPL.out.2.2.2.1
                rw [show n - (j + 1) = m from by omega, h1]
                simp
              case measure => simp [intOf]; omega
      · have hfb : (f5 == (0 : Int)) = false := by simp [hf]
        have hpr : prsRd (n - j) l5 f5 = ([], l5, f5) := by
          obtain ⟨m, hm⟩ : ∃ m, n - j = m + 1 := ⟨n - j - 1, by omega⟩
          rw [hm]
          exact if_neg hf
        have hq : q = ansFin (⟨k, t, v, ps⟩, l5, f5) := by
          have h1 := H.out.2.2.1
          rw [hpr] at h1
          simp only [List.append_nil] at h1
          have h2 := HQ.out
          rw [h1] at h2
          exact h2
        have HZ := Lib.hid hq
        have HRa := Lib.hid H.out.2.2.2
        clear hpr hq HQ H HR hwn hlt hlt2
        go_wp2_with fail
        refine (eyefault_any ep sb l5 f5 _ HRa.out.eye).mono ?_
        rintro e Xg ⟨rfl, rfl⟩
        have e := HZ.out
        rw [ansFin_fault hf] at e
        subst e
        clear HZ
        go_wp2_with fail
        refine (eyefault_any ep sb l5 f5 _ HRa.out.eye).mono ?_
        rintro e Xi ⟨rfl, rfl⟩
        have HF := Lib.hid (HRa.out.fin (.int .i64 0) (.string ⟨#[]⟩) (.int .u64 0) (.slice none 0 0))
        obtain ⟨b0, b1, b2, b3, -, z0, z1, z2, z3, y0, y1, y2, y3⟩ := HRa.out.facts
        simp only [] at b0 b1 b2 b3
        go_wp2_with fail
        exact bodyPost_ret (v := .tuple #[.agg #[.int .i64 0, .string ⟨#[]⟩, .int .u64 0, .slice none 0 0], .bool false]) (by simp [results, Try.results50, go_sem, *]) rfl ⟨none, 0, rfl, prs_nil2 _ _, HF.out.2.1, HF.out.2.2.1, World.ownsRow_nil _ _ _ _⟩
    · have hj : j = n := by have := H.out.1; omega
      have hpr : prsRd (n - j) l5 f5 = ([], l5, f5) := by
        rw [hj, Nat.sub_self]; rfl
      have hq : q = ansFin (⟨k, t, v, ps⟩, l5, f5) := by
        have h1 := H.out.2.2.1
        rw [hpr] at h1
        simp only [List.append_nil] at h1
        have h2 := HQ.out
        rw [h1] at h2
        exact h2
      have HZ := Lib.hid hq
      have HRa := Lib.hid H.out.2.2.2
      clear hpr hq HQ H HR hwn
      go_wp2_with fail
      refine (eyefault_any ep sb l5 f5 _ HRa.out.eye).mono ?_
      rintro e Xg ⟨rfl, rfl⟩
      by_cases hf : f5 = 0
      · subst hf
        have e := HZ.out
        by_cases hk0 : k = 0
        · subst hk0
          rw [ansFin_bad rfl] at e
          subst e
          clear HZ
          obtain ⟨b0, b1, b2, b3, -, z0, z1, z2, z3, y0, y1, y2, y3⟩ := HRa.out.facts
          simp only [] at b0 b1 b2 b3
          go_wp2_with fail
          refine (eyetext_any ep sb l5 0 (-1) _ HRa.out.eye HRa.out.bytes HRa.out.len (by decide)).mono ?_
          rintro e Xh ⟨rfl, hE, hO⟩
          have e1 : eyeTxt (-1) l5 0 = (ByteArray.empty, wrongL l5 0, wrongF 0 10) := if_pos (by omega)
          rw [e1, (wrong_zero l5 10).1, (wrong_zero l5 10).2] at hE
          replace HRa := Lib.hid (HRa.out.eye_ hE hO ⟨l5.length, by simp⟩)
          clear hE hO e1 b0 b1 b2 b3 z0 z1 z2 z3 y0 y1 y2 y3
          go_wp2_with fail
          refine (eyefault_any ep sb [] 10 _ HRa.out.eye).mono ?_
          rintro e Xi ⟨rfl, rfl⟩
          have HF := Lib.hid (HRa.out.fin (.int .i64 0) (.string ⟨#[]⟩) (.int .u64 0) (.slice none 0 0))
          obtain ⟨b0, b1, b2, b3, -, z0, z1, z2, z3, y0, y1, y2, y3⟩ := HRa.out.facts
          simp only [] at b0 b1 b2 b3
          go_wp2_with fail
          exact bodyPost_ret (v := .tuple #[.agg #[.int .i64 0, .string ⟨#[]⟩, .int .u64 0, .slice none 0 0], .bool false]) (by simp [results, Try.results50, go_sem, *]) rfl ⟨none, 0, rfl, prs_nil2 _ _, HF.out.2.1, HF.out.2.2.1, World.ownsRow_nil _ _ _ _⟩
        · have hkb : ((k : Int) == (0 : Int)) = false := by rw [beq_eq_false_iff_ne]; omega
          rw [ansFin_good (show (k : Int) ≠ 0 by omega)] at e
          subst e
          have HKK := Lib.hid hk0
          clear HZ hk0
          obtain ⟨b0, b1, b2, b3, -, z0, z1, z2, z3, y0, y1, y2, y3⟩ := HRa.out.facts
          simp only [] at b0 b1 b2 b3
          go_wp2_with fail
          refine (eyefault_any ep sb l5 0 _ HRa.out.eye).mono ?_
          rintro e Xi ⟨rfl, rfl⟩
          have HF := Lib.hid (HRa.out.fin (.int .i64 (k : Int)) (.string t) (.int .u64 (v : Int)) (.slice A ps.length c))
          go_wp2_with fail
          exact bodyPost_ret (v := .tuple #[.agg #[.int .i64 (k : Int), .string t, .int .u64 (v : Int), .slice A ps.length c], .bool true]) (by simp [results, Try.results50, go_sem, *]) rfl ⟨A, c, rfl, HF.out⟩
      · have hfb : (f5 == (0 : Int)) = false := by simp [hf]
        have e := HZ.out
        rw [ansFin_fault hf] at e
        subst e
        clear HZ
        go_wp2_with fail
        refine (eyefault_any ep sb l5 f5 _ HRa.out.eye).mono ?_
        rintro e Xi ⟨rfl, rfl⟩
        have HF := Lib.hid (HRa.out.fin (.int .i64 0) (.string ⟨#[]⟩) (.int .u64 0) (.slice none 0 0))
        obtain ⟨b0, b1, b2, b3, -, z0, z1, z2, z3, y0, y1, y2, y3⟩ := HRa.out.facts
        simp only [] at b0 b1 b2 b3
        go_wp2_with fail
        exact bodyPost_ret (v := .tuple #[.agg #[.int .i64 0, .string ⟨#[]⟩, .int .u64 0, .slice none 0 0], .bool false]) (by simp [results, Try.results50, go_sem, *]) rfl ⟨none, 0, rfl, prs_nil2 _ _, HF.out.2.1, HF.out.2.2.1, World.ownsRow_nil _ _ _ _⟩

end Go.Proofs.Ythbafbgnclpbpaa
