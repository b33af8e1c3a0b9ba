/- Contracts of package op: what is written. -/
import Derived.Test.YthbafbgnclpbpaaOp8
namespace Go.Proofs.Ythbafbgnclpbpaa
open Go.RowKit

theorem Told.below {w w' : World} {bp : Nat} {r : Option Nat} {g : Nat} {xs : List Value} (h : Told w bp r g xs) (hb : Below w.heap.size w w') : Told w' bp r g xs :=
  ⟨Nat.lt_of_lt_of_le h.1 hb.size, h.2.1, h.2.2.1, fun j u hu => (hb.cell (p := ⟨g, j, none⟩) h.1).trans (h.2.2.2 j u hu)⟩

/-- A pen that writes an operation: the pen, the operation's variable, what it uses. -/
structure St (w : World) (bp : Nat) (r : Option Nat) (X : World) (rX : Option Nat) (lX : List Nat) (g : Nat) (xs : List Value) (g4 : Nat) (us : List Value) (N : Nat) : Prop where
  rel : PenRel w bp r X rX lX
  box : Told X bp rX g xs
  used : Told X bp rX g4 us
  len : lX.length ≤ N
theorem St.adv {w X X1 wp : World} {bp g g4 N : Nat} {r rX rq : Option Nat} {lX m : List Nat} {xs us : List Value} (h : St w bp r X rX lX g xs g4 us N) (hb : Below X.heap.size X X1) (k : PenRel X1 bp rX wp rq (lX ++ m)) (hm : m.length ≤ 1011) : St w bp r wp rq (lX ++ m) g xs g4 us (N + 1011) :=
  ⟨h.rel.trans (PenRel.of_below hb k), (h.box.below hb).on k, (h.used.below hb).on k, by rw [List.length_append]; have := h.len; omega⟩
theorem one_len (n : Nat) : ([n].flatMap dig).length ≤ 1011 := by have := flat_len [n]; simp at this ⊢; omega
theorem txt_len {s : ByteArray} (h : s.size ≤ 1000) : (dig s.size ++ tb s).length ≤ 1011 := by rw [List.length_append, tb_length]; have := dig_len s.size; omega

/-- The bytes of an operation. -/
def opBytes (o : OpD) : List Nat :=
  if opB o = true then dig o.kind.toNat ++ ((if usesKey o.kind = true then dig o.key.size ++ tb o.key else []) ++ ((if usesTo o.kind = true then dig o.upto.size ++ tb o.upto else []) ++ ((if usesVal o.kind = true then dig o.val else []) ++ (if usesTo o.kind = true then dig o.limit.toNat else [])))) else [0]

theorem opB_limit {o : OpD} (h : opB o = true) (ht : usesTo o.kind = true) : 0 ≤ o.limit ∧ o.limit ≤ 4096 := by
  unfold opB at h
  rw [ht] at h
  simp only [Bool.and_eq_true, Bool.not_true, Bool.false_or] at h
  exact of_decide_eq_true h.2.2.2

set_option maxRecDepth 100000 in
set_option maxHeartbeats 16000000 in
theorem opwrite1_any (bp : Nat) (r : Option Nat) (l : List Nat) (o : OpD) (w : World) (hp : PenAt w bp r l) (ho : OpOk o) (hk : o.key.size ≤ 1000) (ht : o.upto.size ≤ 1000) (hl : l.length ≤ 50000) :
    Calls Try.prog 98 #[.pointer (some ⟨bp, 0, none⟩), .agg (opCells o)] w (PenTo w bp r (l ++ opBytes o)) := by
  have hbox := told_new hp (opCells o).toList 58
  have hb := below_alloc w (.cells (opCells o) 58)
  have H := Lib.hid (And.intro (hp.below hb) (And.intro hb ho))
  have HC := Lib.hid (fun W => opcheck_any o W ho)
  have HU := Lib.hid (used_any o.kind)
  have hby : opBytes o = if opB o = true then dig o.kind.toNat ++ ((if usesKey o.kind = true then dig o.key.size ++ tb o.key else []) ++ ((if usesTo o.kind = true then dig o.upto.size ++ tb o.upto else []) ++ ((if usesVal o.kind = true then dig o.val else []) ++ (if usesTo o.kind = true then dig o.limit.toNat else [])))) else [0] := rfl
  have hkd := opB_kind (o := o)
  have hlm := opB_limit (o := o)
  simp only [Array.toArray_toList] at hbox
  simp only [usesV] at HU
  generalize opBytes o = by0 at hby ⊢
  generalize opB o = b at HC hby hkd hlm
  generalize isKind o.kind = ik at HU
  generalize usesKey o.kind = ku at HU hby
  generalize usesTo o.kind = tu at HU hby hlm
  generalize usesVal o.kind = vu at HU hby
  obtain ⟨kind, key, upto, val, limit⟩ := o
  simp only [opCells] at hbox H HC ⊢
  simp only [] at hk ht hby hkd hlm HU
  have HBX := Lib.hid hbox
  have hpo := ho.val
  have H2 := Lib.hid (And.intro hp ho)
  simp only [] at hpo
  have HV := Lib.hid hpo
  clear hbox hp hb ho hpo
  cases b
  · have HBY := Lib.hid hby
    have HC0 := Lib.hid (fun W => Calls.to (HC.out W) (congrArg (Value.int .i64) (if_neg Bool.false_ne_true)))
    clear hby hkd hlm
    go_enter Try.func98, Try.ntmps98
    go_wp2_with fail
    generalize w.alloc _ = W at H HBX ⊢
    refine (HC0.out _).mono ?_
    rintro e wn ⟨rfl, hbn⟩
    have TB := HBX.out.below hbn
    have x0 := TB.2.2.2 0 _ rfl
    have x1 := TB.2.2.2 1 _ rfl
    have x2 := TB.2.2.2 2 _ rfl
    have x3 := TB.2.2.2 3 _ rfl
    have x4 := TB.2.2.2 4 _ rfl
    go_wp2_with fail
    refine (pennum_any bp r l [0] wn.heap.size 1 _ ((H.out.1.below hbn).below (below_alloc _ _)) (by simp) (told_new (H.out.1.below hbn) (u64n [0]) _) (by simp; omega)).mono ?_
    rintro e w3 ⟨rfl, r3, hrel⟩
    have HR := Lib.hid (PenRel.of_below H.out.2.1 (PenRel.of_below hbn (PenRel.of_below (below_alloc _ _) hrel)))
    clear hrel
    go_wp2_with fail
    first | go_end0 | refine bodyPost_ret (results_none rfl _ _ _) rfl ?_
    refine ⟨rfl, r3, ?_⟩
    rw [HBY.out, if_neg Bool.false_ne_true]
    exact HR.out
  · obtain ⟨kn, rfl⟩ := Int.eq_ofNat_of_zero_le (show 0 ≤ kind by have := hkd rfl; omega)
    have hkn : kn ≤ 10 := by have := hkd rfl; omega
    have hw : IntKind.u64.wrap (kn : Int) = (kn : Int) := by rw [IntKind.wrap_u64]; omega
    have HC0 := Lib.hid (fun W => Calls.to (HC.out W) (congrArg (Value.int .i64) (if_pos rfl)))
    rw [if_pos rfl, Int.toNat_natCast] at hby
    clear hkd HC
    cases ku <;> cases tu <;> cases vu
    · simp only [if_pos rfl, if_neg Bool.false_ne_true] at hby
      have HBY := Lib.hid hby
      clear hby
      clear hlm
      go_enter Try.func98, Try.ntmps98
      go_wp2_with fail
      generalize w.alloc _ = W at H HBX ⊢
      refine (HC0.out _).mono ?_
      rintro e wn ⟨rfl, hbn⟩
      have TB := HBX.out.below hbn
      have x0 := TB.2.2.2 0 _ rfl
      have x1 := TB.2.2.2 1 _ rfl
      have x2 := TB.2.2.2 2 _ rfl
      have x3 := TB.2.2.2 3 _ rfl
      have x4 := TB.2.2.2 4 _ rfl
      go_wp2_with fail
      refine (HU.out _).mono ?_
      rintro e wm ⟨rfl, hbm⟩
      have TM := TB.below hbm
      clear x0 x1 x2 x3 x4
      have x0 := TM.2.2.2 0 _ rfl
      have x1 := TM.2.2.2 1 _ rfl
      have x2 := TM.2.2.2 2 _ rfl
      have x3 := TM.2.2.2 3 _ rfl
      have x4 := TM.2.2.2 4 _ rfl
      have hbu := below_alloc wm (.cells #[.bool false, .bool false, .bool false, .bool false] 110)
      have hsu : (wm.alloc (.cells #[.bool false, .bool false, .bool false, .bool false] 110)).heap.size = wm.heap.size + 1 := by simp
      have P0 := (H.out.1.below hbn).below hbm
      have HS := Lib.hid (show St w bp r (wm.alloc (.cells #[.bool false, .bool false, .bool false, .bool false] 110)) r l w.heap.size _ wm.heap.size [.bool false, .bool false, .bool false, .bool false] 50000 from
        ⟨(PenRel.refl H2.out.1).then_below (below_of (below_of (below_of H.out.2.1 hbn) hbm) hbu), TM.below hbu, told_new P0 [.bool false, .bool false, .bool false, .bool false] _, hl⟩)
      have HSU := Lib.hid hsu
      have A0 := alloc_cell x0 TM.1
      have A1 := alloc_cell x1 TM.1
      have A2 := alloc_cell x2 TM.1
      have A3 := alloc_cell x3 TM.1
      have A4 := alloc_cell x4 TM.1
      clear hbu hsu P0 TB hbn hbm
      go_wp2_with fail
      generalize wm.alloc _ = X at HS HSU ⊢
      rw [← HSU.out]
      clear A0 A1 A2 A3 A4 x0 x1 x2 x3 x4 TM
      generalize wm.heap.size = g4 at HS ⊢
      refine (pennum_any bp _ _ [kn] X.heap.size 1 _ (HS.out.rel.1.below (below_alloc _ _)) (by intro y hy; simp at hy; omega) (told_new HS.out.rel.1 (u64n [kn]) _) (by have := HS.out.len; show _ + 11 * 1 ≤ 100000; omega)).mono ?_
      rintro e X ⟨rfl, rq, hrel⟩
      replace HS := Lib.hid (HS.out.adv (below_alloc _ _) hrel (one_len _))
      clear hrel
      have x0 := HS.out.box.2.2.2 0 _ rfl
      have x1 := HS.out.box.2.2.2 1 _ rfl
      have x2 := HS.out.box.2.2.2 2 _ rfl
      have x3 := HS.out.box.2.2.2 3 _ rfl
      have x4 := HS.out.box.2.2.2 4 _ rfl
      have u0 := HS.out.used.2.2.2 0 _ rfl
      have u1 := HS.out.used.2.2.2 1 _ rfl
      have u2 := HS.out.used.2.2.2 2 _ rfl
      have u3 := HS.out.used.2.2.2 3 _ rfl
      go_wp2_with fail
      clear x0 x1 x2 x3 x4 u0 u1 u2 u3
      first | go_end0 | refine bodyPost_ret (results_none rfl _ _ _) rfl ?_
      refine ⟨rfl, rq, ?_⟩
      have h := HS.out.rel
      rw [HBY.out]
      simpa [List.append_assoc] using h
    · simp only [if_pos rfl, if_neg Bool.false_ne_true] at hby
      have HBY := Lib.hid hby
      clear hby
      clear hlm
      go_enter Try.func98, Try.ntmps98
      go_wp2_with fail
      generalize w.alloc _ = W at H HBX ⊢
      refine (HC0.out _).mono ?_
      rintro e wn ⟨rfl, hbn⟩
      have TB := HBX.out.below hbn
      have x0 := TB.2.2.2 0 _ rfl
      have x1 := TB.2.2.2 1 _ rfl
      have x2 := TB.2.2.2 2 _ rfl
      have x3 := TB.2.2.2 3 _ rfl
      have x4 := TB.2.2.2 4 _ rfl
      go_wp2_with fail
      refine (HU.out _).mono ?_
      rintro e wm ⟨rfl, hbm⟩
      have TM := TB.below hbm
      clear x0 x1 x2 x3 x4
      have x0 := TM.2.2.2 0 _ rfl
      have x1 := TM.2.2.2 1 _ rfl
      have x2 := TM.2.2.2 2 _ rfl
      have x3 := TM.2.2.2 3 _ rfl
      have x4 := TM.2.2.2 4 _ rfl
      have hbu := below_alloc wm (.cells #[.bool false, .bool false, .bool true, .bool false] 110)
      have hsu : (wm.alloc (.cells #[.bool false, .bool false, .bool true, .bool false] 110)).heap.size = wm.heap.size + 1 := by simp
      have P0 := (H.out.1.below hbn).below hbm
      have HS := Lib.hid (show St w bp r (wm.alloc (.cells #[.bool false, .bool false, .bool true, .bool false] 110)) r l w.heap.size _ wm.heap.size [.bool false, .bool false, .bool true, .bool false] 50000 from
        ⟨(PenRel.refl H2.out.1).then_below (below_of (below_of (below_of H.out.2.1 hbn) hbm) hbu), TM.below hbu, told_new P0 [.bool false, .bool false, .bool true, .bool false] _, hl⟩)
      have HSU := Lib.hid hsu
      have A0 := alloc_cell x0 TM.1
      have A1 := alloc_cell x1 TM.1
      have A2 := alloc_cell x2 TM.1
      have A3 := alloc_cell x3 TM.1
      have A4 := alloc_cell x4 TM.1
      clear hbu hsu P0 TB hbn hbm
      go_wp2_with fail
      generalize wm.alloc _ = X at HS HSU ⊢
      rw [← HSU.out]
      clear A0 A1 A2 A3 A4 x0 x1 x2 x3 x4 TM
      generalize wm.heap.size = g4 at HS ⊢
      refine (pennum_any bp _ _ [kn] X.heap.size 1 _ (HS.out.rel.1.below (below_alloc _ _)) (by intro y hy; simp at hy; omega) (told_new HS.out.rel.1 (u64n [kn]) _) (by have := HS.out.len; show _ + 11 * 1 ≤ 100000; omega)).mono ?_
      rintro e X ⟨rfl, rq, hrel⟩
      replace HS := Lib.hid (HS.out.adv (below_alloc _ _) hrel (one_len _))
      clear hrel
      have x0 := HS.out.box.2.2.2 0 _ rfl
      have x1 := HS.out.box.2.2.2 1 _ rfl
      have x2 := HS.out.box.2.2.2 2 _ rfl
      have x3 := HS.out.box.2.2.2 3 _ rfl
      have x4 := HS.out.box.2.2.2 4 _ rfl
      have u0 := HS.out.used.2.2.2 0 _ rfl
      have u1 := HS.out.used.2.2.2 1 _ rfl
      have u2 := HS.out.used.2.2.2 2 _ rfl
      have u3 := HS.out.used.2.2.2 3 _ rfl
      go_wp2_with fail
      clear x0 x1 x2 x3 x4 u0 u1 u2 u3
      refine (pennum_any bp _ _ [val] X.heap.size 1 _ (HS.out.rel.1.below (below_alloc _ _)) (by intro y hy; simp at hy; subst hy; exact HV.out) (told_new HS.out.rel.1 (u64n [val]) _) (by have := HS.out.len; show _ + 11 * 1 ≤ 100000; omega)).mono ?_
      rintro e X ⟨rfl, rq, hrel⟩
      replace HS := Lib.hid (HS.out.adv (below_alloc _ _) hrel (one_len _))
      clear hrel
      have x0 := HS.out.box.2.2.2 0 _ rfl
      have x1 := HS.out.box.2.2.2 1 _ rfl
      have x2 := HS.out.box.2.2.2 2 _ rfl
      have x3 := HS.out.box.2.2.2 3 _ rfl
      have x4 := HS.out.box.2.2.2 4 _ rfl
      have u0 := HS.out.used.2.2.2 0 _ rfl
      have u1 := HS.out.used.2.2.2 1 _ rfl
      have u2 := HS.out.used.2.2.2 2 _ rfl
      have u3 := HS.out.used.2.2.2 3 _ rfl
      go_wp2_with fail
      clear x0 x1 x2 x3 x4 u0 u1 u2 u3
      first | go_end0 | refine bodyPost_ret (results_none rfl _ _ _) rfl ?_
      refine ⟨rfl, rq, ?_⟩
      have h := HS.out.rel
      rw [HBY.out]
      simpa [List.append_assoc] using h
    · simp only [if_pos rfl, if_neg Bool.false_ne_true] at hby
      have HBY := Lib.hid hby
      clear hby
      obtain ⟨ln, rfl⟩ := Int.eq_ofNat_of_zero_le (hlm rfl rfl).1
      have hln : ln ≤ 4096 := by have := (hlm rfl rfl).2; omega
      have hw2 : IntKind.u64.wrap (ln : Int) = (ln : Int) := by rw [IntKind.wrap_u64]; omega
      clear hlm
      go_enter Try.func98, Try.ntmps98
      go_wp2_with fail
      generalize w.alloc _ = W at H HBX ⊢
      refine (HC0.out _).mono ?_
      rintro e wn ⟨rfl, hbn⟩
      have TB := HBX.out.below hbn
      have x0 := TB.2.2.2 0 _ rfl
      have x1 := TB.2.2.2 1 _ rfl
      have x2 := TB.2.2.2 2 _ rfl
      have x3 := TB.2.2.2 3 _ rfl
      have x4 := TB.2.2.2 4 _ rfl
      go_wp2_with fail
      refine (HU.out _).mono ?_
      rintro e wm ⟨rfl, hbm⟩
      have TM := TB.below hbm
      clear x0 x1 x2 x3 x4
      have x0 := TM.2.2.2 0 _ rfl
      have x1 := TM.2.2.2 1 _ rfl
      have x2 := TM.2.2.2 2 _ rfl
      have x3 := TM.2.2.2 3 _ rfl
      have x4 := TM.2.2.2 4 _ rfl
      have hbu := below_alloc wm (.cells #[.bool false, .bool true, .bool false, .bool true] 110)
      have hsu : (wm.alloc (.cells #[.bool false, .bool true, .bool false, .bool true] 110)).heap.size = wm.heap.size + 1 := by simp
      have P0 := (H.out.1.below hbn).below hbm
      have HS := Lib.hid (show St w bp r (wm.alloc (.cells #[.bool false, .bool true, .bool false, .bool true] 110)) r l w.heap.size _ wm.heap.size [.bool false, .bool true, .bool false, .bool true] 50000 from
        ⟨(PenRel.refl H2.out.1).then_below (below_of (below_of (below_of H.out.2.1 hbn) hbm) hbu), TM.below hbu, told_new P0 [.bool false, .bool true, .bool false, .bool true] _, hl⟩)
      have HSU := Lib.hid hsu
      have A0 := alloc_cell x0 TM.1
      have A1 := alloc_cell x1 TM.1
      have A2 := alloc_cell x2 TM.1
      have A3 := alloc_cell x3 TM.1
      have A4 := alloc_cell x4 TM.1
      clear hbu hsu P0 TB hbn hbm
      go_wp2_with fail
      generalize wm.alloc _ = X at HS HSU ⊢
      rw [← HSU.out]
      clear A0 A1 A2 A3 A4 x0 x1 x2 x3 x4 TM
      generalize wm.heap.size = g4 at HS ⊢
      refine (pennum_any bp _ _ [kn] X.heap.size 1 _ (HS.out.rel.1.below (below_alloc _ _)) (by intro y hy; simp at hy; omega) (told_new HS.out.rel.1 (u64n [kn]) _) (by have := HS.out.len; show _ + 11 * 1 ≤ 100000; omega)).mono ?_
      rintro e X ⟨rfl, rq, hrel⟩
      replace HS := Lib.hid (HS.out.adv (below_alloc _ _) hrel (one_len _))
      clear hrel
      have x0 := HS.out.box.2.2.2 0 _ rfl
      have x1 := HS.out.box.2.2.2 1 _ rfl
      have x2 := HS.out.box.2.2.2 2 _ rfl
      have x3 := HS.out.box.2.2.2 3 _ rfl
      have x4 := HS.out.box.2.2.2 4 _ rfl
      have u0 := HS.out.used.2.2.2 0 _ rfl
      have u1 := HS.out.used.2.2.2 1 _ rfl
      have u2 := HS.out.used.2.2.2 2 _ rfl
      have u3 := HS.out.used.2.2.2 3 _ rfl
      go_wp2_with fail
      clear x0 x1 x2 x3 x4 u0 u1 u2 u3
      refine (pentext_any bp _ _ upto _ HS.out.rel.1 (by have := HS.out.len; omega)).mono ?_
      rintro e X ⟨rfl, rq, hrel⟩
      replace HS := Lib.hid (HS.out.adv (Below.refl _ _) hrel (txt_len ht))
      clear hrel
      have x0 := HS.out.box.2.2.2 0 _ rfl
      have x1 := HS.out.box.2.2.2 1 _ rfl
      have x2 := HS.out.box.2.2.2 2 _ rfl
      have x3 := HS.out.box.2.2.2 3 _ rfl
      have x4 := HS.out.box.2.2.2 4 _ rfl
      have u0 := HS.out.used.2.2.2 0 _ rfl
      have u1 := HS.out.used.2.2.2 1 _ rfl
      have u2 := HS.out.used.2.2.2 2 _ rfl
      have u3 := HS.out.used.2.2.2 3 _ rfl
      go_wp2_with fail
      clear x0 x1 x2 x3 x4 u0 u1 u2 u3
      refine (pennum_any bp _ _ [ln] X.heap.size 1 _ (HS.out.rel.1.below (below_alloc _ _)) (by intro y hy; simp at hy; omega) (told_new HS.out.rel.1 (u64n [ln]) _) (by have := HS.out.len; show _ + 11 * 1 ≤ 100000; omega)).mono ?_
      rintro e X ⟨rfl, rq, hrel⟩
      replace HS := Lib.hid (HS.out.adv (below_alloc _ _) hrel (one_len _))
      clear hrel
      have x0 := HS.out.box.2.2.2 0 _ rfl
      have x1 := HS.out.box.2.2.2 1 _ rfl
      have x2 := HS.out.box.2.2.2 2 _ rfl
      have x3 := HS.out.box.2.2.2 3 _ rfl
      have x4 := HS.out.box.2.2.2 4 _ rfl
      have u0 := HS.out.used.2.2.2 0 _ rfl
      have u1 := HS.out.used.2.2.2 1 _ rfl
      have u2 := HS.out.used.2.2.2 2 _ rfl
      have u3 := HS.out.used.2.2.2 3 _ rfl
      go_wp2_with fail
      clear x0 x1 x2 x3 x4 u0 u1 u2 u3
      first | go_end0 | refine bodyPost_ret (results_none rfl _ _ _) rfl ?_
      refine ⟨rfl, rq, ?_⟩
      have h := HS.out.rel
      rw [HBY.out]
      simpa [List.append_assoc] using h
    · simp only [if_pos rfl, if_neg Bool.false_ne_true] at hby
      have HBY := Lib.hid hby
      clear hby
      obtain ⟨ln, rfl⟩ := Int.eq_ofNat_of_zero_le (hlm rfl rfl).1
      have hln : ln ≤ 4096 := by have := (hlm rfl rfl).2; omega
      have hw2 : IntKind.u64.wrap (ln : Int) = (ln : Int) := by rw [IntKind.wrap_u64]; omega
      clear hlm
      go_enter Try.func98, Try.ntmps98
      go_wp2_with fail
      generalize w.alloc _ = W at H HBX ⊢
      refine (HC0.out _).mono ?_
      rintro e wn ⟨rfl, hbn⟩
      have TB := HBX.out.below hbn
      have x0 := TB.2.2.2 0 _ rfl
      have x1 := TB.2.2.2 1 _ rfl
      have x2 := TB.2.2.2 2 _ rfl
      have x3 := TB.2.2.2 3 _ rfl
      have x4 := TB.2.2.2 4 _ rfl
      go_wp2_with fail
      refine (HU.out _).mono ?_
      rintro e wm ⟨rfl, hbm⟩
      have TM := TB.below hbm
      clear x0 x1 x2 x3 x4
      have x0 := TM.2.2.2 0 _ rfl
      have x1 := TM.2.2.2 1 _ rfl
      have x2 := TM.2.2.2 2 _ rfl
      have x3 := TM.2.2.2 3 _ rfl
      have x4 := TM.2.2.2 4 _ rfl
      have hbu := below_alloc wm (.cells #[.bool false, .bool true, .bool true, .bool true] 110)
      have hsu : (wm.alloc (.cells #[.bool false, .bool true, .bool true, .bool true] 110)).heap.size = wm.heap.size + 1 := by simp
      have P0 := (H.out.1.below hbn).below hbm
      have HS := Lib.hid (show St w bp r (wm.alloc (.cells #[.bool false, .bool true, .bool true, .bool true] 110)) r l w.heap.size _ wm.heap.size [.bool false, .bool true, .bool true, .bool true] 50000 from
        ⟨(PenRel.refl H2.out.1).then_below (below_of (below_of (below_of H.out.2.1 hbn) hbm) hbu), TM.below hbu, told_new P0 [.bool false, .bool true, .bool true, .bool true] _, hl⟩)
      have HSU := Lib.hid hsu
      have A0 := alloc_cell x0 TM.1
      have A1 := alloc_cell x1 TM.1
      have A2 := alloc_cell x2 TM.1
      have A3 := alloc_cell x3 TM.1
      have A4 := alloc_cell x4 TM.1
      clear hbu hsu P0 TB hbn hbm
      go_wp2_with fail
      generalize wm.alloc _ = X at HS HSU ⊢
      rw [← HSU.out]
      clear A0 A1 A2 A3 A4 x0 x1 x2 x3 x4 TM
      generalize wm.heap.size = g4 at HS ⊢
      refine (pennum_any bp _ _ [kn] X.heap.size 1 _ (HS.out.rel.1.below (below_alloc _ _)) (by intro y hy; simp at hy; omega) (told_new HS.out.rel.1 (u64n [kn]) _) (by have := HS.out.len; show _ + 11 * 1 ≤ 100000; omega)).mono ?_
      rintro e X ⟨rfl, rq, hrel⟩
      replace HS := Lib.hid (HS.out.adv (below_alloc _ _) hrel (one_len _))
      clear hrel
      have x0 := HS.out.box.2.2.2 0 _ rfl
      have x1 := HS.out.box.2.2.2 1 _ rfl
      have x2 := HS.out.box.2.2.2 2 _ rfl
      have x3 := HS.out.box.2.2.2 3 _ rfl
      have x4 := HS.out.box.2.2.2 4 _ rfl
      have u0 := HS.out.used.2.2.2 0 _ rfl
      have u1 := HS.out.used.2.2.2 1 _ rfl
      have u2 := HS.out.used.2.2.2 2 _ rfl
      have u3 := HS.out.used.2.2.2 3 _ rfl
      go_wp2_with fail
      clear x0 x1 x2 x3 x4 u0 u1 u2 u3
      refine (pentext_any bp _ _ upto _ HS.out.rel.1 (by have := HS.out.len; omega)).mono ?_
      rintro e X ⟨rfl, rq, hrel⟩
      replace HS := Lib.hid (HS.out.adv (Below.refl _ _) hrel (txt_len ht))
      clear hrel
      have x0 := HS.out.box.2.2.2 0 _ rfl
      have x1 := HS.out.box.2.2.2 1 _ rfl
      have x2 := HS.out.box.2.2.2 2 _ rfl
      have x3 := HS.out.box.2.2.2 3 _ rfl
      have x4 := HS.out.box.2.2.2 4 _ rfl
      have u0 := HS.out.used.2.2.2 0 _ rfl
      have u1 := HS.out.used.2.2.2 1 _ rfl
      have u2 := HS.out.used.2.2.2 2 _ rfl
      have u3 := HS.out.used.2.2.2 3 _ rfl
      go_wp2_with fail
      clear x0 x1 x2 x3 x4 u0 u1 u2 u3
      refine (pennum_any bp _ _ [val] X.heap.size 1 _ (HS.out.rel.1.below (below_alloc _ _)) (by intro y hy; simp at hy; subst hy; exact HV.out) (told_new HS.out.rel.1 (u64n [val]) _) (by have := HS.out.len; show _ + 11 * 1 ≤ 100000; omega)).mono ?_
      rintro e X ⟨rfl, rq, hrel⟩
      replace HS := Lib.hid (HS.out.adv (below_alloc _ _) hrel (one_len _))
      clear hrel
      have x0 := HS.out.box.2.2.2 0 _ rfl
      have x1 := HS.out.box.2.2.2 1 _ rfl
      have x2 := HS.out.box.2.2.2 2 _ rfl
      have x3 := HS.out.box.2.2.2 3 _ rfl
      have x4 := HS.out.box.2.2.2 4 _ rfl
      have u0 := HS.out.used.2.2.2 0 _ rfl
      have u1 := HS.out.used.2.2.2 1 _ rfl
      have u2 := HS.out.used.2.2.2 2 _ rfl
      have u3 := HS.out.used.2.2.2 3 _ rfl
      go_wp2_with fail
      clear x0 x1 x2 x3 x4 u0 u1 u2 u3
      refine (pennum_any bp _ _ [ln] X.heap.size 1 _ (HS.out.rel.1.below (below_alloc _ _)) (by intro y hy; simp at hy; omega) (told_new HS.out.rel.1 (u64n [ln]) _) (by have := HS.out.len; show _ + 11 * 1 ≤ 100000; omega)).mono ?_
      rintro e X ⟨rfl, rq, hrel⟩
      replace HS := Lib.hid (HS.out.adv (below_alloc _ _) hrel (one_len _))
      clear hrel
      have x0 := HS.out.box.2.2.2 0 _ rfl
      have x1 := HS.out.box.2.2.2 1 _ rfl
      have x2 := HS.out.box.2.2.2 2 _ rfl
      have x3 := HS.out.box.2.2.2 3 _ rfl
      have x4 := HS.out.box.2.2.2 4 _ rfl
      have u0 := HS.out.used.2.2.2 0 _ rfl
      have u1 := HS.out.used.2.2.2 1 _ rfl
      have u2 := HS.out.used.2.2.2 2 _ rfl
      have u3 := HS.out.used.2.2.2 3 _ rfl
      go_wp2_with fail
      clear x0 x1 x2 x3 x4 u0 u1 u2 u3
      first | go_end0 | refine bodyPost_ret (results_none rfl _ _ _) rfl ?_
      refine ⟨rfl, rq, ?_⟩
      have h := HS.out.rel
      rw [HBY.out]
      simpa [List.append_assoc] using h
    · simp only [if_pos rfl, if_neg Bool.false_ne_true] at hby
      have HBY := Lib.hid hby
      clear hby
      clear hlm
      go_enter Try.func98, Try.ntmps98
      go_wp2_with fail
      generalize w.alloc _ = W at H HBX ⊢
      refine (HC0.out _).mono ?_
      rintro e wn ⟨rfl, hbn⟩
      have TB := HBX.out.below hbn
      have x0 := TB.2.2.2 0 _ rfl
      have x1 := TB.2.2.2 1 _ rfl
      have x2 := TB.2.2.2 2 _ rfl
      have x3 := TB.2.2.2 3 _ rfl
      have x4 := TB.2.2.2 4 _ rfl
      go_wp2_with fail
      refine (HU.out _).mono ?_
      rintro e wm ⟨rfl, hbm⟩
      have TM := TB.below hbm
      clear x0 x1 x2 x3 x4
      have x0 := TM.2.2.2 0 _ rfl
      have x1 := TM.2.2.2 1 _ rfl
      have x2 := TM.2.2.2 2 _ rfl
      have x3 := TM.2.2.2 3 _ rfl
      have x4 := TM.2.2.2 4 _ rfl
      have hbu := below_alloc wm (.cells #[.bool true, .bool false, .bool false, .bool false] 110)
      have hsu : (wm.alloc (.cells #[.bool true, .bool false, .bool false, .bool false] 110)).heap.size = wm.heap.size + 1 := by simp
      have P0 := (H.out.1.below hbn).below hbm
      have HS := Lib.hid (show St w bp r (wm.alloc (.cells #[.bool true, .bool false, .bool false, .bool false] 110)) r l w.heap.size _ wm.heap.size [.bool true, .bool false, .bool false, .bool false] 50000 from
        ⟨(PenRel.refl H2.out.1).then_below (below_of (below_of (below_of H.out.2.1 hbn) hbm) hbu), TM.below hbu, told_new P0 [.bool true, .bool false, .bool false, .bool false] _, hl⟩)
      have HSU := Lib.hid hsu
      have A0 := alloc_cell x0 TM.1
      have A1 := alloc_cell x1 TM.1
      have A2 := alloc_cell x2 TM.1
      have A3 := alloc_cell x3 TM.1
      have A4 := alloc_cell x4 TM.1
      clear hbu hsu P0 TB hbn hbm
      go_wp2_with fail
      generalize wm.alloc _ = X at HS HSU ⊢
      rw [← HSU.out]
      clear A0 A1 A2 A3 A4 x0 x1 x2 x3 x4 TM
      generalize wm.heap.size = g4 at HS ⊢
      refine (pennum_any bp _ _ [kn] X.heap.size 1 _ (HS.out.rel.1.below (below_alloc _ _)) (by intro y hy; simp at hy; omega) (told_new HS.out.rel.1 (u64n [kn]) _) (by have := HS.out.len; show _ + 11 * 1 ≤ 100000; omega)).mono ?_
      rintro e X ⟨rfl, rq, hrel⟩
      replace HS := Lib.hid (HS.out.adv (below_alloc _ _) hrel (one_len _))
      clear hrel
      have x0 := HS.out.box.2.2.2 0 _ rfl
      have x1 := HS.out.box.2.2.2 1 _ rfl
      have x2 := HS.out.box.2.2.2 2 _ rfl
      have x3 := HS.out.box.2.2.2 3 _ rfl
      have x4 := HS.out.box.2.2.2 4 _ rfl
      have u0 := HS.out.used.2.2.2 0 _ rfl
      have u1 := HS.out.used.2.2.2 1 _ rfl
      have u2 := HS.out.used.2.2.2 2 _ rfl
      have u3 := HS.out.used.2.2.2 3 _ rfl
      go_wp2_with fail
      clear x0 x1 x2 x3 x4 u0 u1 u2 u3
      refine (pentext_any bp _ _ key _ HS.out.rel.1 (by have := HS.out.len; omega)).mono ?_
      rintro e X ⟨rfl, rq, hrel⟩
      replace HS := Lib.hid (HS.out.adv (Below.refl _ _) hrel (txt_len hk))
      clear hrel
      have x0 := HS.out.box.2.2.2 0 _ rfl
      have x1 := HS.out.box.2.2.2 1 _ rfl
      have x2 := HS.out.box.2.2.2 2 _ rfl
      have x3 := HS.out.box.2.2.2 3 _ rfl
      have x4 := HS.out.box.2.2.2 4 _ rfl
      have u0 := HS.out.used.2.2.2 0 _ rfl
      have u1 := HS.out.used.2.2.2 1 _ rfl
      have u2 := HS.out.used.2.2.2 2 _ rfl
      have u3 := HS.out.used.2.2.2 3 _ rfl
      go_wp2_with fail
      clear x0 x1 x2 x3 x4 u0 u1 u2 u3
      first | go_end0 | refine bodyPost_ret (results_none rfl _ _ _) rfl ?_
      refine ⟨rfl, rq, ?_⟩
      have h := HS.out.rel
      rw [HBY.out]
      simpa [List.append_assoc] using h
    · simp only [if_pos rfl, if_neg Bool.false_ne_true] at hby
      have HBY := Lib.hid hby
      clear hby
      clear hlm
      go_enter Try.func98, Try.ntmps98
      go_wp2_with fail
      generalize w.alloc _ = W at H HBX ⊢
      refine (HC0.out _).mono ?_
      rintro e wn ⟨rfl, hbn⟩
      have TB := HBX.out.below hbn
      have x0 := TB.2.2.2 0 _ rfl
      have x1 := TB.2.2.2 1 _ rfl
      have x2 := TB.2.2.2 2 _ rfl
      have x3 := TB.2.2.2 3 _ rfl
      have x4 := TB.2.2.2 4 _ rfl
      go_wp2_with fail
      refine (HU.out _).mono ?_
      rintro e wm ⟨rfl, hbm⟩
      have TM := TB.below hbm
      clear x0 x1 x2 x3 x4
      have x0 := TM.2.2.2 0 _ rfl
      have x1 := TM.2.2.2 1 _ rfl
      have x2 := TM.2.2.2 2 _ rfl
      have x3 := TM.2.2.2 3 _ rfl
      have x4 := TM.2.2.2 4 _ rfl
      have hbu := below_alloc wm (.cells #[.bool true, .bool false, .bool true, .bool false] 110)
      have hsu : (wm.alloc (.cells #[.bool true, .bool false, .bool true, .bool false] 110)).heap.size = wm.heap.size + 1 := by simp
      have P0 := (H.out.1.below hbn).below hbm
      have HS := Lib.hid (show St w bp r (wm.alloc (.cells #[.bool true, .bool false, .bool true, .bool false] 110)) r l w.heap.size _ wm.heap.size [.bool true, .bool false, .bool true, .bool false] 50000 from
        ⟨(PenRel.refl H2.out.1).then_below (below_of (below_of (below_of H.out.2.1 hbn) hbm) hbu), TM.below hbu, told_new P0 [.bool true, .bool false, .bool true, .bool false] _, hl⟩)
      have HSU := Lib.hid hsu
      have A0 := alloc_cell x0 TM.1
      have A1 := alloc_cell x1 TM.1
      have A2 := alloc_cell x2 TM.1
      have A3 := alloc_cell x3 TM.1
      have A4 := alloc_cell x4 TM.1
      clear hbu hsu P0 TB hbn hbm
      go_wp2_with fail
      generalize wm.alloc _ = X at HS HSU ⊢
      rw [← HSU.out]
      clear A0 A1 A2 A3 A4 x0 x1 x2 x3 x4 TM
      generalize wm.heap.size = g4 at HS ⊢
      refine (pennum_any bp _ _ [kn] X.heap.size 1 _ (HS.out.rel.1.below (below_alloc _ _)) (by intro y hy; simp at hy; omega) (told_new HS.out.rel.1 (u64n [kn]) _) (by have := HS.out.len; show _ + 11 * 1 ≤ 100000; omega)).mono ?_
      rintro e X ⟨rfl, rq, hrel⟩
      replace HS := Lib.hid (HS.out.adv (below_alloc _ _) hrel (one_len _))
      clear hrel
      have x0 := HS.out.box.2.2.2 0 _ rfl
      have x1 := HS.out.box.2.2.2 1 _ rfl
      have x2 := HS.out.box.2.2.2 2 _ rfl
      have x3 := HS.out.box.2.2.2 3 _ rfl
      have x4 := HS.out.box.2.2.2 4 _ rfl
      have u0 := HS.out.used.2.2.2 0 _ rfl
      have u1 := HS.out.used.2.2.2 1 _ rfl
      have u2 := HS.out.used.2.2.2 2 _ rfl
      have u3 := HS.out.used.2.2.2 3 _ rfl
      go_wp2_with fail
      clear x0 x1 x2 x3 x4 u0 u1 u2 u3
      refine (pentext_any bp _ _ key _ HS.out.rel.1 (by have := HS.out.len; omega)).mono ?_
      rintro e X ⟨rfl, rq, hrel⟩
      replace HS := Lib.hid (HS.out.adv (Below.refl _ _) hrel (txt_len hk))
      clear hrel
      have x0 := HS.out.box.2.2.2 0 _ rfl
      have x1 := HS.out.box.2.2.2 1 _ rfl
      have x2 := HS.out.box.2.2.2 2 _ rfl
      have x3 := HS.out.box.2.2.2 3 _ rfl
      have x4 := HS.out.box.2.2.2 4 _ rfl
      have u0 := HS.out.used.2.2.2 0 _ rfl
      have u1 := HS.out.used.2.2.2 1 _ rfl
      have u2 := HS.out.used.2.2.2 2 _ rfl
      have u3 := HS.out.used.2.2.2 3 _ rfl
      go_wp2_with fail
      clear x0 x1 x2 x3 x4 u0 u1 u2 u3
      refine (pennum_any bp _ _ [val] X.heap.size 1 _ (HS.out.rel.1.below (below_alloc _ _)) (by intro y hy; simp at hy; subst hy; exact HV.out) (told_new HS.out.rel.1 (u64n [val]) _) (by have := HS.out.len; show _ + 11 * 1 ≤ 100000; omega)).mono ?_
      rintro e X ⟨rfl, rq, hrel⟩
      replace HS := Lib.hid (HS.out.adv (below_alloc _ _) hrel (one_len _))
      clear hrel
      have x0 := HS.out.box.2.2.2 0 _ rfl
      have x1 := HS.out.box.2.2.2 1 _ rfl
      have x2 := HS.out.box.2.2.2 2 _ rfl
      have x3 := HS.out.box.2.2.2 3 _ rfl
      have x4 := HS.out.box.2.2.2 4 _ rfl
      have u0 := HS.out.used.2.2.2 0 _ rfl
      have u1 := HS.out.used.2.2.2 1 _ rfl
      have u2 := HS.out.used.2.2.2 2 _ rfl
      have u3 := HS.out.used.2.2.2 3 _ rfl
      go_wp2_with fail
      clear x0 x1 x2 x3 x4 u0 u1 u2 u3
      first | go_end0 | refine bodyPost_ret (results_none rfl _ _ _) rfl ?_
      refine ⟨rfl, rq, ?_⟩
      have h := HS.out.rel
      rw [HBY.out]
      simpa [List.append_assoc] using h
    · simp only [if_pos rfl, if_neg Bool.false_ne_true] at hby
      have HBY := Lib.hid hby
      clear hby
      obtain ⟨ln, rfl⟩ := Int.eq_ofNat_of_zero_le (hlm rfl rfl).1
      have hln : ln ≤ 4096 := by have := (hlm rfl rfl).2; omega
      have hw2 : IntKind.u64.wrap (ln : Int) = (ln : Int) := by rw [IntKind.wrap_u64]; omega
      clear hlm
      go_enter Try.func98, Try.ntmps98
      go_wp2_with fail
      generalize w.alloc _ = W at H HBX ⊢
      refine (HC0.out _).mono ?_
      rintro e wn ⟨rfl, hbn⟩
      have TB := HBX.out.below hbn
      have x0 := TB.2.2.2 0 _ rfl
      have x1 := TB.2.2.2 1 _ rfl
      have x2 := TB.2.2.2 2 _ rfl
      have x3 := TB.2.2.2 3 _ rfl
      have x4 := TB.2.2.2 4 _ rfl
      go_wp2_with fail
      refine (HU.out _).mono ?_
      rintro e wm ⟨rfl, hbm⟩
      have TM := TB.below hbm
      clear x0 x1 x2 x3 x4
      have x0 := TM.2.2.2 0 _ rfl
      have x1 := TM.2.2.2 1 _ rfl
      have x2 := TM.2.2.2 2 _ rfl
      have x3 := TM.2.2.2 3 _ rfl
      have x4 := TM.2.2.2 4 _ rfl
      have hbu := below_alloc wm (.cells #[.bool true, .bool true, .bool false, .bool true] 110)
      have hsu : (wm.alloc (.cells #[.bool true, .bool true, .bool false, .bool true] 110)).heap.size = wm.heap.size + 1 := by simp
      have P0 := (H.out.1.below hbn).below hbm
      have HS := Lib.hid (show St w bp r (wm.alloc (.cells #[.bool true, .bool true, .bool false, .bool true] 110)) r l w.heap.size _ wm.heap.size [.bool true, .bool true, .bool false, .bool true] 50000 from
        ⟨(PenRel.refl H2.out.1).then_below (below_of (below_of (below_of H.out.2.1 hbn) hbm) hbu), TM.below hbu, told_new P0 [.bool true, .bool true, .bool false, .bool true] _, hl⟩)
      have HSU := Lib.hid hsu
      have A0 := alloc_cell x0 TM.1
      have A1 := alloc_cell x1 TM.1
      have A2 := alloc_cell x2 TM.1
      have A3 := alloc_cell x3 TM.1
      have A4 := alloc_cell x4 TM.1
      clear hbu hsu P0 TB hbn hbm
      go_wp2_with fail
      generalize wm.alloc _ = X at HS HSU ⊢
      rw [← HSU.out]
      clear A0 A1 A2 A3 A4 x0 x1 x2 x3 x4 TM
      generalize wm.heap.size = g4 at HS ⊢
      refine (pennum_any bp _ _ [kn] X.heap.size 1 _ (HS.out.rel.1.below (below_alloc _ _)) (by intro y hy; simp at hy; omega) (told_new HS.out.rel.1 (u64n [kn]) _) (by have := HS.out.len; show _ + 11 * 1 ≤ 100000; omega)).mono ?_
      rintro e X ⟨rfl, rq, hrel⟩
      replace HS := Lib.hid (HS.out.adv (below_alloc _ _) hrel (one_len _))
      clear hrel
      have x0 := HS.out.box.2.2.2 0 _ rfl
      have x1 := HS.out.box.2.2.2 1 _ rfl
      have x2 := HS.out.box.2.2.2 2 _ rfl
      have x3 := HS.out.box.2.2.2 3 _ rfl
      have x4 := HS.out.box.2.2.2 4 _ rfl
      have u0 := HS.out.used.2.2.2 0 _ rfl
      have u1 := HS.out.used.2.2.2 1 _ rfl
      have u2 := HS.out.used.2.2.2 2 _ rfl
      have u3 := HS.out.used.2.2.2 3 _ rfl
      go_wp2_with fail
      clear x0 x1 x2 x3 x4 u0 u1 u2 u3
      refine (pentext_any bp _ _ key _ HS.out.rel.1 (by have := HS.out.len; omega)).mono ?_
      rintro e X ⟨rfl, rq, hrel⟩
      replace HS := Lib.hid (HS.out.adv (Below.refl _ _) hrel (txt_len hk))
      clear hrel
      have x0 := HS.out.box.2.2.2 0 _ rfl
      have x1 := HS.out.box.2.2.2 1 _ rfl
      have x2 := HS.out.box.2.2.2 2 _ rfl
      have x3 := HS.out.box.2.2.2 3 _ rfl
      have x4 := HS.out.box.2.2.2 4 _ rfl
      have u0 := HS.out.used.2.2.2 0 _ rfl
      have u1 := HS.out.used.2.2.2 1 _ rfl
      have u2 := HS.out.used.2.2.2 2 _ rfl
      have u3 := HS.out.used.2.2.2 3 _ rfl
      go_wp2_with fail
      clear x0 x1 x2 x3 x4 u0 u1 u2 u3
      refine (pentext_any bp _ _ upto _ HS.out.rel.1 (by have := HS.out.len; omega)).mono ?_
      rintro e X ⟨rfl, rq, hrel⟩
      replace HS := Lib.hid (HS.out.adv (Below.refl _ _) hrel (txt_len ht))
      clear hrel
      have x0 := HS.out.box.2.2.2 0 _ rfl
      have x1 := HS.out.box.2.2.2 1 _ rfl
      have x2 := HS.out.box.2.2.2 2 _ rfl
      have x3 := HS.out.box.2.2.2 3 _ rfl
      have x4 := HS.out.box.2.2.2 4 _ rfl
      have u0 := HS.out.used.2.2.2 0 _ rfl
      have u1 := HS.out.used.2.2.2 1 _ rfl
      have u2 := HS.out.used.2.2.2 2 _ rfl
      have u3 := HS.out.used.2.2.2 3 _ rfl
      go_wp2_with fail
      clear x0 x1 x2 x3 x4 u0 u1 u2 u3
      refine (pennum_any bp _ _ [ln] X.heap.size 1 _ (HS.out.rel.1.below (below_alloc _ _)) (by intro y hy; simp at hy; omega) (told_new HS.out.rel.1 (u64n [ln]) _) (by have := HS.out.len; show _ + 11 * 1 ≤ 100000; omega)).mono ?_
      rintro e X ⟨rfl, rq, hrel⟩
      replace HS := Lib.hid (HS.out.adv (below_alloc _ _) hrel (one_len _))
      clear hrel
      have x0 := HS.out.box.2.2.2 0 _ rfl
      have x1 := HS.out.box.2.2.2 1 _ rfl
      have x2 := HS.out.box.2.2.2 2 _ rfl
      have x3 := HS.out.box.2.2.2 3 _ rfl
      have x4 := HS.out.box.2.2.2 4 _ rfl
      have u0 := HS.out.used.2.2.2 0 _ rfl
      have u1 := HS.out.used.2.2.2 1 _ rfl
      have u2 := HS.out.used.2.2.2 2 _ rfl
      have u3 := HS.out.used.2.2.2 3 _ rfl
      go_wp2_with fail
      clear x0 x1 x2 x3 x4 u0 u1 u2 u3
      first | go_end0 | refine bodyPost_ret (results_none rfl _ _ _) rfl ?_
      refine ⟨rfl, rq, ?_⟩
      have h := HS.out.rel
      rw [HBY.out]
      simpa [List.append_assoc] using h
    · simp only [if_pos rfl, if_neg Bool.false_ne_true] at hby
      have HBY := Lib.hid hby
      clear hby
      obtain ⟨ln, rfl⟩ := Int.eq_ofNat_of_zero_le (hlm rfl rfl).1
      have hln : ln ≤ 4096 := by have := (hlm rfl rfl).2; omega
      have hw2 : IntKind.u64.wrap (ln : Int) = (ln : Int) := by rw [IntKind.wrap_u64]; omega
      clear hlm
      go_enter Try.func98, Try.ntmps98
      go_wp2_with fail
      generalize w.alloc _ = W at H HBX ⊢
      refine (HC0.out _).mono ?_
      rintro e wn ⟨rfl, hbn⟩
      have TB := HBX.out.below hbn
      have x0 := TB.2.2.2 0 _ rfl
      have x1 := TB.2.2.2 1 _ rfl
      have x2 := TB.2.2.2 2 _ rfl
      have x3 := TB.2.2.2 3 _ rfl
      have x4 := TB.2.2.2 4 _ rfl
      go_wp2_with fail
      refine (HU.out _).mono ?_
      rintro e wm ⟨rfl, hbm⟩
      have TM := TB.below hbm
      clear x0 x1 x2 x3 x4
      have x0 := TM.2.2.2 0 _ rfl
      have x1 := TM.2.2.2 1 _ rfl
      have x2 := TM.2.2.2 2 _ rfl
      have x3 := TM.2.2.2 3 _ rfl
      have x4 := TM.2.2.2 4 _ rfl
      have hbu := below_alloc wm (.cells #[.bool true, .bool true, .bool true, .bool true] 110)
      have hsu : (wm.alloc (.cells #[.bool true, .bool true, .bool true, .bool true] 110)).heap.size = wm.heap.size + 1 := by simp
      have P0 := (H.out.1.below hbn).below hbm
      have HS := Lib.hid (show St w bp r (wm.alloc (.cells #[.bool true, .bool true, .bool true, .bool true] 110)) r l w.heap.size _ wm.heap.size [.bool true, .bool true, .bool true, .bool true] 50000 from
        ⟨(PenRel.refl H2.out.1).then_below (below_of (below_of (below_of H.out.2.1 hbn) hbm) hbu), TM.below hbu, told_new P0 [.bool true, .bool true, .bool true, .bool true] _, hl⟩)
      have HSU := Lib.hid hsu
      have A0 := alloc_cell x0 TM.1
      have A1 := alloc_cell x1 TM.1
      have A2 := alloc_cell x2 TM.1
      have A3 := alloc_cell x3 TM.1
      have A4 := alloc_cell x4 TM.1
      clear hbu hsu P0 TB hbn hbm
      go_wp2_with fail
      generalize wm.alloc _ = X at HS HSU ⊢
      rw [← HSU.out]
      clear A0 A1 A2 A3 A4 x0 x1 x2 x3 x4 TM
      generalize wm.heap.size = g4 at HS ⊢
      refine (pennum_any bp _ _ [kn] X.heap.size 1 _ (HS.out.rel.1.below (below_alloc _ _)) (by intro y hy; simp at hy; omega) (told_new HS.out.rel.1 (u64n [kn]) _) (by have := HS.out.len; show _ + 11 * 1 ≤ 100000; omega)).mono ?_
      rintro e X ⟨rfl, rq, hrel⟩
      replace HS := Lib.hid (HS.out.adv (below_alloc _ _) hrel (one_len _))
      clear hrel
      have x0 := HS.out.box.2.2.2 0 _ rfl
      have x1 := HS.out.box.2.2.2 1 _ rfl
      have x2 := HS.out.box.2.2.2 2 _ rfl
      have x3 := HS.out.box.2.2.2 3 _ rfl
      have x4 := HS.out.box.2.2.2 4 _ rfl
      have u0 := HS.out.used.2.2.2 0 _ rfl
      have u1 := HS.out.used.2.2.2 1 _ rfl
      have u2 := HS.out.used.2.2.2 2 _ rfl
      have u3 := HS.out.used.2.2.2 3 _ rfl
      go_wp2_with fail
      clear x0 x1 x2 x3 x4 u0 u1 u2 u3
      refine (pentext_any bp _ _ key _ HS.out.rel.1 (by have := HS.out.len; omega)).mono ?_
      rintro e X ⟨rfl, rq, hrel⟩
      replace HS := Lib.hid (HS.out.adv (Below.refl _ _) hrel (txt_len hk))
      clear hrel
      have x0 := HS.out.box.2.2.2 0 _ rfl
      have x1 := HS.out.box.2.2.2 1 _ rfl
      have x2 := HS.out.box.2.2.2 2 _ rfl
      have x3 := HS.out.box.2.2.2 3 _ rfl
      have x4 := HS.out.box.2.2.2 4 _ rfl
      have u0 := HS.out.used.2.2.2 0 _ rfl
      have u1 := HS.out.used.2.2.2 1 _ rfl
      have u2 := HS.out.used.2.2.2 2 _ rfl
      have u3 := HS.out.used.2.2.2 3 _ rfl
      go_wp2_with fail
      clear x0 x1 x2 x3 x4 u0 u1 u2 u3
      refine (pentext_any bp _ _ upto _ HS.out.rel.1 (by have := HS.out.len; omega)).mono ?_
      rintro e X ⟨rfl, rq, hrel⟩
      replace HS := Lib.hid (HS.out.adv (Below.refl _ _) hrel (txt_len ht))
      clear hrel
      have x0 := HS.out.box.2.2.2 0 _ rfl
      have x1 := HS.out.box.2.2.2 1 _ rfl
      have x2 := HS.out.box.2.2.2 2 _ rfl
      have x3 := HS.out.box.2.2.2 3 _ rfl
      have x4 := HS.out.box.2.2.2 4 _ rfl
      have u0 := HS.out.used.2.2.2 0 _ rfl
      have u1 := HS.out.used.2.2.2 1 _ rfl
      have u2 := HS.out.used.2.2.2 2 _ rfl
      have u3 := HS.out.used.2.2.2 3 _ rfl
      go_wp2_with fail
      clear x0 x1 x2 x3 x4 u0 u1 u2 u3
      refine (pennum_any bp _ _ [val] X.heap.size 1 _ (HS.out.rel.1.below (below_alloc _ _)) (by intro y hy; simp at hy; subst hy; exact HV.out) (told_new HS.out.rel.1 (u64n [val]) _) (by have := HS.out.len; show _ + 11 * 1 ≤ 100000; omega)).mono ?_
      rintro e X ⟨rfl, rq, hrel⟩
      replace HS := Lib.hid (HS.out.adv (below_alloc _ _) hrel (one_len _))
      clear hrel
      have x0 := HS.out.box.2.2.2 0 _ rfl
      have x1 := HS.out.box.2.2.2 1 _ rfl
      have x2 := HS.out.box.2.2.2 2 _ rfl
      have x3 := HS.out.box.2.2.2 3 _ rfl
      have x4 := HS.out.box.2.2.2 4 _ rfl
      have u0 := HS.out.used.2.2.2 0 _ rfl
      have u1 := HS.out.used.2.2.2 1 _ rfl
      have u2 := HS.out.used.2.2.2 2 _ rfl
      have u3 := HS.out.used.2.2.2 3 _ rfl
      go_wp2_with fail
      clear x0 x1 x2 x3 x4 u0 u1 u2 u3
      refine (pennum_any bp _ _ [ln] X.heap.size 1 _ (HS.out.rel.1.below (below_alloc _ _)) (by intro y hy; simp at hy; omega) (told_new HS.out.rel.1 (u64n [ln]) _) (by have := HS.out.len; show _ + 11 * 1 ≤ 100000; omega)).mono ?_
      rintro e X ⟨rfl, rq, hrel⟩
      replace HS := Lib.hid (HS.out.adv (below_alloc _ _) hrel (one_len _))
      clear hrel
      have x0 := HS.out.box.2.2.2 0 _ rfl
      have x1 := HS.out.box.2.2.2 1 _ rfl
      have x2 := HS.out.box.2.2.2 2 _ rfl
      have x3 := HS.out.box.2.2.2 3 _ rfl
      have x4 := HS.out.box.2.2.2 4 _ rfl
      have u0 := HS.out.used.2.2.2 0 _ rfl
      have u1 := HS.out.used.2.2.2 1 _ rfl
      have u2 := HS.out.used.2.2.2 2 _ rfl
      have u3 := HS.out.used.2.2.2 3 _ rfl
      go_wp2_with fail
      clear x0 x1 x2 x3 x4 u0 u1 u2 u3
      first | go_end0 | refine bodyPost_ret (results_none rfl _ _ _) rfl ?_
      refine ⟨rfl, rq, ?_⟩
      have h := HS.out.rel
      rw [HBY.out]
      simpa [List.append_assoc] using h

end Go.Proofs.Ythbafbgnclpbpaa
