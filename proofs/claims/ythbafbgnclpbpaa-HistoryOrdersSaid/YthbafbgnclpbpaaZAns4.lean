/- Contracts of package answer: what is written. -/
import Derived.Test.YthbafbgnclpbpaaAnsA
namespace Go.Proofs.Ythbafbgnclpbpaa
open Go.RowKit

/-- The bytes of a pair, of what is ahead of the pairs, of an answer. -/
def prBytes (p : PairD) : List Nat := (dig p.key.size ++ tb p.key) ++ dig p.val
def ansHead (a : AnsD) : List Nat := dig a.code.toNat ++ ((dig a.key.size ++ tb a.key) ++ (dig a.val ++ dig a.pairs.length))
def ansBytes (a : AnsD) : List Nat := if sndA a = true then ansHead a ++ a.pairs.flatMap prBytes else [0]

theorem prBytes_len {p : PairD} (h : p.key.size ≤ 200) : (prBytes p).length ≤ 222 := by
  unfold prBytes
  rw [List.length_append, List.length_append, tb_length]
  have := dig_len p.key.size
  have := dig_len p.val
  omega
theorem prs_len (ps : List PairD) (h : ∀ p ∈ ps, p.key.size ≤ 200) : (ps.flatMap prBytes).length ≤ 222 * ps.length := by
  induction ps with
  | nil => simp
  | cons p ps ih =>
    rw [List.flatMap_cons, List.length_append, List.length_cons]
    have := prBytes_len (h p (by simp))
    have := ih (fun q hq => h q (by simp [hq]))
    omega
theorem lightA_spec {a : AnsD} (h : lightA a = true) : (∀ p ∈ a.pairs, p.key.size ≤ 200) ∧ a.key.size ≤ 200 ∧ a.pairs.length ≤ 60 := of_decide_eq_true h
theorem sndA_code {a : AnsD} (h : sndA a = true) : 1 ≤ a.code ∧ a.code ≤ 6 := by have := of_decide_eq_true h; exact ⟨this.1, this.2.1⟩

set_option maxRecDepth 100000 in
set_option maxHeartbeats 8000000 in
theorem answrite_any (bp : Nat) (r : Option Nat) (l : List Nat) (a : AnsD) (A : Option Addr) (c : Nat) (w : World) (hp : PenAt w bp r l) (h : Prs w A a.pairs.length a.pairs) (hfar : 0 < a.pairs.length → ∀ q, A = some q → ¬ penS bp r q.block) (ha : AnsOk a) (hs : lightA a = true) (hl : l.length ≤ 800000) :
    Calls Try.prog 49 #[.pointer (some ⟨bp, 0, none⟩), .agg (ansCells a A c)] w (PenTo w bp r (l ++ ansBytes a)) := by
  have hbox := told_new hp (ansCells a A c).toList 25
  have hb := below_alloc w (.cells (ansCells a A c) 25)
  have H := Lib.hid (And.intro (hp.below hb) (And.intro hb (h.up hb)))
  have HC := Lib.hid (fun W (hW : Prs W A a.pairs.length a.pairs) => anscheck_any a A c W hW ha)
  have HL := Lib.hid (lightA_spec hs)
  have HF := Lib.hid (And.intro h hfar)
  have H0 := Lib.hid (And.intro hp ha)
  have hby : ansBytes a = if sndA a = true then ansHead a ++ a.pairs.flatMap prBytes else [0] := rfl
  have hhd : ansHead a = dig a.code.toNat ++ ((dig a.key.size ++ tb a.key) ++ (dig a.val ++ dig a.pairs.length)) := rfl
  have hcd := sndA_code (a := a)
  simp only [Array.toArray_toList] at hbox
  clear h hfar hs hb hp
  generalize ansBytes a = by0 at hby ⊢
  generalize ansHead a = hd at hby hhd
  generalize sndA a = s at hby HC hcd
  obtain ⟨code, key, val, pairs⟩ := a
  simp only [ansCells] at hbox H HC ⊢
  simp only [] at HL HF hhd hcd
  have HBX := Lib.hid hbox
  clear hbox
  have hpl : pairs.length ≤ 60 := HL.out.2.2
  have hks : key.size ≤ 200 := HL.out.2.1
  have hva : val < 18446744073709551616 := ha.val
  have HV := Lib.hid hva
  clear ha hva
  cases s
  · have HBY := Lib.hid (hby.trans (if_neg Bool.false_ne_true))
    have HC0 := Lib.hid (fun W hW => Calls.as_ (HC.out W hW) (congrArg (Value.int .i64) (if_neg Bool.false_ne_true)))
    clear hby hhd hcd HC
    go_enter Try.func49, Try.ntmps49
    go_upto_region 1 with fail
    generalize w.alloc _ = W at H HBX ⊢
    have x0 := HBX.out.2.2.2 0 _ rfl
    have x1 := HBX.out.2.2.2 1 _ rfl
    have x2 := HBX.out.2.2.2 2 _ rfl
    have x3 := HBX.out.2.2.2 3 _ rfl
    go_wp2_with fail
    refine (HC0.out _ H.out.2.2).mono ?_
    rintro e wn ⟨rfl, hbn⟩
    clear x0 x1 x2 x3
    go_wp2_with fail
    refine (pennum_any bp r l [0] wn.heap.size 1 _ ((H.out.1.below hbn).below (below_alloc _ _)) (by simp) (told_new (H.out.1.below hbn) (u64n [0]) _) (by simp; omega)).mono ?_
    rintro e w3 ⟨rfl, r3, hrel⟩
    have HR := Lib.hid (PenRel.of_below H.out.2.1 (PenRel.of_below hbn (PenRel.of_below (below_alloc _ _) hrel)))
    clear hrel
    go_wp2_with fail
    first | go_end0 | refine bodyPost_ret (results_none rfl _ _ _) rfl ?_
    refine ⟨rfl, r3, ?_⟩
    rw [HBY.out]
    exact HR.out
  · have hcd2 := hcd rfl
    obtain ⟨cn, rfl⟩ := Int.eq_ofNat_of_zero_le (show 0 ≤ code by omega)
    have hcn : cn ≤ 6 := by omega
    have hw : IntKind.u64.wrap (cn : Int) = (cn : Int) := by rw [IntKind.wrap_u64]; omega
    have hw2 : IntKind.u64.wrap (pairs.length : Int) = (pairs.length : Int) := by rw [IntKind.wrap_u64]; omega
    rw [Int.toNat_natCast] at hhd
    have HBY := Lib.hid (And.intro (hby.trans (if_pos rfl)) hhd)
    have HC0 := Lib.hid (fun W hW => Calls.as_ (HC.out W hW) (congrArg (Value.int .i64) (if_pos rfl)))
    clear hby hhd hcd hcd2 HC
    go_enter Try.func49, Try.ntmps49
    go_upto_region 1 with fail
    generalize w.alloc _ = W at H HBX ⊢
    have x0 := HBX.out.2.2.2 0 _ rfl
    have x1 := HBX.out.2.2.2 1 _ rfl
    have x2 := HBX.out.2.2.2 2 _ rfl
    have x3 := HBX.out.2.2.2 3 _ rfl
    go_wp2_with fail
    refine (HC0.out _ H.out.2.2).mono ?_
    rintro e X ⟨rfl, hbn⟩
    clear x0 x1 x2 x3
    have HS := Lib.hid (show Wr w bp r X r l w.heap.size _ 800000 from ⟨(PenRel.refl H0.out.1).then_below (below_of H.out.2.1 hbn), HBX.out.up_ hbn, hl⟩)
    clear hbn HC0
    generalize w.heap.size = g at HS ⊢
    have x0 := HS.out.box.2.2.2 0 _ rfl
    have x1 := HS.out.box.2.2.2 1 _ rfl
    have x2 := HS.out.box.2.2.2 2 _ rfl
    have x3 := HS.out.box.2.2.2 3 _ rfl
    go_wp2_with fail
    clear x0 x1 x2 x3
    refine (pennum_any bp _ _ [cn] X.heap.size 1 _ (HS.out.rel.1.below (below_alloc _ _)) (by intro y hy; simp at hy; omega) (told_new HS.out.rel.1 (u64n [cn]) _) (by have := HS.out.len; show _ + 11 * 1 ≤ 900000; omega)).mono ?_
    rintro e X ⟨rfl, rq, hrel⟩
    replace HS := Lib.hid (HS.out.adv (below_alloc _ _) hrel (one_le _))
    clear hrel
    have x0 := HS.out.box.2.2.2 0 _ rfl
    have x1 := HS.out.box.2.2.2 1 _ rfl
    have x2 := HS.out.box.2.2.2 2 _ rfl
    have x3 := HS.out.box.2.2.2 3 _ rfl
    go_wp2_with fail
    clear x0 x1 x2 x3
    refine (pentext_any bp _ _ key _ HS.out.rel.1 (by have := HS.out.len; omega)).mono ?_
    rintro e X ⟨rfl, rq, hrel⟩
    replace HS := Lib.hid (HS.out.adv (Below.refl _ _) hrel (txt_le (by omega)))
    clear hrel
    have x0 := HS.out.box.2.2.2 0 _ rfl
    have x1 := HS.out.box.2.2.2 1 _ rfl
    have x2 := HS.out.box.2.2.2 2 _ rfl
    have x3 := HS.out.box.2.2.2 3 _ rfl
    go_wp2_with fail
    clear x0 x1 x2 x3
    refine (pennum_any bp _ _ [val, pairs.length] X.heap.size 2 _ (HS.out.rel.1.below (below_alloc _ _)) (by intro y hy; simp at hy; have := HV.out; omega) (told_new HS.out.rel.1 (u64n [val, pairs.length]) _) (by have := HS.out.len; show _ + 11 * 2 ≤ 900000; omega)).mono ?_
    rintro e X ⟨rfl, rq, hrel⟩
    replace HS := Lib.hid (HS.out.adv (below_alloc _ _) hrel (by have h1 := flat_len [val, pairs.length]; simp only [List.length_cons, List.length_nil] at h1; omega))
    clear hrel
    have x0 := HS.out.box.2.2.2 0 _ rfl
    have x1 := HS.out.box.2.2.2 1 _ rfl
    have x2 := HS.out.box.2.2.2 2 _ rfl
    have x3 := HS.out.box.2.2.2 3 _ rfl
    have hL : l ++ [cn].flatMap dig ++ (dig key.size ++ tb key) ++ [val, pairs.length].flatMap dig = l ++ hd := by rw [HBY.out.2]; simp [List.append_assoc]
    have HR0 := Lib.hid (And.intro (hL ▸ HS.out.rel) (hL ▸ HS.out.len))
    clear hL
    go_wp2_with fail
    go_loopw [5, 34] (fun _ i wr => ∃ (j : Nat) (r' : Option Nat), i = .int .i64 j ∧ Hid (j ≤ pairs.length ∧ PenRel w bp r wr r' (l ++ (hd ++ (pairs.take j).flatMap prBytes)))) (fun _ i _ => pairs.length - (intOf i).toNat)
    case atStart => exact ⟨0, rq, rfl, Nat.zero_le _, by simpa using HR0.out.1⟩
    case round =>
      obtain ⟨j, r1, rfl, HJ⟩ := hrel
      clear x0 x1 x2 x3
      by_cases hlt : j < pairs.length
      · obtain ⟨b, off, hjl, rfl, hbl, d0, d1⟩ := HF.out.1.at_ hlt
        have hf := HF.out.2 (by omega) _ rfl
        have hn2 : ∀ i, wr.cell? ⟨b, i, none⟩ = w.cell? ⟨b, i, none⟩ := fun i => HJ.out.2.2.1.cell (p := ⟨b, i, none⟩) hbl hf
        replace d0 := (hn2 _).trans d0
        replace d1 := (hn2 _).trans d1
        have HT := Lib.hid (flat_take prBytes pairs j hlt)
        have hpk := HL.out.1 _ (List.getElem_mem hlt)
        have hpv := (H0.out.2.pairs _ (List.getElem_mem hlt)).2
        have hlen : (l ++ (hd ++ (pairs.take j).flatMap prBytes)).length ≤ 820000 := by
          have h1 := prs_len (pairs.take j) (fun p hp => HL.out.1 p (List.mem_of_mem_take hp))
          have h2 := HR0.out.2
          rw [List.length_take] at h1
          rw [List.length_append] at h2
          rw [List.length_append, List.length_append]
          omega
        generalize (pairs.take j).flatMap prBytes = M at HJ HT hlen
        generalize hpj : pairs[j] = p at d0 d1 HT hpk hpv
        clear hn2 hf hpj
        obtain ⟨pk, pv⟩ := p
        simp only [] at d0 d1 hpk hpv
        have hprb : prBytes ⟨pk, pv⟩ = (dig pk.size ++ tb pk) ++ dig pv := rfl
        have HPB := Lib.hid hprb
        have HPV := Lib.hid (And.intro hpv hlen)
        clear hprb hpv
        have HS2 := Lib.hid (show Wr w bp r (wr.alloc (.cells #[.string pk, .int .u64 (pv : Int)] 32)) r1 (l ++ (hd ++ M)) wr.heap.size [.string pk, .int .u64 (pv : Int)] 820000 from ⟨HJ.out.2.then_below (below_alloc _ _), told_new HJ.out.2.1 [.string pk, .int .u64 (pv : Int)] _, hlen⟩)
        clear hlen
        go_upto_region 9 with fail
        generalize wr.alloc _ = X at HS2 ⊢
        generalize wr.heap.size = g2 at HS2 ⊢
        have y0 := HS2.out.box.2.2.2 0 _ rfl
        have y1 := HS2.out.box.2.2.2 1 _ rfl
        go_wp2_with fail
        refine (pentext_any bp _ _ pk _ HS2.out.rel.1 (by have := HS2.out.len; omega)).mono ?_
        rintro e X ⟨rfl, rq2, hrel⟩
        replace HS2 := Lib.hid (HS2.out.adv (Below.refl _ _) hrel (txt_le (by omega)))
        clear hrel y0 y1
        have y0 := HS2.out.box.2.2.2 0 _ rfl
        have y1 := HS2.out.box.2.2.2 1 _ rfl
        go_wp2_with fail
        refine (pennum_any bp _ _ [pv] X.heap.size 1 _ (HS2.out.rel.1.below (below_alloc _ _)) (by intro y hy; simp at hy; have := HPV.out.1; omega) (told_new HS2.out.rel.1 (u64n [pv]) _) (by have := HS2.out.len; show _ + 11 * 1 ≤ 900000; omega)).mono ?_
        rintro e X ⟨rfl, rq3, hrel⟩
        replace HS2 := Lib.hid (HS2.out.adv (below_alloc _ _) hrel (one_le _))
        clear hrel y0 y1
        go_wp2_with fail
        go_roundw
        case rel =>
          refine ⟨j + 1, rq3, by go_num, by omega, ?_⟩
          have h := HS2.out.rel
          rw [HT.out, HPB.out]
          simpa [List.append_assoc] using h
        case measure => simp [intOf]; omega
      · have hj : j = pairs.length := by have := HJ.out.1; omega
        subst hj
        have hH := HJ.out.2
        rw [List.take_length] at hH
        have H' := Lib.hid hH
        clear hH
        go_wp2_with fail
        first | go_end0 | refine bodyPost_ret (results_none rfl _ _ _) rfl ?_
        refine ⟨rfl, r1, ?_⟩
        rw [HBY.out.1]
        exact H'.out

end Go.Proofs.Ythbafbgnclpbpaa
