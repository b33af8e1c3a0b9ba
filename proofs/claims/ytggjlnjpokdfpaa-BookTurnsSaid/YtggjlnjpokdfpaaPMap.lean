/- Contracts of package pairs: a map in memory; Len, find, at, Get. -/
import Derived.Test.YtggjlnjpokdfpaaMap06b
import Derived.Test.YtggjlnjpokdfpaaMake3
namespace Go.Proofs.Ytggjlnjpokdfpaa
open Go.RowKit

/-- A map: where its rows lie. T: blocks that are others'. -/
structure MapA (T : Nat → Prop) (w : World) (g : Nat) (ks : List ByteArray) (vs : List Int) (A : Option Addr) (ca : Nat) (B : Option Addr) (cb : Nat) : Prop where
  cell : w.heap[g]? = some (.cells #[.slice A ks.length ca, .slice B vs.length cb] 78 (0, 0))
  keys : RdS w A ks.length ks
  vals : RdU w B vs.length vs
  fit : Fits ks
  ka : ks.length ≤ ca
  kb : vs.length ≤ cb
  na : ∀ a, A = some a → a.block ≠ g ∧ ¬ T a.block
  nb : ∀ a, B = some a → a.block ≠ g ∧ ¬ T a.block
  nt : ¬ T g
  la : ∀ a, A = some a → a.block < w.heap.size
  lb : ∀ a, B = some a → a.block < w.heap.size
def MapAt (T : Nat → Prop) (w : World) (g : Nat) (ks : List ByteArray) (vs : List Int) : Prop := ks.length = vs.length ∧ ∃ A ca B cb, MapA T w g ks vs A ca B cb

theorem rd_offm {S : Nat → Prop} {w w' : World} {A : Option Addr} {n : Nat} {xs : List Value} (h : Rd w w.heap.size 1 A n xs) (ho : Off S w w') (hs : ∀ a, A = some a → ¬ S a.block) : Rd w' w'.heap.size 1 A n xs := by
  refine ⟨h.1, fun h0 => ?_⟩
  obtain ⟨b, off, rfl, hb, hc⟩ := h.2 h0
  have hB := hs _ rfl
  exact ⟨b, off, rfl, Nat.lt_of_lt_of_le hb ho.size, fun j u hu => (ho.cell (p := ⟨b, off + j, none⟩) hb hB).trans (hc j u hu)⟩
section
variable {T S : Nat → Prop} {w w' : World} {g b : Nat} {ks ks' : List ByteArray} {vs vs' : List Int} {A B : Option Addr} {ca cb : Nat}
theorem MapA.lt (h : MapA T w g ks vs A ca B cb) : g < w.heap.size := (Array.getElem?_eq_some_iff.1 h.cell).1
theorem MapA.off (h : MapA T w g ks vs A ca B cb) (ho : Off S w w') (hs : ∀ k, S k → T k) : MapA T w' g ks vs A ca B cb :=
  ⟨(ho.block g h.lt (fun e => h.nt (hs _ e))).trans h.cell, rd_offm h.keys ho (fun a e q => (h.na a e).2 (hs _ q)), rd_offm h.vals ho (fun a e q => (h.nb a e).2 (hs _ q)), h.fit, h.ka, h.kb, h.na, h.nb, h.nt, fun a e => Nat.lt_of_lt_of_le (h.la a e) ho.size, fun a e => Nat.lt_of_lt_of_le (h.lb a e) ho.size⟩
theorem MapA.up (h : MapA T w g ks vs A ca B cb) (hb : Below w.heap.size w w') : MapA T w' g ks vs A ca B cb := h.off (Off.of_below hb (fun _ => False)) (fun _ q => q.elim)
theorem MapAt.off (h : MapAt T w g ks vs) (ho : Off S w w') (hs : ∀ k, S k → T k) : MapAt T w' g ks vs := by
  obtain ⟨hl, A, ca, B, cb, h⟩ := h
  exact ⟨hl, A, ca, B, cb, h.off ho hs⟩
theorem MapAt.up (h : MapAt T w g ks vs) (hb : Below w.heap.size w w') : MapAt T w' g ks vs := h.off (Off.of_below hb (fun _ => False)) (fun _ q => q.elim)
theorem MapAt.lt (h : MapAt T w g ks vs) : g < w.heap.size := by
  obtain ⟨hl, A, ca, B, cb, h⟩ := h
  exact h.lt
/-- Blocks that come later are others'. -/
theorem MapA.more {T' : Nat → Prop} (h : MapA T w g ks vs A ca B cb) (hT : ∀ k, k < w.heap.size → T' k → T k) : MapA T' w g ks vs A ca B cb :=
  { h with na := fun a e => ⟨(h.na a e).1, fun q => (h.na a e).2 (hT _ (h.la a e) q)⟩, nb := fun a e => ⟨(h.nb a e).1, fun q => (h.nb a e).2 (hT _ (h.lb a e) q)⟩, nt := fun q => h.nt (hT _ h.lt q) }
theorem MapAt.more {T' : Nat → Prop} (h : MapAt T w g ks vs) (hT : ∀ k, k < w.heap.size → T' k → T k) : MapAt T' w g ks vs := by
  obtain ⟨hl, A, ca, B, cb, h⟩ := h
  exact ⟨hl, A, ca, B, cb, h.more hT⟩
/-- Another row of keys, of values. -/
theorem MapA.setA (h : MapA T w g ks vs A ca B cb) {E : TypeId} (hn : w.heap[b]? = some (.cells (strs ks').toArray E (0, 0))) (hg : b ≠ g) (hT : ¬ T b) (hf : Fits ks') {n : Nat} (hnl : n = ks'.length) :
    MapA T (w.setCell ⟨g, 0, none⟩ (.slice (some ⟨b, 0, none⟩) n n)) g ks' vs (some ⟨b, 0, none⟩) n B cb := by
  subst hnl
  have ho := Off.of_setCell w ⟨g, 0, none⟩ (.slice (some ⟨b, 0, none⟩) ks'.length ks'.length)
  have hr : RdS w (some ⟨b, 0, none⟩) ks'.length ks' := by have := Rd.new hn; rw [strs_length] at this; exact this
  exact ⟨heap_set h.cell 0 _, rd_offm hr ho (fun a e q => by injection e with e; subst e; exact hg q), rd_offm h.vals ho (fun a e q => (h.nb a e).1 q), hf, Nat.le_refl _, h.kb, fun a e => by injection e with e; subst e; exact ⟨hg, hT⟩, h.nb, h.nt,
    fun a e => by injection e with e; subst e; exact Nat.lt_of_lt_of_le (Array.getElem?_eq_some_iff.1 hn).1 ho.size, fun a e => Nat.lt_of_lt_of_le (h.lb a e) ho.size⟩
theorem MapA.setB (h : MapA T w g ks vs A ca B cb) {E : TypeId} (hn : w.heap[b]? = some (.cells (u64s vs').toArray E (0, 0))) (hg : b ≠ g) (hT : ¬ T b) {n : Nat} (hnl : n = vs'.length) :
    MapA T (w.setCell ⟨g, 1, none⟩ (.slice (some ⟨b, 0, none⟩) n n)) g ks vs' A ca (some ⟨b, 0, none⟩) n := by
  subst hnl
  have ho := Off.of_setCell w ⟨g, 1, none⟩ (.slice (some ⟨b, 0, none⟩) vs'.length vs'.length)
  have hr : RdU w (some ⟨b, 0, none⟩) vs'.length vs' := by have := Rd.new hn; rw [u64s_length] at this; exact this
  exact ⟨heap_set h.cell 1 _, rd_offm h.keys ho (fun a e q => (h.na a e).1 q), rd_offm hr ho (fun a e q => by injection e with e; subst e; exact hg q), h.fit, h.ka, Nat.le_refl _, h.na, fun a e => by injection e with e; subst e; exact ⟨hg, hT⟩, h.nt,
    fun a e => Nat.lt_of_lt_of_le (h.la a e) ho.size, fun a e => by injection e with e; subst e; exact Nat.lt_of_lt_of_le (Array.getElem?_eq_some_iff.1 hn).1 ho.size⟩
end

/-- The pair at a place. -/
def atO (r : List PairD) (i : Int) : Option PairD := if 0 ≤ i then r[i.toNat]? else none
def mGet (ks : List ByteArray) (vs : List Int) (k : ByteArray) : Int × Bool := if Pl.findIs ks k.data.toList = true then (vs.getD (Pl.findAt ks k.data.toList) 0, true) else (0, false)

set_option maxHeartbeats 1000000 in
theorem pmlen_any (T : Nat → Prop) (g : Nat) (ks : List ByteArray) (vs : List Int) (A B : Option Addr) (ca cb : Nat) (w : World) (h : MapA T w g ks vs A ca B cb) :
    Calls Try.prog 53 #[.pointer (some ⟨g, 0, none⟩)] w (Ret (.int .i64 ks.length) w) := by
  obtain ⟨m0, m1, -, -⟩ := pr_facts h.cell
  clear h
  go_enter Try.func53, Try.ntmps53
  go_wp2_with fail
  go_ret
  exact ⟨rfl, Below.refl _ _⟩
theorem pmlen_nil (w : World) : Calls Try.prog 53 #[.pointer none] w (Ret (.int .i64 0) w) := by
  go_enter Try.func53, Try.ntmps53
  go_wp2_with fail
  go_ret
  exact ⟨rfl, Below.refl _ _⟩

set_option maxHeartbeats 1000000 in
theorem pmfind_any (T : Nat → Prop) (g : Nat) (ks : List ByteArray) (vs : List Int) (k : ByteArray) (A B : Option Addr) (ca cb : Nat) (w : World) (h : MapA T w g ks vs A ca B cb) (hk : k.size ≤ maxLen) (hl : ks.length ≤ 1000) :
    Calls Try.prog 73 #[.pointer (some ⟨g, 0, none⟩), .string k] w (Ret (.tuple #[.int .i64 (Pl.findAt ks k.data.toList : Nat), .bool (Pl.findIs ks k.data.toList)]) w) := by
  obtain ⟨m0, m1, -, -⟩ := pr_facts h.cell
  have HF := Lib.hid (find_any A ks.length ca ks k w h.keys h.fit hk (by omega))
  clear h
  go_enter Try.func73, Try.ntmps73
  go_wp2_with fail
  refine HF.out.mono ?_
  rintro e wn ⟨rfl, hbn⟩
  go_wp2_with fail
  go_ret2
  exact ⟨rfl, hbn⟩
theorem pmfind_nil (k : ByteArray) (w : World) : Calls Try.prog 73 #[.pointer none, .string k] w (Ret (.tuple #[.int .i64 0, .bool false]) w) := by
  go_enter Try.func73, Try.ntmps73
  go_wp2_with fail
  go_ret2
  exact ⟨rfl, Below.refl _ _⟩

set_option maxHeartbeats 1000000 in
theorem pmget_any (T : Nat → Prop) (g : Nat) (ks : List ByteArray) (vs : List Int) (k : ByteArray) (A B : Option Addr) (ca cb : Nat) (w : World) (h : MapA T w g ks vs A ca B cb) (hv : ks.length = vs.length) (hk : k.size ≤ maxLen) (hl : ks.length ≤ 1000) :
    Calls Try.prog 43 #[.pointer (some ⟨g, 0, none⟩), .string k] w (Ret (.tuple #[.int .u64 (mGet ks vs k).1, .bool (mGet ks vs k).2]) w) := by
  have HF := Lib.hid (pmfind_any T g ks vs k A B ca cb w h hk hl)
  have HM := Lib.hid h
  have hg : mGet ks vs k = if Pl.findIs ks k.data.toList = true then (vs.getD (Pl.findAt ks k.data.toList) 0, true) else (0, false) := rfl
  have hlt : Pl.findIs ks k.data.toList = true → Pl.findAt ks k.data.toList < ks.length := fun e => by
    unfold Pl.findIs at e
    rw [Bool.and_eq_true, decide_eq_true_iff] at e
    exact e.1
  generalize Pl.findIs ks k.data.toList = hs at HF hg hlt
  generalize Pl.findAt ks k.data.toList = i at HF hg hlt
  generalize mGet ks vs k = o at hg ⊢
  have HG := Lib.hid hg
  clear h hg
  go_enter Try.func43, Try.ntmps43
  go_wp2_with fail
  refine HF.out.mono ?_
  rintro e wn ⟨rfl, hbn⟩
  have HB := Lib.hid hbn
  have hM := HM.out.up hbn
  clear hbn HF HM
  cases hs
  · go_wp2_with fail
    go_ret2
    rw [HG.out]
    exact ⟨rfl, HB.out⟩
  · have hi := hlt rfl
    have HG2 := Lib.hid (HG.out.trans (if_pos rfl))
    clear HG
    have hi2 : i < vs.length := by omega
    obtain ⟨m0, m1, -, -⟩ := pr_facts hM.cell
    obtain ⟨b, off, rfl, _, hc⟩ := hM.vals.spot (show 0 < vs.length by omega)
    have cj := hc i hi2
    have hgd : vs.getD i 0 = vs[i] := by rw [List.getD_eq_getElem?_getD, List.getElem?_eq_getElem hi2]; rfl
    have HGD := Lib.hid hgd
    clear hc hgd hlt hM
    have hi3 : (i : Int) < (vs.length : Int) := by omega
    go_wp2_with fail
    go_ret2
    rw [HG2.out, HGD.out]
    exact ⟨rfl, HB.out⟩
theorem pmget_nil (k : ByteArray) (w : World) : Calls Try.prog 43 #[.pointer none, .string k] w (Ret (.tuple #[.int .u64 0, .bool false]) w) := by
  go_enter Try.func43, Try.ntmps43
  go_wp2_with fail
  refine (pmfind_nil k w).mono ?_
  rintro e wn ⟨rfl, hbn⟩
  go_wp2_with fail
  go_ret2
  exact ⟨rfl, hbn⟩

set_option maxRecDepth 100000 in
set_option maxHeartbeats 1000000 in
theorem pmat_any (T : Nat → Prop) (g : Nat) (ks : List ByteArray) (vs : List Int) (i : Int) (A B : Option Addr) (ca cb : Nat) (w : World) (h : MapA T w g ks vs A ca B cb) (hv : ks.length = vs.length) (hl : ks.length ≤ 1000) :
    Calls Try.prog 76 #[.pointer (some ⟨g, 0, none⟩), .int .i64 i] w (Ret (.tuple #[.agg (prCells ((atO (Pl.zipP ks vs) i).getD Pl.zeroP)), .bool (atO (Pl.zipP ks vs) i).isSome]) w) := by
  have HM := Lib.hid h
  have HLn := Lib.hid (fun W hW => pmlen_any T g ks vs A B ca cb W hW)
  have HGL := Lib.hid h.lt
  have hS := Lib.hid ((Sx.start0 w).alloc (.cells (prCells Pl.zeroP) 59))
  simp only [prCells, Pl.zeroP, List.nil_append] at hS
  have hbad : i < 0 ∨ (ks.length : Int) ≤ i → atO (Pl.zipP ks vs) i = none := by
    intro q
    unfold atO
    by_cases h0 : 0 ≤ i
    · rw [if_pos h0, List.getElem?_eq_none (by rw [Pl.zipP_len hv]; omega)]
    · rw [if_neg h0]
  have hgood : ∀ (j : Nat) (h1 : j < ks.length) (h2 : j < vs.length), i = j → atO (Pl.zipP ks vs) i = some ⟨ks[j], vs[j]⟩ := by
    intro j h1 h2 e
    unfold atO
    have hz : j < (Pl.zipP ks vs).length := by rw [Pl.zipP_len hv]; exact h1
    rw [if_pos (by omega), e, Int.toNat_natCast, List.getElem?_eq_getElem hz, Pl.zipP_at j h1 h2 hz]
  generalize atO (Pl.zipP ks vs) i = o at hbad hgood ⊢
  have HBAD := Lib.hid hbad
  have HGOOD := Lib.hid hgood
  clear h hbad hgood
  by_cases hin : i < 0 ∨ (ks.length : Int) ≤ i
  · obtain rfl := HBAD.out hin
    simp only [Option.getD_none, Option.isSome_none, prCells, Pl.zeroP]
    go_enter Try.func76, Try.ntmps76
    go_upto_region 1 with fail
    generalize w.alloc _ = W at hS ⊢
    by_cases h0 : i < 0
    · have h0b : decide (i < 0) = true := decide_eq_true h0
      obtain ⟨y0, y1, q0, q1⟩ := pr_facts (hS.out.has 0 _ _ rfl).1
      have HZ := Lib.hid ((hS.out.setc 0 rfl 0 (.string ⟨#[]⟩)).setc 0 rfl 1 (.int .u64 0)).below
      clear hin h0
      go_wp2_with fail
      exact bodyPost_ret (v := .tuple #[.agg #[.string ⟨#[]⟩, .int .u64 0], .bool false]) (by simp [results, Try.results76, go_sem, *]) rfl ⟨rfl, HZ.out⟩
    · have h0b : decide (i < 0) = false := decide_eq_false h0
      have h1 : (ks.length : Int) ≤ i := by omega
      have h1b : decide ((ks.length : Int) ≤ i) = true := decide_eq_true h1
      clear hin h0
      go_wp2_with fail
      refine (HLn.out _ (HM.out.up hS.out.below)).mono ?_
      rintro e wn ⟨rfl, hbn⟩
      replace hS := Lib.hid (hS.out.call hbn)
      clear hbn
      obtain ⟨y0, y1, q0, q1⟩ := pr_facts (hS.out.has 0 _ _ rfl).1
      have HZ := Lib.hid ((hS.out.setc 0 rfl 0 (.string ⟨#[]⟩)).setc 0 rfl 1 (.int .u64 0)).below
      go_wp2_with fail
      exact bodyPost_ret (v := .tuple #[.agg #[.string ⟨#[]⟩, .int .u64 0], .bool false]) (by simp [results, Try.results76, go_sem, *]) rfl ⟨rfl, HZ.out⟩
  · obtain ⟨j, rfl⟩ := Int.eq_ofNat_of_zero_le (show 0 ≤ i by omega)
    have hj1 : j < ks.length := by omega
    have hj2 : j < vs.length := by omega
    obtain rfl := HGOOD.out j hj1 hj2 rfl
    obtain ⟨b, off, rfl, hb, hc⟩ := HM.out.keys.spot (show 0 < ks.length by omega)
    obtain ⟨b', off', rfl, hb', hc'⟩ := HM.out.vals.spot (show 0 < vs.length by omega)
    have HC1 := Lib.hid (And.intro hb (hc j hj1))
    have HC2 := Lib.hid (And.intro hb' (hc' j hj2))
    simp only [Option.getD_some, Option.isSome_some, prCells]
    clear hc hc' hb hb' hin HBAD HGOOD
    generalize ks[j] = kj at HC1 ⊢
    generalize vs[j] = vj at HC2 ⊢
    have hjn1 : (j : Int) < (ks.length : Int) := by omega
    have hjn2 : (j : Int) < (vs.length : Int) := by omega
    have hl2 : ks.length ≤ 9223372036854775807 := by omega
    have hl3 : vs.length ≤ 9223372036854775807 := by omega
    have h0b : decide ((j : Int) < 0) = false := decide_eq_false (by omega)
    have h1b : decide ((ks.length : Int) ≤ (j : Int)) = false := decide_eq_false (by omega)
    go_enter Try.func76, Try.ntmps76
    go_upto_region 1 with fail
    generalize w.alloc _ = W at hS ⊢
    go_wp2_with fail
    refine (HLn.out _ (HM.out.up hS.out.below)).mono ?_
    rintro e wn ⟨rfl, hbn⟩
    replace hS := Lib.hid (hS.out.call hbn)
    clear hbn
    go_upto_region 3 with fail
    generalize wn = W3 at hS ⊢
    have hd := Below.drew (Below.refl W3.heap.size W3)
    replace hS := Lib.hid (hS.out.call hd)
    clear hd
    refine wp_region_held_drew (S := fun w' => Below w.heap.size w w') (by kernel_rfl) hS.out.below (fun hcur => ?_)
    (try dsimp only at hcur)
    generalize W3.drew = X at hS hcur ⊢
    refine wpAnyH_take (i := 0) (v := ?_) rfl (by decide +kernel) (by decide +kernel) (by decide +kernel) (fun _ _ _ h => h) (Or.inl ⟨by rfl, ?hy⟩) hcur ?_
    case hy =>
      intro w1 hSw
      (try dsimp only at hSw)
      obtain ⟨m0, m1, -, -⟩ := pr_facts ((hSw.block g HGL.out).trans HM.out.cell)
      have k0 := (hSw.cell (p := ⟨b, off + j, none⟩) HC1.out.1).trans HC1.out.2
      have k1 := (hSw.cell (p := ⟨b', off' + j, none⟩) HC2.out.1).trans HC2.out.2
      go_simp
      (try with_reducible rfl)
    (try simp only [Act.put, List.getElem_toArray, List.getElem_cons_zero, List.getElem_cons_succ, List.setIfInBounds_toArray, List.set_cons_zero, List.set_cons_succ])
    refine wpAnyH_take (i := 1) (v := ?_) rfl (by decide +kernel) (by decide +kernel) (by decide +kernel) (fun _ _ _ h => h) (Or.inl ⟨by rfl, ?hy⟩) hcur ?_
    case hy =>
      intro w1 hSw
      (try dsimp only at hSw)
      obtain ⟨m0, m1, -, -⟩ := pr_facts ((hSw.block g HGL.out).trans HM.out.cell)
      have k0 := (hSw.cell (p := ⟨b, off + j, none⟩) HC1.out.1).trans HC1.out.2
      have k1 := (hSw.cell (p := ⟨b', off' + j, none⟩) HC2.out.1).trans HC2.out.2
      go_simp
      (try with_reducible rfl)
    (try simp only [Act.put, List.getElem_toArray, List.getElem_cons_zero, List.getElem_cons_succ, List.setIfInBounds_toArray, List.set_cons_zero, List.set_cons_succ])
    refine wpAnyH_take (i := 2) (v := ?_) rfl (by decide +kernel) (by decide +kernel) (by decide +kernel) (fun _ _ _ h => h) (Or.inl ⟨by rfl, ?hy⟩) hcur ?_
    case hy =>
      intro w1 hSw
      (try dsimp only at hSw)
      obtain ⟨m0, m1, -, -⟩ := pr_facts ((hSw.block g HGL.out).trans HM.out.cell)
      have k0 := (hSw.cell (p := ⟨b, off + j, none⟩) HC1.out.1).trans HC1.out.2
      have k1 := (hSw.cell (p := ⟨b', off' + j, none⟩) HC2.out.1).trans HC2.out.2
      go_simp
      (try with_reducible rfl)
    (try simp only [Act.put, List.getElem_toArray, List.getElem_cons_zero, List.getElem_cons_succ, List.setIfInBounds_toArray, List.set_cons_zero, List.set_cons_succ])
    refine wpAnyH_take (i := 3) (v := ?_) rfl (by decide +kernel) (by decide +kernel) (by decide +kernel) (fun _ _ _ h => h) (Or.inl ⟨by rfl, ?hy⟩) hcur ?_
    case hy =>
      intro w1 hSw
      (try dsimp only at hSw)
      obtain ⟨m0, m1, -, -⟩ := pr_facts ((hSw.block g HGL.out).trans HM.out.cell)
      have k0 := (hSw.cell (p := ⟨b, off + j, none⟩) HC1.out.1).trans HC1.out.2
      have k1 := (hSw.cell (p := ⟨b', off' + j, none⟩) HC2.out.1).trans HC2.out.2
      go_simp
      (try with_reducible rfl)
    (try simp only [Act.put, List.getElem_toArray, List.getElem_cons_zero, List.getElem_cons_succ, List.setIfInBounds_toArray, List.set_cons_zero, List.set_cons_succ])
    refine wpAnyH_take (i := 4) (v := ?_) rfl (by decide +kernel) (by decide +kernel) (by decide +kernel) (fun _ _ _ h => h) (Or.inl ⟨by rfl, ?hy⟩) hcur ?_
    case hy =>
      intro w1 hSw
      (try dsimp only at hSw)
      obtain ⟨m0, m1, -, -⟩ := pr_facts ((hSw.block g HGL.out).trans HM.out.cell)
      have k0 := (hSw.cell (p := ⟨b, off + j, none⟩) HC1.out.1).trans HC1.out.2
      have k1 := (hSw.cell (p := ⟨b', off' + j, none⟩) HC2.out.1).trans HC2.out.2
      go_simp
      (try with_reducible rfl)
    (try simp only [Act.put, List.getElem_toArray, List.getElem_cons_zero, List.getElem_cons_succ, List.setIfInBounds_toArray, List.set_cons_zero, List.set_cons_succ])
    refine wpAnyH_take (i := 5) (v := ?_) rfl (by decide +kernel) (by decide +kernel) (by decide +kernel) (fun _ _ _ h => h) (Or.inl ⟨by rfl, ?hy⟩) hcur ?_
    case hy =>
      intro w1 hSw
      (try dsimp only at hSw)
      obtain ⟨m0, m1, -, -⟩ := pr_facts ((hSw.block g HGL.out).trans HM.out.cell)
      have k0 := (hSw.cell (p := ⟨b, off + j, none⟩) HC1.out.1).trans HC1.out.2
      have k1 := (hSw.cell (p := ⟨b', off' + j, none⟩) HC2.out.1).trans HC2.out.2
      go_simp
      (try with_reducible rfl)
    (try simp only [Act.put, List.getElem_toArray, List.getElem_cons_zero, List.getElem_cons_succ, List.setIfInBounds_toArray, List.set_cons_zero, List.set_cons_succ])
    refine wpAnyH_take (i := 6) (v := ?_) rfl (by decide +kernel) (by decide +kernel) (by decide +kernel) (fun _ _ _ h => h) (Or.inl ⟨by rfl, ?hy⟩) hcur ?_
    case hy =>
      intro w1 hSw
      (try dsimp only at hSw)
      obtain ⟨m0, m1, -, -⟩ := pr_facts ((hSw.block g HGL.out).trans HM.out.cell)
      have k0 := (hSw.cell (p := ⟨b, off + j, none⟩) HC1.out.1).trans HC1.out.2
      have k1 := (hSw.cell (p := ⟨b', off' + j, none⟩) HC2.out.1).trans HC2.out.2
      go_simp
      (try with_reducible rfl)
    (try simp only [Act.put, List.getElem_toArray, List.getElem_cons_zero, List.getElem_cons_succ, List.setIfInBounds_toArray, List.set_cons_zero, List.set_cons_succ])
    refine wpAnyH_take (i := 7) (v := ?_) rfl (by decide +kernel) (by decide +kernel) (by decide +kernel) (fun _ _ _ h => h) (Or.inl ⟨by rfl, ?hy⟩) hcur ?_
    case hy =>
      intro w1 hSw
      (try dsimp only at hSw)
      obtain ⟨m0, m1, -, -⟩ := pr_facts ((hSw.block g HGL.out).trans HM.out.cell)
      have k0 := (hSw.cell (p := ⟨b, off + j, none⟩) HC1.out.1).trans HC1.out.2
      have k1 := (hSw.cell (p := ⟨b', off' + j, none⟩) HC2.out.1).trans HC2.out.2
      go_simp
      (try with_reducible rfl)
    (try simp only [Act.put, List.getElem_toArray, List.getElem_cons_zero, List.getElem_cons_succ, List.setIfInBounds_toArray, List.set_cons_zero, List.set_cons_succ])
    refine wpAnyH_take (i := 8) (v := ?_) rfl (by decide +kernel) (by decide +kernel) (by decide +kernel) (fun _ _ _ h => h) (Or.inl ⟨by rfl, ?hy⟩) hcur ?_
    case hy =>
      intro w1 hSw
      (try dsimp only at hSw)
      obtain ⟨m0, m1, -, -⟩ := pr_facts ((hSw.block g HGL.out).trans HM.out.cell)
      have k0 := (hSw.cell (p := ⟨b, off + j, none⟩) HC1.out.1).trans HC1.out.2
      have k1 := (hSw.cell (p := ⟨b', off' + j, none⟩) HC2.out.1).trans HC2.out.2
      go_simp
      (try with_reducible rfl)
    (try simp only [Act.put, List.getElem_toArray, List.getElem_cons_zero, List.getElem_cons_succ, List.setIfInBounds_toArray, List.set_cons_zero, List.set_cons_succ])
    refine wpAnyH_take (i := 9) (v := ?_) rfl (by decide +kernel) (by decide +kernel) (by decide +kernel) (fun _ _ _ h => h) (Or.inl ⟨by rfl, ?hy⟩) hcur ?_
    case hy =>
      intro w1 hSw
      (try dsimp only at hSw)
      obtain ⟨m0, m1, -, -⟩ := pr_facts ((hSw.block g HGL.out).trans HM.out.cell)
      have k0 := (hSw.cell (p := ⟨b, off + j, none⟩) HC1.out.1).trans HC1.out.2
      have k1 := (hSw.cell (p := ⟨b', off' + j, none⟩) HC2.out.1).trans HC2.out.2
      go_simp
      (try with_reducible rfl)
    (try simp only [Act.put, List.getElem_toArray, List.getElem_cons_zero, List.getElem_cons_succ, List.setIfInBounds_toArray, List.set_cons_zero, List.set_cons_succ])
    refine wpAnyH_take (i := 10) (v := ?_) rfl (by decide +kernel) (by decide +kernel) (by decide +kernel) (fun _ _ _ h => h) (Or.inl ⟨by rfl, ?hy⟩) hcur ?_
    case hy =>
      intro w1 hSw
      (try dsimp only at hSw)
      obtain ⟨m0, m1, -, -⟩ := pr_facts ((hSw.block g HGL.out).trans HM.out.cell)
      have k0 := (hSw.cell (p := ⟨b, off + j, none⟩) HC1.out.1).trans HC1.out.2
      have k1 := (hSw.cell (p := ⟨b', off' + j, none⟩) HC2.out.1).trans HC2.out.2
      go_simp
      (try with_reducible rfl)
    (try simp only [Act.put, List.getElem_toArray, List.getElem_cons_zero, List.getElem_cons_succ, List.setIfInBounds_toArray, List.set_cons_zero, List.set_cons_succ])
    refine wpAnyH_take (i := 11) (v := ?_) rfl (by decide +kernel) (by decide +kernel) (by decide +kernel) (fun _ _ _ h => h) (Or.inl ⟨by rfl, ?hy⟩) hcur ?_
    case hy =>
      intro w1 hSw
      (try dsimp only at hSw)
      obtain ⟨m0, m1, -, -⟩ := pr_facts ((hSw.block g HGL.out).trans HM.out.cell)
      have k0 := (hSw.cell (p := ⟨b, off + j, none⟩) HC1.out.1).trans HC1.out.2
      have k1 := (hSw.cell (p := ⟨b', off' + j, none⟩) HC2.out.1).trans HC2.out.2
      go_simp
      (try with_reducible rfl)
    (try simp only [Act.put, List.getElem_toArray, List.getElem_cons_zero, List.getElem_cons_succ, List.setIfInBounds_toArray, List.set_cons_zero, List.set_cons_succ])
    refine wpAnyH_take (i := 12) (v := ?_) rfl (by decide +kernel) (by decide +kernel) (by decide +kernel) (fun _ _ _ h => h) (Or.inl ⟨by rfl, ?hy⟩) hcur ?_
    case hy =>
      intro w1 hSw
      (try dsimp only at hSw)
      obtain ⟨m0, m1, -, -⟩ := pr_facts ((hSw.block g HGL.out).trans HM.out.cell)
      have k0 := (hSw.cell (p := ⟨b, off + j, none⟩) HC1.out.1).trans HC1.out.2
      have k1 := (hSw.cell (p := ⟨b', off' + j, none⟩) HC2.out.1).trans HC2.out.2
      go_simp
      (try with_reducible rfl)
    (try simp only [Act.put, List.getElem_toArray, List.getElem_cons_zero, List.getElem_cons_succ, List.setIfInBounds_toArray, List.set_cons_zero, List.set_cons_succ])
    refine wpAnyH_take (i := 13) (v := ?_) rfl (by decide +kernel) (by decide +kernel) (by decide +kernel) (fun _ _ _ h => h) (Or.inl ⟨by rfl, ?hy⟩) hcur ?_
    case hy =>
      intro w1 hSw
      (try dsimp only at hSw)
      obtain ⟨m0, m1, -, -⟩ := pr_facts ((hSw.block g HGL.out).trans HM.out.cell)
      have k0 := (hSw.cell (p := ⟨b, off + j, none⟩) HC1.out.1).trans HC1.out.2
      have k1 := (hSw.cell (p := ⟨b', off' + j, none⟩) HC2.out.1).trans HC2.out.2
      go_simp
      (try with_reducible rfl)
    (try simp only [Act.put, List.getElem_toArray, List.getElem_cons_zero, List.getElem_cons_succ, List.setIfInBounds_toArray, List.set_cons_zero, List.set_cons_succ])
    refine wpAnyH_take (i := 14) (v := ?_) rfl (by decide +kernel) (by decide +kernel) (by decide +kernel) (fun _ _ _ h => h) (Or.inl ⟨by rfl, ?hy⟩) hcur ?_
    case hy =>
      intro w1 hSw
      (try dsimp only at hSw)
      obtain ⟨m0, m1, -, -⟩ := pr_facts ((hSw.block g HGL.out).trans HM.out.cell)
      have k0 := (hSw.cell (p := ⟨b, off + j, none⟩) HC1.out.1).trans HC1.out.2
      have k1 := (hSw.cell (p := ⟨b', off' + j, none⟩) HC2.out.1).trans HC2.out.2
      go_simp
      (try with_reducible rfl)
    (try simp only [Act.put, List.getElem_toArray, List.getElem_cons_zero, List.getElem_cons_succ, List.setIfInBounds_toArray, List.set_cons_zero, List.set_cons_succ])
    refine wpAnyH_ready (rs := [15]) (by decide +kernel) (by simp) ?_
    refine AllReadyH.cons rfl (fun K hK => ?_) AllReadyH.nil
    obtain ⟨y0, y1, q0, q1⟩ := pr_facts (hS.out.has 0 _ _ rfl).1
    go_simp
    have hZ := (hS.out.setc 0 rfl 0 (.string kj)).setc 0 rfl 1 (.int .u64 vj)
    simp only [List.set_cons_zero, List.set_cons_succ] at hZ
    clear y0 y1 q0 q1
    replace hS := Lib.hid hZ
    clear hZ
    refine hK.out _ _ (hS.out.below) (fun hcur2 => ?_)
    clear hK K
    replace hcur := hcur2
    (try dsimp only at hcur)
    clear hcur2
    (try simp only [Act.put, List.getElem_toArray, List.getElem_cons_zero, List.getElem_cons_succ, List.setIfInBounds_toArray, List.set_cons_zero, List.set_cons_succ])
    refine wpAnyH_take (i := 16) (v := ?_) rfl (by decide +kernel) (by decide +kernel) (by decide +kernel) (fun _ _ _ h => h) (Or.inl ⟨by rfl, ?hy⟩) hcur ?_
    case hy =>
      intro w1 hSw
      (try dsimp only at hSw)
      obtain ⟨m0, m1, -, -⟩ := pr_facts ((hSw.block g HGL.out).trans HM.out.cell)
      have k0 := (hSw.cell (p := ⟨b, off + j, none⟩) HC1.out.1).trans HC1.out.2
      have k1 := (hSw.cell (p := ⟨b', off' + j, none⟩) HC2.out.1).trans HC2.out.2
      go_simp
      (try with_reducible rfl)
    (try simp only [Act.put, List.getElem_toArray, List.getElem_cons_zero, List.getElem_cons_succ, List.setIfInBounds_toArray, List.set_cons_zero, List.set_cons_succ])
    refine wpAnyH_done (by decide +kernel) ?_ _
    generalize World.setCell _ _ _ = X2 at hS ⊢
    obtain ⟨y0, y1, q0, q1⟩ := pr_facts (hS.out.has 0 _ _ rfl).1
    go_wp2_with fail
    exact bodyPost_ret (v := .tuple #[.agg #[.string kj, .int .u64 vj], .bool true]) (by simp [results, Try.results76, go_sem, *]) rfl ⟨rfl, hS.out.below⟩

end Go.Proofs.Ytggjlnjpokdfpaa
