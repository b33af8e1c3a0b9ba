/- Contracts of package leafs: With. -/
import Derived.Test.YtcoiadncennhpaaLeafs
namespace Go.Proofs.Ytcoiadncennhpaa
open Go.RowKit

/-- A node, and whether there is one, are handed back. -/
def NodeRet (o : Bool × Nd) (w : World) (e : Ending) (w' : World) : Prop :=
  ∃ A B C ca cb cc, e = .returned (.tuple #[.agg (ndCells o.2 A B C ca cb cc), .bool o.1]) ∧ Lies w' o.2 A B C ca cb cc ∧ Below w.heap.size w w' ∧ (∀ a, A = some a → w.heap.size ≤ a.block) ∧ (∀ a, B = some a → w.heap.size ≤ a.block)
theorem zero_lies (w : World) : Lies w zeroN none none none 0 0 0 :=
  ⟨Rd.nil _ _ _ _, Rd.nil _ _ _ _, Rd.nil _ _ _ _, Nat.le_refl _, Nat.le_refl _, Nat.le_refl _, by decide, by decide, by decide, Nat.zero_le _, Nat.zero_le _, fun j hj => absurd hj (Nat.not_lt_zero _)⟩
/-- A node in a variable, and a result that is zero yet. -/
structure NdRes (w W : World) (d : Nd) (A B C : Option Addr) (ca cb cc : Nat) : Prop where
  box : W.heap[w.heap.size]? = some (.cells (ndCells d A B C ca cb cc) 26 (0, 0))
  res : W.heap[w.heap.size + 1]? = some (.cells #[.int .i64 0, .string ⟨#[]⟩, .string ⟨#[]⟩, .bool false, .int .i64 0, .slice none 0 0, .slice none 0 0, .slice none 0 0] 26 (0, 0))
  lies : Lies W d A B C ca cb cc
  bel : Below w.heap.size w W
theorem NdRes.sz {w W : World} {d : Nd} {A B C : Option Addr} {ca cb cc : Nat} (h : NdRes w W d A B C ca cb cc) : w.heap.size + 1 < W.heap.size := (Array.getElem?_eq_some_iff.1 h.res).1
theorem NdRes.up {w W W' : World} {d : Nd} {A B C : Option Addr} {ca cb cc : Nat} (h : NdRes w W d A B C ca cb cc) (hb : Below W.heap.size W W') : NdRes w W' d A B C ca cb cc :=
  ⟨(hb.block _ (by have := h.sz; omega)).trans h.box, (hb.block _ h.sz).trans h.res, h.lies.up hb, below_of h.bel hb⟩
theorem NdRes.off {w W W' : World} {d : Nd} {A B C : Option Addr} {ca cb cc : Nat} {g : Nat} (h : NdRes w W d A B C ca cb cc) (h0 : Lies w d A B C ca cb cc) (hO : Off (fun k => k = g) W W') (hg : w.heap.size + 1 < g) : NdRes w W' d A B C ca cb cc := by
  have hb := hO.below h.bel h.bel.size (fun j hj e => by omega)
  have hs := h.sz
  exact ⟨(hO.block _ (by omega) (by omega)).trans h.box, (hO.block _ hs (by omega)).trans h.res, h0.up hb, hb⟩
theorem NdRes.start (w : World) (d : Nd) (A B C : Option Addr) (ca cb cc : Nat) (h : Lies w d A B C ca cb cc) : NdRes w ((w.alloc (.cells (ndCells d A B C ca cb cc) 26)).alloc (.cells #[.int .i64 0, .string ⟨#[]⟩, .string ⟨#[]⟩, .bool false, .int .i64 0, .slice none 0 0, .slice none 0 0, .slice none 0 0] 26)) d A B C ca cb cc := by
  have e : (w.alloc (.cells (ndCells d A B C ca cb cc) 26)).heap.size = w.heap.size + 1 := by simp
  have hb := below_of (below_alloc w (.cells (ndCells d A B C ca cb cc) 26)) (below_alloc _ (.cells #[.int .i64 0, .string ⟨#[]⟩, .string ⟨#[]⟩, .bool false, .int .i64 0, .slice none 0 0, .slice none 0 0, .slice none 0 0] 26))
  refine ⟨((below_alloc _ _).block _ (by rw [e]; omega)).trans (heap_alloc_new w _), ?_, h.up hb, hb⟩
  rw [← e]
  exact heap_alloc_new _ _
theorem set8_below {w W : World} (h : Below w.heap.size w W) (g : Nat) (hg : w.heap.size ≤ g) (a b c d e f x y : Value) : Below w.heap.size w (set8 W g a b c d e f x y) :=
  (set8_off W g a b c d e f x y).below h h.size (fun j hj e => by omega)
theorem lies_off {W W' : World} {d : Nd} {A B C : Option Addr} {ca cb cc : Nat} (h : Lies W d A B C ca cb cc) {g : Nat} (ho : Off (fun k => k = g) W W') (hA : ∀ a, A = some a → a.block ≠ g) (hB : ∀ a, B = some a → a.block ≠ g) (hC : d.kids.length = 0 ∨ ∀ a, C = some a → a.block ≠ g) : Lies W' d A B C ca cb cc := by
  have key : ∀ {A : Option Addr} {n : Nat} {xs : List Value}, Rd W W.heap.size 1 A n xs → (∀ a, A = some a → a.block ≠ g) → Rd W' W'.heap.size 1 A n xs := by
    intro A n xs hr hA
    refine ⟨hr.1, fun h0 => ?_⟩
    obtain ⟨b, off, rfl, hb, hc⟩ := hr.2 h0
    exact ⟨b, off, rfl, Nat.lt_of_lt_of_le hb ho.size, fun j u hu => (ho.cell (p := ⟨b, off + j, none⟩) hb (show b ≠ g from hA ⟨b, off, none⟩ rfl)).trans (hc j u hu)⟩
  refine { h with keys := key h.keys hA, vals := key h.vals hB, kids := ?_ }
  rcases hC with hC | hC
  · have hk := h.kids
    rw [hC] at hk ⊢
    exact ⟨hk.1, fun h0 => absurd h0 (Nat.lt_irrefl 0)⟩
  · exact key h.kids hC

theorem mayB_leaf {d : Nd} {k : ByteArray} {fan : Int} (h : leafB d = false) : mayB d k fan = false := by unfold mayB; rw [h]; rfl
theorem mayB_fan {d : Nd} {k : ByteArray} {fan : Int} (h : fan < 4 ∨ 64 < fan) : mayB d k fan = false := by unfold mayB; rw [decide_eq_false (p := 4 ≤ fan ∧ fan ≤ 64) (by omega)]; simp
theorem mayB_key {d : Nd} {k : ByteArray} {fan : Int} (h : goodB k = false) : mayB d k fan = false := by unfold mayB; rw [h]; simp
theorem mayB_ins {d : Nd} {k : ByteArray} {fan : Int} (h : insB d k = false) : mayB d k fan = false := by unfold mayB; rw [h]; simp
theorem mayB_yes {d : Nd} {k : ByteArray} {fan : Int} (h1 : leafB d = true) (h2 : ¬ (fan < 4 ∨ 64 < fan)) (h3 : goodB k = true) (h4 : insB d k = true) : mayB d k fan = true := by unfold mayB; rw [h1, h3, h4, decide_eq_true (p := 4 ≤ fan ∧ fan ≤ 64) (by omega)]; rfl
theorem withD_no {d : Nd} {k : ByteArray} {v fan : Int} (h : mayB d k fan = false) : withD d k v fan = (false, zeroN) := if_neg (by rw [h]; exact Bool.false_ne_true)
theorem withD_yes {d : Nd} {k : ByteArray} {v fan : Int} (h : mayB d k fan = true) : withD d k v fan = if ((putD d k v).keys.length : Int) ≤ fan then (true, putD d k v) else (false, zeroN) := if_pos h
theorem chk_good {k : ByteArray} (h : goodB k = true) : chk k = 0 := by
  unfold goodB at h
  rw [Bool.and_eq_true, decide_eq_true_iff, decide_eq_true_iff] at h
  exact if_neg (by omega)
theorem chk_bad {k : ByteArray} (h : goodB k = false) : chk k = 2 := by
  unfold goodB at h
  rw [Bool.and_eq_false_iff, decide_eq_false_iff_not, decide_eq_false_iff_not] at h
  exact if_pos (by omega)
theorem ndChk_two {d : Nd} {fan : Int} (h : fan < 4 ∨ 64 < fan) : ndChk d fan = 2 := if_pos h
theorem ndChk_not {d : Nd} {fan : Int} (h : ¬ (fan < 4 ∨ 64 < fan)) : ndChk d fan = 0 ∨ ndChk d fan = 10 := by
  rw [show ndChk d fan = if soundB d fan = true then 0 else 10 from if_neg h]
  split
  · exact .inl rfl
  · exact .inr rfl

set_option maxRecDepth 100000 in
set_option maxHeartbeats 16000000 in
theorem leafwith_any (d : Nd) (k : ByteArray) (v fan : Int) (A B C : Option Addr) (ca cb cc : Nat) (w : World) (h : Lies w d A B C ca cb cc) (hk : k.size ≤ maxLen) :
    Calls Try.prog 29 #[.agg (ndCells d A B C ca cb cc), .string k, .int .u64 v, .int .i64 fan] w (NodeRet (withD d k v fan) w) := by
  have HT := Lib.hid (NdRes.start w d A B C ca cb cc h)
  have H00 := Lib.hid h
  have HLf := Lib.hid (fun W hW => leaf_any d A B C ca cb cc W hW)
  have HCk := Lib.hid (fun W hW => ndcheck_any d fan A B C ca cb cc W hW)
  have HKc := Lib.hid (fun W => check_any k W hk)
  have HCo := Lib.hid (fun W hW => covers_any d A B C ca cb cc k W hW hk)
  have HF := Lib.hid (fun W (hW : Lies W d A B C ca cb cc) => find_any A d.keys.length ca d.keys k W hW.keys hW.fit hk hW.la)
  rw [show Pl.findAt d.keys k.data.toList = atD d k from rfl, show Pl.findIs d.keys k.data.toList = hasD d k from rfl] at HF
  have HLB := Lib.hid (leafB_iff d)
  have hal := at_le d k
  have HK := Lib.hid hk
  clear h hk
  by_cases h1 : leafB d = true
  · rw [h1] at HLf HLB
    have hlf := HLB.out.1 rfl
    by_cases h2 : fan < 4 ∨ 64 < fan
    · rw [withD_no (mayB_fan h2)]
      have HC0 := Lib.hid (fun W hW => Ret.to (HCk.out W hW) (congrArg (Value.int .i64) (ndChk_two h2)))
      clear h1 h2 hlf hal
      obtain ⟨level, low, high, last, next, keys, vals, kids⟩ := d
      simp only [ndCells] at HT HLf HCk HCo ⊢
      go_enter Try.func29, Try.ntmps29
      go_upto_region 1 with fail
      generalize (w.alloc _).alloc _ = W at HT ⊢
      have hbx := HT.out.box
      simp only [ndCells] at hbx
      obtain ⟨x0, x1, x2, x3, x4, x5, x6, x7, -, -, -, -, -, -, -, -⟩ := nd_facts hbx
      clear hbx
      go_wp2_with fail
      refine (HLf.out _ HT.out.lies).mono ?_
      rintro e W ⟨rfl, hbn⟩
      clear x0 x1 x2 x3 x4 x5 x6 x7
      replace HT := Lib.hid (HT.out.up hbn)
      clear hbn
      have hbx := HT.out.box
      simp only [ndCells] at hbx
      obtain ⟨x0, x1, x2, x3, x4, x5, x6, x7, -, -, -, -, -, -, -, -⟩ := nd_facts hbx
      clear hbx
      go_wp2_with fail
      refine (HC0.out _ HT.out.lies).mono ?_
      rintro e W ⟨rfl, hbn⟩
      clear x0 x1 x2 x3 x4 x5 x6 x7
      replace HT := Lib.hid (HT.out.up hbn)
      clear hbn
      have hrs := HT.out.res
      obtain ⟨y0, y1, y2, y3, y4, y5, y6, y7, q0, q1, q2, q3, q4, q5, q6, q7⟩ := nd_facts hrs
      clear hrs
      have hz := set8_below HT.out.bel (w.heap.size + 1) (Nat.le_succ _) (.int .i64 0) (.string ⟨#[]⟩) (.string ⟨#[]⟩) (.bool false) (.int .i64 0) (.slice none 0 0) (.slice none 0 0) (.slice none 0 0)
      simp only [set8] at hz
      have HZ := Lib.hid hz
      clear hz
      go_wp2_with fail
      exact bodyPost_ret (v := .tuple #[.agg #[.int .i64 0, .string ⟨#[]⟩, .string ⟨#[]⟩, .bool false, .int .i64 0, .slice none 0 0, .slice none 0 0, .slice none 0 0], .bool false]) (by simp [results, Try.results29, go_sem, *]) rfl ⟨none, none, none, 0, 0, 0, rfl, zero_lies _, HZ.out, fun a e => (by cases e), fun a e => (by cases e)⟩
    · have hc := ndChk_not (d := d) h2
      have hcv : (ndChk d fan == (2 : Int)) = false := by rcases hc with e | e <;> rw [e] <;> rfl
      generalize ndChk d fan = cv at hcv HCk
      clear hc
      by_cases h3 : goodB k = true
      · have HK0 := Lib.hid (fun W => Ret.to (HKc.out W) (congrArg (Value.int .i64) (chk_good h3)))
        by_cases h4 : insB d k = true
        · rw [h4] at HCo
          have hmay := mayB_yes h1 h2 h3 h4
          have hwy := withD_yes (v := v) hmay
          generalize withD d k v fan = o at hwy ⊢
          have hput : putD d k v = if hasD d k = true then setD d k v else addD d k v := rfl
          have hset : setD d k v = ⟨d.level, d.low, d.high, d.last, d.next, d.keys, d.vals.set (atD d k) v, d.kids⟩ := rfl
          have hadd : addD d k v = ⟨d.level, d.low, d.high, d.last, d.next, ins d.keys (atD d k) k, ins d.vals (atD d k) v, d.kids⟩ := rfl
          rw [hset, hadd] at hput
          have hlt := fun hh : hasD d k = true => (at_lt hh).1
          have HCl := Lib.hid (fun W (hW : Lies W d A B C ca cb cc) (q : d.keys.length ≤ 64 ∧ d.vals.length ≤ 64 ∧ d.kids.length ≤ 64) => cloneN_any d A B C ca cb cc W hW (by omega) (by omega) (by omega))
          have hl64 : d.keys.length ≤ 64 ∧ d.vals.length ≤ 64 ∧ d.kids.length ≤ 64 := by omega
          have hvk : d.vals.length = d.keys.length := hlf.2.2.2.2.2.1
          generalize putD d k v = pd at hput hwy
          have HO := Lib.hid hwy
          clear hwy
          generalize hasD d k = hs at HF hput hlt
          generalize atD d k = i at HF hput hal hlt
          have HP := Lib.hid hput
          clear h1 h2 h3 h4 hmay hput hset hadd hlf HLB
          obtain ⟨level, low, high, last, next, keys, vals, kids⟩ := d
          simp only [] at hal hlt HP hl64 hvk
          have HI := Lib.hid (And.intro hal (And.intro hlt (And.intro hl64 hvk)))
          clear hal hlt hl64 hvk
          simp only [ndCells] at HT HLf HCk HCo ⊢
          go_enter Try.func29, Try.ntmps29
          go_upto_region 1 with fail
          generalize (w.alloc _).alloc _ = W at HT ⊢
          have hbx := HT.out.box
          simp only [ndCells] at hbx
          obtain ⟨x0, x1, x2, x3, x4, x5, x6, x7, -, -, -, -, -, -, -, -⟩ := nd_facts hbx
          clear hbx
          go_wp2_with fail
          refine (HLf.out _ HT.out.lies).mono ?_
          rintro e W ⟨rfl, hbn⟩
          clear x0 x1 x2 x3 x4 x5 x6 x7
          replace HT := Lib.hid (HT.out.up hbn)
          clear hbn
          have hbx := HT.out.box
          simp only [ndCells] at hbx
          obtain ⟨x0, x1, x2, x3, x4, x5, x6, x7, -, -, -, -, -, -, -, -⟩ := nd_facts hbx
          clear hbx
          go_wp2_with fail
          refine (HCk.out _ HT.out.lies).mono ?_
          rintro e W ⟨rfl, hbn⟩
          clear x0 x1 x2 x3 x4 x5 x6 x7
          replace HT := Lib.hid (HT.out.up hbn)
          clear hbn
          have hbx := HT.out.box
          simp only [ndCells] at hbx
          obtain ⟨x0, x1, x2, x3, x4, x5, x6, x7, -, -, -, -, -, -, -, -⟩ := nd_facts hbx
          clear hbx
          go_wp2_with fail
          refine (HK0.out _).mono ?_
          rintro e W ⟨rfl, hbn⟩
          clear x0 x1 x2 x3 x4 x5 x6 x7
          replace HT := Lib.hid (HT.out.up hbn)
          clear hbn
          have hbx := HT.out.box
          simp only [ndCells] at hbx
          obtain ⟨x0, x1, x2, x3, x4, x5, x6, x7, -, -, -, -, -, -, -, -⟩ := nd_facts hbx
          clear hbx
          go_wp2_with fail
          refine (HCo.out _ HT.out.lies).mono ?_
          rintro e W ⟨rfl, hbn⟩
          clear x0 x1 x2 x3 x4 x5 x6 x7
          replace HT := Lib.hid (HT.out.up hbn)
          clear hbn
          have hbx := HT.out.box
          simp only [ndCells] at hbx
          obtain ⟨x0, x1, x2, x3, x4, x5, x6, x7, -, -, -, -, -, -, -, -⟩ := nd_facts hbx
          clear hbx
          go_wp2_with fail
          refine (HF.out _ HT.out.lies).mono ?_
          rintro e W ⟨rfl, hbn⟩
          clear x0 x1 x2 x3 x4 x5 x6 x7
          replace HT := Lib.hid (HT.out.up hbn)
          clear hbn
          have hbx := HT.out.box
          simp only [ndCells] at hbx
          obtain ⟨x0, x1, x2, x3, x4, x5, x6, x7, -, -, -, -, -, -, -, -⟩ := nd_facts hbx
          clear hbx
          go_wp2_with fail
          refine (HCl.out _ HT.out.lies HI.out.2.2.1).mono ?_
          rintro e X ⟨c1, c2, c3, rfl, r1, r2, r3, n12, n13, n23, m1, m2, m3, hbn⟩
          clear x0 x1 x2 x3 x4 x5 x6 x7
          have hT2 := HT.out.up hbn
          have hmin := HT.out.sz
          have r1' := (below_alloc X (.cells (ndCells ⟨level, low, high, last, next, keys, vals, kids⟩ (some ⟨c1, 0, none⟩) (some ⟨c2, 0, none⟩) (some ⟨c3, 0, none⟩) keys.length vals.length kids.length) 26)).block c1 (Array.getElem?_eq_some_iff.1 r1).1
          have r2' := (below_alloc X (.cells (ndCells ⟨level, low, high, last, next, keys, vals, kids⟩ (some ⟨c1, 0, none⟩) (some ⟨c2, 0, none⟩) (some ⟨c3, 0, none⟩) keys.length vals.length kids.length) 26)).block c2 (Array.getElem?_eq_some_iff.1 r2).1
          have r3' := (below_alloc X (.cells (ndCells ⟨level, low, high, last, next, keys, vals, kids⟩ (some ⟨c1, 0, none⟩) (some ⟨c2, 0, none⟩) (some ⟨c3, 0, none⟩) keys.length vals.length kids.length) 26)).block c3 (Array.getElem?_eq_some_iff.1 r3).1
          have l1 := (Array.getElem?_eq_some_iff.1 r1).1
          have l2 := (Array.getElem?_eq_some_iff.1 r2).1
          have l3 := (Array.getElem?_eq_some_iff.1 r3).1
          have hs2 := hT2.sz
          have HD := Lib.hid (And.intro (hT2.up (below_alloc X (.cells (ndCells ⟨level, low, high, last, next, keys, vals, kids⟩ (some ⟨c1, 0, none⟩) (some ⟨c2, 0, none⟩) (some ⟨c3, 0, none⟩) keys.length vals.length kids.length) 26))) (And.intro (heap_alloc_new X (.cells (ndCells ⟨level, low, high, last, next, keys, vals, kids⟩ (some ⟨c1, 0, none⟩) (some ⟨c2, 0, none⟩) (some ⟨c3, 0, none⟩) keys.length vals.length kids.length) 26)) (And.intro (r1'.trans r1) (And.intro (r2'.trans r2) (And.intro (r3'.trans r3)
            (show w.heap.size + 1 < X.heap.size ∧ w.heap.size + 1 < c1 ∧ w.heap.size + 1 < c2 ∧ w.heap.size + 1 < c3 ∧ c1 < X.heap.size ∧ c2 < X.heap.size ∧ c3 < X.heap.size ∧ c1 ≠ c2 ∧ c1 ≠ c3 ∧ c2 ≠ c3 by omega))))))
          simp only [ndCells] at HD ⊢
          clear r1 r2 r3 r1' r2' r3' l1 l2 l3 n12 n13 n23 m1 m2 m3 hbn hT2 hmin hs2 HT HLf HCk HK0 HCo HF HCl HKc
          go_upto_region 5 with fail
          generalize X.alloc _ = Y at HD ⊢
          generalize X.heap.size = g12 at HD ⊢
          have hz := HD.out.2.1
          obtain ⟨z0, z1, z2, z3, z4, z5, z6, z7, zf0, zf1, zf2, zf3, zf4, zf5, zf6, zf7⟩ := nd_facts hz
          clear hz
          cases hs
          · have hal := HI.out.1
            have hvl := HI.out.2.2.2
            have h64 := HI.out.2.2.1
            have hL := HD.out.1.lies
            have HA1 := Lib.hid (addS_yes A keys.length ca (i : Int) k (strs keys) Y hL.keys (strs_one keys) (by omega) hL.ka (by omega) (by omega))
            obtain ⟨KK, hKK⟩ : ∃ KK, KK = ins keys i k := ⟨_, rfl⟩
            obtain ⟨VV, hVV⟩ : ∃ VV, VV = ins vals i v := ⟨_, rfl⟩
            have hkk : keys.length + 1 = KK.length := by rw [hKK, ins_len _ _ _ hal]
            have hvv : vals.length + 1 = VV.length := by rw [hVV, ins_len _ _ _ (by omega)]
            have hks : ins (strs keys) i (.string k) = strs KK := by rw [hKK]; simp [ins, strs, List.map_take, List.map_drop]
            have hvs : ins (u64s vals) i (.int .u64 v) = u64s VV := by rw [hVV]; simp [ins, u64s, List.map_take, List.map_drop]
            have hpd : pd = ⟨level, low, high, last, next, KK, VV, kids⟩ := by rw [hKK, hVV]; exact HP.out.trans (if_neg Bool.false_ne_true)
            have hfit : Fits KK := by
              intro j hj
              have hm := List.getElem_mem hj
              generalize KK[j] = sj at hm ⊢
              rw [hKK] at hm
              rcases ins_mem hm with rfl | hm2
              · exact HK.out
              · obtain ⟨q, hq, rfl⟩ := List.getElem_of_mem hm2
                exact hL.fit q hq
            have HPD := Lib.hid hpd
            have HW := Lib.hid (And.intro hkk (And.intro hvv (And.intro hks (And.intro hvs (And.intro hfit (And.intro hal (And.intro hvl h64)))))))
            clear hpd hKK hVV hkk hvv hks hvs hfit hL hal hvl h64
            have hbx := HD.out.1.box
            simp only [ndCells] at hbx
            obtain ⟨x0, x1, x2, x3, x4, x5, x6, x7, -, -, -, -, -, -, -, -⟩ := nd_facts hbx
            clear hbx
            go_wp2_with fail
            refine HA1.out.mono ?_
            rintro e Y1 ⟨rfl, hh1, hb1⟩
            rw [HW.out.1]
            rw [Int.toNat_natCast, HW.out.2.2.1] at hh1
            have hd := HD.out.2.2.2.2.2
            have hYs := HD.out.1.sz
            have hgl := (Array.getElem?_eq_some_iff.1 HD.out.2.1).1
            have hb12 := (hb1.block g12 hgl).trans HD.out.2.1
            have hNd := HD.out.1.up hb1
            have hk3 := (hb1.block c3 (Array.getElem?_eq_some_iff.1 HD.out.2.2.2.2.1).1).trans HD.out.2.2.2.2.1
            have H1 := Lib.hid (And.intro hNd (And.intro hb12 (And.intro hh1 (And.intro hk3 (show w.heap.size + 1 < g12 ∧ g12 < Y.heap.size ∧ w.heap.size + 1 < c3 ∧ c3 < g12 ∧ Y.heap.size ≤ Y1.heap.size by have := hb1.size; omega)))))
            clear hh1 hb1 hd hYs hgl hb12 hNd hk3 HD HA1 x0 x1 x2 x3 x4 x5 x6 x7 z0 z1 z2 z3 z4 z5 z6 z7 zf0 zf1 zf2 zf3 zf4 zf5 zf6 zf7
            generalize Y.heap.size = p1 at H1 ⊢
            have hz := H1.out.2.1
            obtain ⟨z0, z1, z2, z3, z4, z5, z6, z7, zf0, zf1, zf2, zf3, zf4, zf5, zf6, zf7⟩ := nd_facts hz
            clear hz
            go_upto_region 8 with fail
            have hO := Off.of_setCell Y1 ⟨g12, 5, none⟩ (.slice (some ⟨p1, 0, none⟩) KK.length KK.length)
            have hd := H1.out.2.2.2.2
            have hp1 := (Array.getElem?_eq_some_iff.1 H1.out.2.2.1).1
            have hN2 := H1.out.1.off H00.out hO (by simp only []; omega)
            have hb2 : (Y1.setCell ⟨g12, 5, none⟩ (.slice (some ⟨p1, 0, none⟩) KK.length KK.length)).heap[g12]? = some (.cells #[.int .i64 level, .string low, .string high, .bool last, .int .i64 next, .slice (some ⟨p1, 0, none⟩) KK.length KK.length, .slice (some ⟨c2, 0, none⟩) vals.length vals.length, .slice (some ⟨c3, 0, none⟩) kids.length kids.length] 26 (0, 0)) := by simp [World.setCell, Array.getElem?_modify, H1.out.2.1]
            have hk1 := (hO.block p1 hp1 (by have := H1.out.2.2.2.2; simp only []; omega)).trans H1.out.2.2.1
            have hk3 := (hO.block c3 (Array.getElem?_eq_some_iff.1 H1.out.2.2.2.1).1 (by simp only []; omega)).trans H1.out.2.2.2.1
            have H2 := Lib.hid (And.intro hN2 (And.intro hb2 (And.intro hk1 (And.intro hk3 (show w.heap.size + 1 < g12 ∧ g12 < p1 ∧ w.heap.size + 1 < c3 ∧ c3 < g12 ∧ p1 < Y1.heap.size by omega)))))
            have hss : (Y1.setCell ⟨g12, 5, none⟩ (.slice (some ⟨p1, 0, none⟩) KK.length KK.length)).heap.size = Y1.heap.size := by simp [World.setCell]
            rw [← hss] at H2
            clear hO hd hp1 hN2 hb2 hk1 hk3 hss H1 z0 z1 z2 z3 z4 z5 z6 z7 zf0 zf1 zf2 zf3 zf4 zf5 zf6 zf7
            generalize Y1.setCell _ _ = Z1 at H2 ⊢
            have hbx := H2.out.1.box
            simp only [ndCells] at hbx
            obtain ⟨x0, x1, x2, x3, x4, x5, x6, x7, -, -, -, -, -, -, -, -⟩ := nd_facts hbx
            clear hbx
            have hL := H2.out.1.lies
            have HA2 := Lib.hid (addU_yes B vals.length cb (i : Int) v (u64s vals) Z1 hL.vals (u64s_one vals) (by have := HW.out.2.2.2.2.2.2.2; omega) hL.kb (by omega) (by have := HW.out.2.2.2.2.2.1; have := HW.out.2.2.2.2.2.2.1; omega))
            clear hL
            go_wp2_with fail
            refine HA2.out.mono ?_
            rintro e Z2 ⟨rfl, hh2, hb2⟩
            rw [HW.out.2.1]
            rw [Int.toNat_natCast, HW.out.2.2.2.1] at hh2
            have hd := H2.out.2.2.2.2
            have hb12 := (hb2.block g12 (Array.getElem?_eq_some_iff.1 H2.out.2.1).1).trans H2.out.2.1
            have hk1 := (hb2.block p1 (Array.getElem?_eq_some_iff.1 H2.out.2.2.1).1).trans H2.out.2.2.1
            have hk3 := (hb2.block c3 (Array.getElem?_eq_some_iff.1 H2.out.2.2.2.1).1).trans H2.out.2.2.2.1
            have hNd := H2.out.1.up hb2
            have H3 := Lib.hid (And.intro hNd (And.intro hb12 (And.intro hk1 (And.intro hk3 (And.intro hh2 (show w.heap.size + 1 < g12 ∧ g12 < p1 ∧ w.heap.size + 1 < c3 ∧ c3 < g12 ∧ p1 < Z1.heap.size by omega))))))
            clear hd hb12 hk1 hk3 hNd hh2 hb2 H2 HA2 x0 x1 x2 x3 x4 x5 x6 x7
            generalize Z1.heap.size = p2 at H3 ⊢
            have hz := H3.out.2.1
            obtain ⟨z0, z1, z2, z3, z4, z5, z6, z7, zf0, zf1, zf2, zf3, zf4, zf5, zf6, zf7⟩ := nd_facts hz
            clear hz
            go_upto_region 9 with fail
            have hO := Off.of_setCell Z2 ⟨g12, 6, none⟩ (.slice (some ⟨p2, 0, none⟩) VV.length VV.length)
            have hd := H3.out.2.2.2.2.2
            have hp1 := (Array.getElem?_eq_some_iff.1 H3.out.2.2.1).1
            have hp2 := (Array.getElem?_eq_some_iff.1 H3.out.2.2.2.2.1).1
            have hp3 := (Array.getElem?_eq_some_iff.1 H3.out.2.2.2.1).1
            have hN2 := H3.out.1.off H00.out hO (by simp only []; omega)
            have hb2 : (Z2.setCell ⟨g12, 6, none⟩ (.slice (some ⟨p2, 0, none⟩) VV.length VV.length)).heap[g12]? = some (.cells #[.int .i64 level, .string low, .string high, .bool last, .int .i64 next, .slice (some ⟨p1, 0, none⟩) KK.length KK.length, .slice (some ⟨p2, 0, none⟩) VV.length VV.length, .slice (some ⟨c3, 0, none⟩) kids.length kids.length] 26 (0, 0)) := by simp [World.setCell, Array.getElem?_modify, H3.out.2.1]
            have hk1 := (hO.block p1 hp1 (by simp only []; omega)).trans H3.out.2.2.1
            have hk2 := (hO.block p2 hp2 (by simp only []; omega)).trans H3.out.2.2.2.2.1
            have hk3 := (hO.block c3 hp3 (by simp only []; omega)).trans H3.out.2.2.2.1
            have hL := hN2.lies
            have hlies : Lies (Z2.setCell ⟨g12, 6, none⟩ (.slice (some ⟨p2, 0, none⟩) VV.length VV.length)) ⟨level, low, high, last, next, KK, VV, kids⟩ (some ⟨p1, 0, none⟩) (some ⟨p2, 0, none⟩) (some ⟨c3, 0, none⟩) KK.length VV.length kids.length :=
              { low := hL.low, high := hL.high, fit := HW.out.2.2.2.2.1, la := by have := HW.out.1; have := HW.out.2.2.2.2.2.2.2; simp only []; omega, lb := by have := HW.out.2.1; have := HW.out.2.2.2.2.2.2.2; simp only []; omega, lc := hL.lc
                keys := by have := Rd.new hk1; rw [strs_length] at this; exact this
                vals := by have := Rd.new hk2; rw [u64s_length] at this; exact this
                kids := by have := Rd.new hk3; rw [i64s_length] at this; exact this
                ka := Nat.le_refl _, kb := Nat.le_refl _, kc := Nat.le_refl _ }
            have HZ := Lib.hid (And.intro hN2.res (And.intro hb2 (And.intro hlies (And.intro hN2.bel (show w.heap.size + 1 < g12 ∧ w.heap.size + 1 < p1 ∧ w.heap.size + 1 < p2 ∧ w.heap.size + 1 < c3 by omega)))))
            clear hO hd hp1 hp2 hp3 hN2 hb2 hk1 hk2 hk3 hL hlies H3 z0 z1 z2 z3 z4 z5 z6 z7 zf0 zf1 zf2 zf3 zf4 zf5 zf6 zf7
            generalize Z2.setCell _ _ = Z at HZ ⊢
            have hz := HZ.out.2.1
            have hr := HZ.out.1
            obtain ⟨z0, z1, z2, z3, z4, z5, z6, z7, -, -, -, -, -, -, -, -⟩ := nd_facts hz
            obtain ⟨y0, y1, y2, y3, y4, y5, y6, y7, q0, q1, q2, q3, q4, q5, q6, q7⟩ := nd_facts hr
            clear hz hr
            by_cases hlen : ((KK.length : Nat) : Int) ≤ fan
            · have hlen2 : ¬ fan < ((KK.length : Nat) : Int) := by omega
              have ho : o = (true, ⟨level, low, high, last, next, KK, VV, kids⟩) := by
                rw [HO.out, HPD.out]
                exact if_pos (by simpa using hlen)
              subst ho
              have h8 := set8_below HZ.out.2.2.2.1 (w.heap.size + 1) (Nat.le_succ _) (.int .i64 level) (.string low) (.string high) (.bool last) (.int .i64 next) (.slice (some ⟨p1, 0, none⟩) KK.length KK.length) (.slice (some ⟨p2, 0, none⟩) VV.length VV.length) (.slice (some ⟨c3, 0, none⟩) kids.length kids.length)
              have hl8 := lies_off HZ.out.2.2.1 (set8_off Z (w.heap.size + 1) (.int .i64 level) (.string low) (.string high) (.bool last) (.int .i64 next) (.slice (some ⟨p1, 0, none⟩) KK.length KK.length) (.slice (some ⟨p2, 0, none⟩) VV.length VV.length) (.slice (some ⟨c3, 0, none⟩) kids.length kids.length)) (fun a e => by injection e with e; subst e; have := HZ.out.2.2.2.2.2.1; simp only []; omega) (fun a e => by injection e with e; subst e; have := HZ.out.2.2.2.2.2.2.1; simp only []; omega) (.inr fun a e => by injection e with e; subst e; have := HZ.out.2.2.2.2.2.2.2; simp only []; omega)
              simp only [set8] at h8 hl8
              have HF := Lib.hid (And.intro h8 hl8)
              clear h8 hl8 hlen
              go_wp2_with fail
              exact bodyPost_ret (v := .tuple #[.agg #[.int .i64 level, .string low, .string high, .bool last, .int .i64 next, .slice (some ⟨p1, 0, none⟩) KK.length KK.length, .slice (some ⟨p2, 0, none⟩) VV.length VV.length, .slice (some ⟨c3, 0, none⟩) kids.length kids.length], .bool true]) (by simp [results, Try.results29, go_sem, *]) rfl ⟨_, _, _, _, _, _, by simp [ndCells], HF.out.2, HF.out.1, fun a e => (by injection e with e; subst e; have := HZ.out.2.2.2.2.2.1; simp only []; omega), fun a e => (by injection e with e; subst e; have := HZ.out.2.2.2.2.2.2.1; simp only []; omega)⟩
            · have hlen2 : fan < ((KK.length : Nat) : Int) := by omega
              have ho : o = (false, zeroN) := by
                rw [HO.out, HPD.out]
                exact if_neg (by simpa using hlen)
              subst ho
              have h8 := set8_below HZ.out.2.2.2.1 (w.heap.size + 1) (Nat.le_succ _) (.int .i64 0) (.string ⟨#[]⟩) (.string ⟨#[]⟩) (.bool false) (.int .i64 0) (.slice none 0 0) (.slice none 0 0) (.slice none 0 0)
              simp only [set8] at h8
              have HF := Lib.hid h8
              clear h8 hlen
              go_wp2_with fail
              exact bodyPost_ret (v := .tuple #[.agg #[.int .i64 0, .string ⟨#[]⟩, .string ⟨#[]⟩, .bool false, .int .i64 0, .slice none 0 0, .slice none 0 0, .slice none 0 0], .bool false]) (by simp [results, Try.results29, go_sem, *]) rfl ⟨none, none, none, 0, 0, 0, rfl, zero_lies _, HF.out, fun a e => (by cases e), fun a e => (by cases e)⟩
          · have hik : i < keys.length := HI.out.2.1 rfl
            have hvl := HI.out.2.2.2
            have hiv : i < vals.length := by omega
            have hiv2 : (i : Int) < (vals.length : Int) := by omega
            have HI2 := Lib.hid (And.intro hik hiv)
            have cj : Y.cell? ⟨c2, i, none⟩ = some (.int .u64 vals[i]) := (cell_of_row Y c2 i _ _ _ HD.out.2.2.2.1).trans (by simp [u64s, hiv])
            have fj : Y.frozen? ⟨c2, i, none⟩ = false := heap_frozen HD.out.2.2.2.1 i
            have hpd : pd = ⟨level, low, high, last, next, keys, vals.set i v, kids⟩ := HP.out.trans (if_pos rfl)
            have HPD := Lib.hid hpd
            generalize vals[i] = u0 at cj
            clear hpd hik hvl hiv
            go_upto_region 9 with fail
            have hrow := row_set (j := i) (v := .int .u64 v) HD.out.2.2.2.1
            rw [show (u64s vals).set i (.int .u64 v) = u64s (vals.set i v) from by simp [u64s, List.map_set]] at hrow
            have hO := Off.of_setCell Y ⟨c2, i, none⟩ (.int .u64 v)
            have hd := HD.out.2.2.2.2.2
            have hres := (hO.block (w.heap.size + 1) HD.out.1.sz (by simp only []; omega)).trans HD.out.1.res
            have hbox := (hO.block g12 (Array.getElem?_eq_some_iff.1 HD.out.2.1).1 (by simp only []; omega)).trans HD.out.2.1
            have hk1 := (hO.block c1 (Array.getElem?_eq_some_iff.1 HD.out.2.2.1).1 (by simp only []; omega)).trans HD.out.2.2.1
            have hk3 := (hO.block c3 (Array.getElem?_eq_some_iff.1 HD.out.2.2.2.2.1).1 (by simp only []; omega)).trans HD.out.2.2.2.2.1
            have hbel : Below w.heap.size w _ := hO.below HD.out.1.bel HD.out.1.bel.size (fun j hj e => by simp only [] at e; omega)
            have hL := HD.out.1.lies
            have hvs : (vals.set i v).length = vals.length := List.length_set
            have hlies : Lies (Y.setCell ⟨c2, i, none⟩ (.int .u64 v)) ⟨level, low, high, last, next, keys, vals.set i v, kids⟩ (some ⟨c1, 0, none⟩) (some ⟨c2, 0, none⟩) (some ⟨c3, 0, none⟩) keys.length vals.length kids.length :=
              { low := hL.low, high := hL.high, fit := hL.fit, la := hL.la, lb := by have := hL.lb; simp only [] at this ⊢; omega, lc := hL.lc
                keys := by have := Rd.new hk1; rw [strs_length] at this; exact this
                vals := by have := Rd.new hrow; rw [u64s_length] at this; exact this
                kids := by have := Rd.new hk3; rw [i64s_length] at this; exact this
                ka := Nat.le_refl _, kb := by simp only []; omega, kc := Nat.le_refl _ }
            have HZ := Lib.hid (And.intro hres (And.intro hbox (And.intro hlies (And.intro hbel hd))))
            clear hrow hO hd hres hbox hk1 hk3 hbel hL hvs hlies cj fj z0 z1 z2 z3 z4 z5 z6 z7 zf0 zf1 zf2 zf3 zf4 zf5 zf6 zf7 hiv2
            generalize Y.setCell _ _ = Z at HZ ⊢
            have hz := HZ.out.2.1
            have hr := HZ.out.1
            obtain ⟨z0, z1, z2, z3, z4, z5, z6, z7, -, -, -, -, -, -, -, -⟩ := nd_facts hz
            obtain ⟨y0, y1, y2, y3, y4, y5, y6, y7, q0, q1, q2, q3, q4, q5, q6, q7⟩ := nd_facts hr
            clear hz hr
            by_cases hlen : ((keys.length : Nat) : Int) ≤ fan
            · have hlen2 : ¬ fan < ((keys.length : Nat) : Int) := by omega
              have ho : o = (true, ⟨level, low, high, last, next, keys, vals.set i v, kids⟩) := by
                rw [HO.out, HPD.out]
                exact if_pos (by simpa using hlen)
              subst ho
              have h8 := set8_below HZ.out.2.2.2.1 (w.heap.size + 1) (Nat.le_succ _) (.int .i64 level) (.string low) (.string high) (.bool last) (.int .i64 next) (.slice (some ⟨c1, 0, none⟩) keys.length keys.length) (.slice (some ⟨c2, 0, none⟩) vals.length vals.length) (.slice (some ⟨c3, 0, none⟩) kids.length kids.length)
              have hl8 := lies_off HZ.out.2.2.1 (set8_off Z (w.heap.size + 1) (.int .i64 level) (.string low) (.string high) (.bool last) (.int .i64 next) (.slice (some ⟨c1, 0, none⟩) keys.length keys.length) (.slice (some ⟨c2, 0, none⟩) vals.length vals.length) (.slice (some ⟨c3, 0, none⟩) kids.length kids.length)) (fun a e => by injection e with e; subst e; have := HZ.out.2.2.2.2.2.1; simp only []; omega) (fun a e => by injection e with e; subst e; have := HZ.out.2.2.2.2.2.2.1; simp only []; omega) (.inr fun a e => by injection e with e; subst e; have := HZ.out.2.2.2.2.2.2.2.1; simp only []; omega)
              simp only [set8] at h8 hl8
              have HF := Lib.hid (And.intro h8 hl8)
              clear h8 hl8 hlen
              go_wp2_with fail
              exact bodyPost_ret (v := .tuple #[.agg #[.int .i64 level, .string low, .string high, .bool last, .int .i64 next, .slice (some ⟨c1, 0, none⟩) keys.length keys.length, .slice (some ⟨c2, 0, none⟩) vals.length vals.length, .slice (some ⟨c3, 0, none⟩) kids.length kids.length], .bool true]) (by simp [results, Try.results29, go_sem, *]) rfl ⟨_, _, _, _, _, _, by simp [ndCells], HF.out.2, HF.out.1, fun a e => (by injection e with e; subst e; have := HZ.out.2.2.2.2.2.1; simp only []; omega), fun a e => (by injection e with e; subst e; have := HZ.out.2.2.2.2.2.2.1; simp only []; omega)⟩
            · have hlen2 : fan < ((keys.length : Nat) : Int) := by omega
              have ho : o = (false, zeroN) := by
                rw [HO.out, HPD.out]
                exact if_neg (by simpa using hlen)
              subst ho
              have h8 := set8_below HZ.out.2.2.2.1 (w.heap.size + 1) (Nat.le_succ _) (.int .i64 0) (.string ⟨#[]⟩) (.string ⟨#[]⟩) (.bool false) (.int .i64 0) (.slice none 0 0) (.slice none 0 0) (.slice none 0 0)
              simp only [set8] at h8
              have HF := Lib.hid h8
              clear h8 hlen
              go_wp2_with fail
              exact bodyPost_ret (v := .tuple #[.agg #[.int .i64 0, .string ⟨#[]⟩, .string ⟨#[]⟩, .bool false, .int .i64 0, .slice none 0 0, .slice none 0 0, .slice none 0 0], .bool false]) (by simp [results, Try.results29, go_sem, *]) rfl ⟨none, none, none, 0, 0, 0, rfl, zero_lies _, HF.out, fun a e => (by cases e), fun a e => (by cases e)⟩
        · have h4f : insB d k = false := by simpa using h4
          rw [h4f] at HCo
          rw [withD_no (mayB_ins h4f)]
          clear h1 h2 h3 h4 h4f hlf hal
          obtain ⟨level, low, high, last, next, keys, vals, kids⟩ := d
          simp only [ndCells] at HT HLf HCk HCo ⊢
          go_enter Try.func29, Try.ntmps29
          go_upto_region 1 with fail
          generalize (w.alloc _).alloc _ = W at HT ⊢
          have hbx := HT.out.box
          simp only [ndCells] at hbx
          obtain ⟨x0, x1, x2, x3, x4, x5, x6, x7, -, -, -, -, -, -, -, -⟩ := nd_facts hbx
          clear hbx
          go_wp2_with fail
          refine (HLf.out _ HT.out.lies).mono ?_
          rintro e W ⟨rfl, hbn⟩
          clear x0 x1 x2 x3 x4 x5 x6 x7
          replace HT := Lib.hid (HT.out.up hbn)
          clear hbn
          have hbx := HT.out.box
          simp only [ndCells] at hbx
          obtain ⟨x0, x1, x2, x3, x4, x5, x6, x7, -, -, -, -, -, -, -, -⟩ := nd_facts hbx
          clear hbx
          go_wp2_with fail
          refine (HCk.out _ HT.out.lies).mono ?_
          rintro e W ⟨rfl, hbn⟩
          clear x0 x1 x2 x3 x4 x5 x6 x7
          replace HT := Lib.hid (HT.out.up hbn)
          clear hbn
          have hbx := HT.out.box
          simp only [ndCells] at hbx
          obtain ⟨x0, x1, x2, x3, x4, x5, x6, x7, -, -, -, -, -, -, -, -⟩ := nd_facts hbx
          clear hbx
          go_wp2_with fail
          refine (HK0.out _).mono ?_
          rintro e W ⟨rfl, hbn⟩
          clear x0 x1 x2 x3 x4 x5 x6 x7
          replace HT := Lib.hid (HT.out.up hbn)
          clear hbn
          have hbx := HT.out.box
          simp only [ndCells] at hbx
          obtain ⟨x0, x1, x2, x3, x4, x5, x6, x7, -, -, -, -, -, -, -, -⟩ := nd_facts hbx
          clear hbx
          go_wp2_with fail
          refine (HCo.out _ HT.out.lies).mono ?_
          rintro e W ⟨rfl, hbn⟩
          clear x0 x1 x2 x3 x4 x5 x6 x7
          replace HT := Lib.hid (HT.out.up hbn)
          clear hbn
          have hrs := HT.out.res
          obtain ⟨y0, y1, y2, y3, y4, y5, y6, y7, q0, q1, q2, q3, q4, q5, q6, q7⟩ := nd_facts hrs
          clear hrs
          have hz := set8_below HT.out.bel (w.heap.size + 1) (Nat.le_succ _) (.int .i64 0) (.string ⟨#[]⟩) (.string ⟨#[]⟩) (.bool false) (.int .i64 0) (.slice none 0 0) (.slice none 0 0) (.slice none 0 0)
          simp only [set8] at hz
          have HZ := Lib.hid hz
          clear hz
          go_wp2_with fail
          exact bodyPost_ret (v := .tuple #[.agg #[.int .i64 0, .string ⟨#[]⟩, .string ⟨#[]⟩, .bool false, .int .i64 0, .slice none 0 0, .slice none 0 0, .slice none 0 0], .bool false]) (by simp [results, Try.results29, go_sem, *]) rfl ⟨none, none, none, 0, 0, 0, rfl, zero_lies _, HZ.out, fun a e => (by cases e), fun a e => (by cases e)⟩
      · have h3f : goodB k = false := by simpa using h3
        have HK0 := Lib.hid (fun W => Ret.to (HKc.out W) (congrArg (Value.int .i64) (chk_bad h3f)))
        rw [withD_no (mayB_key h3f)]
        clear h1 h2 h3 h3f hlf hal
        obtain ⟨level, low, high, last, next, keys, vals, kids⟩ := d
        simp only [ndCells] at HT HLf HCk HCo ⊢
        go_enter Try.func29, Try.ntmps29
        go_upto_region 1 with fail
        generalize (w.alloc _).alloc _ = W at HT ⊢
        have hbx := HT.out.box
        simp only [ndCells] at hbx
        obtain ⟨x0, x1, x2, x3, x4, x5, x6, x7, -, -, -, -, -, -, -, -⟩ := nd_facts hbx
        clear hbx
        go_wp2_with fail
        refine (HLf.out _ HT.out.lies).mono ?_
        rintro e W ⟨rfl, hbn⟩
        clear x0 x1 x2 x3 x4 x5 x6 x7
        replace HT := Lib.hid (HT.out.up hbn)
        clear hbn
        have hbx := HT.out.box
        simp only [ndCells] at hbx
        obtain ⟨x0, x1, x2, x3, x4, x5, x6, x7, -, -, -, -, -, -, -, -⟩ := nd_facts hbx
        clear hbx
        go_wp2_with fail
        refine (HCk.out _ HT.out.lies).mono ?_
        rintro e W ⟨rfl, hbn⟩
        clear x0 x1 x2 x3 x4 x5 x6 x7
        replace HT := Lib.hid (HT.out.up hbn)
        clear hbn
        have hbx := HT.out.box
        simp only [ndCells] at hbx
        obtain ⟨x0, x1, x2, x3, x4, x5, x6, x7, -, -, -, -, -, -, -, -⟩ := nd_facts hbx
        clear hbx
        go_wp2_with fail
        refine (HK0.out _).mono ?_
        rintro e W ⟨rfl, hbn⟩
        clear x0 x1 x2 x3 x4 x5 x6 x7
        replace HT := Lib.hid (HT.out.up hbn)
        clear hbn
        have hrs := HT.out.res
        obtain ⟨y0, y1, y2, y3, y4, y5, y6, y7, q0, q1, q2, q3, q4, q5, q6, q7⟩ := nd_facts hrs
        clear hrs
        have hz := set8_below HT.out.bel (w.heap.size + 1) (Nat.le_succ _) (.int .i64 0) (.string ⟨#[]⟩) (.string ⟨#[]⟩) (.bool false) (.int .i64 0) (.slice none 0 0) (.slice none 0 0) (.slice none 0 0)
        simp only [set8] at hz
        have HZ := Lib.hid hz
        clear hz
        go_wp2_with fail
        exact bodyPost_ret (v := .tuple #[.agg #[.int .i64 0, .string ⟨#[]⟩, .string ⟨#[]⟩, .bool false, .int .i64 0, .slice none 0 0, .slice none 0 0, .slice none 0 0], .bool false]) (by simp [results, Try.results29, go_sem, *]) rfl ⟨none, none, none, 0, 0, 0, rfl, zero_lies _, HZ.out, fun a e => (by cases e), fun a e => (by cases e)⟩
  · have h1f : leafB d = false := by simpa using h1
    rw [h1f] at HLf
    rw [withD_no (mayB_leaf h1f)]
    clear h1 h1f hal
    obtain ⟨level, low, high, last, next, keys, vals, kids⟩ := d
    simp only [ndCells] at HT HLf HCk HCo ⊢
    go_enter Try.func29, Try.ntmps29
    go_upto_region 1 with fail
    generalize (w.alloc _).alloc _ = W at HT ⊢
    have hbx := HT.out.box
    simp only [ndCells] at hbx
    obtain ⟨x0, x1, x2, x3, x4, x5, x6, x7, -, -, -, -, -, -, -, -⟩ := nd_facts hbx
    clear hbx
    go_wp2_with fail
    refine (HLf.out _ HT.out.lies).mono ?_
    rintro e W ⟨rfl, hbn⟩
    clear x0 x1 x2 x3 x4 x5 x6 x7
    replace HT := Lib.hid (HT.out.up hbn)
    clear hbn
    have hrs := HT.out.res
    obtain ⟨y0, y1, y2, y3, y4, y5, y6, y7, q0, q1, q2, q3, q4, q5, q6, q7⟩ := nd_facts hrs
    clear hrs
    have hz := set8_below HT.out.bel (w.heap.size + 1) (Nat.le_succ _) (.int .i64 0) (.string ⟨#[]⟩) (.string ⟨#[]⟩) (.bool false) (.int .i64 0) (.slice none 0 0) (.slice none 0 0) (.slice none 0 0)
    simp only [set8] at hz
    have HZ := Lib.hid hz
    clear hz
    go_wp2_with fail
    exact bodyPost_ret (v := .tuple #[.agg #[.int .i64 0, .string ⟨#[]⟩, .string ⟨#[]⟩, .bool false, .int .i64 0, .slice none 0 0, .slice none 0 0, .slice none 0 0], .bool false]) (by simp [results, Try.results29, go_sem, *]) rfl ⟨none, none, none, 0, 0, 0, rfl, zero_lies _, HZ.out, fun a e => (by cases e), fun a e => (by cases e)⟩

end Go.Proofs.Ytcoiadncennhpaa
