/- The law InnerBack: the walk. -/
import Derived.Test.YtcoiadncennhpaaInLives
import Derived.Test.YtcoiadncennhpaaInTurn
import Derived.Test.YtcoiadncennhpaaLeafsBack
import Derived.Deep.DeepCutAuto
namespace Go.Proofs.Ytcoiadncennhpaa
open Go.RowKit

theorem Sx.head {B : Nat} {W0 W : World} {p : Nat × Obj} {L : List (Nat × Obj)} (h : Sx B W0 W (p :: L)) : Sx B W0 W [p] := by
  refine ⟨h.below, h.le, fun i g o hi => ?_, fun i j p q hij hi hj => ?_⟩
  · rcases i with _ | i
    · exact h.has 0 g o hi
    · simp at hi
  · rcases i with _ | i
    · rcases j with _ | j
      · exact absurd rfl hij
      · simp at hj
    · simp at hi
theorem NRetF.to {P : Program} {f : FuncId} {args : Array Value} {w : World} {o o' : Bool × Nd} (h : Calls P f args w (NRetF o w)) (e : o = o') : Calls P f args w (NRetF o' w) := e ▸ h
theorem NRet.to {P : Program} {f : FuncId} {args : Array Value} {w : World} {o o' : Bool × Nd} (h : Calls P f args w (NRet o w)) (e : o = o') : Calls P f args w (NRet o' w) := e ▸ h

/-- What Post, Drop and Turn make of a sound node. -/
theorem back_post {d : Nd} {low : ByteArray} {kid fan : Int} (h : InP d fan) (hf : 4 ≤ fan ∧ fan ≤ 64) : postD d low kid fan = (false, zeroN) ∨
    (postD d low kid fan = (true, postN d low kid) ∧ ndChk (postN d low kid) fan = 0 ∧ placeB (postN d low kid) kid = true ∧ dropD (postN d low kid) (placeI (postN d low kid) kid : Nat) = (true, d)) := by
  cases hp : postB d low kid fan
  · exact .inl (postD_no hp)
  · right
    have h64 : InP d 64 := h.wide (by have := h.fan; omega)
    obtain ⟨h1, h2, h3, h4, h5, h6⟩ := post_in h64 hp hf.2
    refine ⟨postD_yes hp, ndChk_ok ((inP_iff _ _).2 h1).2 hf, h2, ?_⟩
    have hib : inB (postN d low kid) (placeI (postN d low kid) kid : Nat) = true := by
      unfold inB
      rw [h3, Bool.and_eq_true, Bool.and_eq_true, decide_eq_true_iff, decide_eq_true_iff, innerB_iff]
      exact ⟨h1.wide (by have := h1.fan; omega), by omega, by omega⟩
    rw [dropD_yes hib, h3, h6]
theorem back_drop {d : Nd} {i fan : Int} (h : InP d fan) (hf : 4 ≤ fan ∧ fan ≤ 64) : dropD d i = (false, zeroN) ∨
    (dropD d i = (true, dropN d i) ∧ ndChk (dropN d i) fan = 0 ∧ (dropN d i).kids.length + 1 = d.kids.length) := by
  cases hp : inB d i
  · exact .inl (dropD_no hp)
  · right
    unfold inB at hp
    simp only [Bool.and_eq_true, decide_eq_true_iff] at hp
    obtain ⟨h1, h2⟩ := drop_in h hp.2.1 hp.2.2
    refine ⟨dropD_yes (by unfold inB; simp only [Bool.and_eq_true, decide_eq_true_iff]; exact hp), ndChk_ok ((inP_iff _ _).2 h1).2 hf, h2⟩
theorem back_turn {d : Nd} {i fan : Int} {low : ByteArray} (h : InP d fan) (hf : 4 ≤ fan ∧ fan ≤ 64) : turnD d i low = (false, zeroN) ∨
    (turnD d i low = (true, turnN d i low) ∧ ndChk (turnN d i low) fan = 0 ∧ (0 ≤ i ∧ i < (d.keys.length : Int)) ∧ turnD (turnN d i low) i (d.keys.getD i.toNat ByteArray.empty) = (true, d)) := by
  cases hp : (inB d i && innerB (turnN d i low))
  · exact .inl (turnD_no hp)
  · right
    rw [Bool.and_eq_true] at hp
    have hi := hp.1
    unfold inB at hi
    simp only [Bool.and_eq_true, decide_eq_true_iff] at hi
    have hkl : (turnN d i low).keys.length = d.keys.length := List.length_set
    have h2 := (innerB_iff _).1 hp.2
    have h3 : InP (turnN d i low) fan := h2.wide (by rw [hkl]; exact h.fan)
    refine ⟨turnD_yes (by rw [Bool.and_eq_true]; exact hp), ndChk_ok ((inP_iff _ _).2 h3).2 hf, by omega, ?_⟩
    have hb := turn_back d i low hi.2.1 hi.2.2
    have hin : inB (turnN d i low) i = true := by
      unfold inB
      rw [hkl]
      simp only [Bool.and_eq_true, decide_eq_true_iff]
      exact ⟨hp.2, hi.2⟩
    rw [turnD_yes (by rw [hb, hin, hi.1]; rfl), hb]

theorem back_post2 {d : Nd} {low : ByteArray} {kid fan : Int} (h : InP d fan) (hf : 4 ≤ fan ∧ fan ≤ 64) : (postD d low kid fan).1 = false ∨
    ((postD d low kid fan).1 = true ∧ ndChk (postD d low kid fan).2 fan = 0 ∧ placeB (postD d low kid fan).2 kid = true ∧ dropD (postD d low kid fan).2 (placeI (postD d low kid fan).2 kid : Nat) = (true, d) ∧ d.low = (postD d low kid fan).2.low ∧ d.high = (postD d low kid fan).2.high) := by
  rcases back_post (low := low) (kid := kid) h hf with e | ⟨e, h1, h2, h3⟩
  · rw [e]; exact .inl rfl
  · rw [e]; exact .inr ⟨rfl, h1, h2, h3, rfl, rfl⟩
theorem back_drop2 {d : Nd} {i fan : Int} (h : InP d fan) (hf : 4 ≤ fan ∧ fan ≤ 64) : (dropD d i).1 = false ∨ ((dropD d i).1 = true ∧ ndChk (dropD d i).2 fan = 0 ∧ (dropD d i).2.kids.length + 1 = d.kids.length) := by
  rcases back_drop (i := i) h hf with e | ⟨e, h1, h2⟩
  · rw [e]; exact .inl rfl
  · rw [e]; exact .inr ⟨rfl, h1, h2⟩
theorem back_turn2 {d : Nd} {i fan : Int} {low : ByteArray} (h : InP d fan) (hf : 4 ≤ fan ∧ fan ≤ 64) : (turnD d i low).1 = false ∨
    ((turnD d i low).1 = true ∧ ndChk (turnD d i low).2 fan = 0 ∧ (0 ≤ i ∧ i < (d.keys.length : Int)) ∧ turnD (turnD d i low).2 i (d.keys.getD i.toNat ByteArray.empty) = (true, d)) := by
  rcases back_turn (i := i) (low := low) h hf with e | ⟨e, h1, h2, h3⟩
  · rw [e]; exact .inl rfl
  · rw [e]; exact .inr ⟨rfl, h1, h2, h3⟩

set_option maxRecDepth 100000 in
set_option maxHeartbeats 16000000 in
theorem innerback_any (d : Nd) (low : ByteArray) (kid i fan : Int) (A B C : Option Addr) (ca cb cc : Nat) (w : World) (h : Lies w d A B C ca cb cc) (hk : low.size ≤ maxLen) :
    Calls Try.prog 12 #[.agg (ndCells d A B C ca cb cc), .string low, .int .i64 kid, .int .i64 i, .int .i64 fan] w (Ret (.bool true) w) := by
  have hS := Lib.hid ((Sx.start0 w).alloc (.cells (ndCells d A B C ca cb cc) 26))
  have H00 := Lib.hid h
  have HLi := Lib.hid (fun W hW => lightN_any d A B C ca cb cc W hW)
  have HCk := Lib.hid (fun W hW => ndcheck_any d fan A B C ca cb cc W hW)
  have hks : low.size ≤ 9223372036854775807 := hk
  have HK := Lib.hid hk
  clear h hk
  cases hli : lightN d
  · rw [hli] at HLi
    clear hli HCk
    obtain ⟨level, nlow, high, last, next, keys, vals, kids⟩ := d
    simp only [ndCells, List.nil_append] at hS HLi ⊢
    (try simp only [ndCells] at HCk)
    go_enter Try.func12, Try.ntmps12
    go_upto_region 1 with fail
    generalize w.alloc _ = W at hS ⊢
    obtain ⟨x0, x1, x2, x3, x4, x5, x6, x7, f0, f1, f2, f3, f4, f5, f6, f7⟩ := nd_facts (hS.out.has 0 _ _ rfl).1
    go_wp2_with fail
    refine (HLi.out _ (H00.out.up hS.out.below)).mono ?_
    rintro e wn ⟨rfl, hbn⟩
    clear x0 x1 x2 x3 x4 x5 x6 x7 f0 f1 f2 f3 f4 f5 f6 f7
    replace hS := Lib.hid (hS.out.call hbn)
    clear hbn
    obtain ⟨x0, x1, x2, x3, x4, x5, x6, x7, f0, f1, f2, f3, f4, f5, f6, f7⟩ := nd_facts (hS.out.has 0 _ _ rfl).1
    go_wp2_with fail
    first | refine (lives12_any _).mono ?_ | skip
    rintro e wn ⟨rfl, hbn⟩
    clear x0 x1 x2 x3 x4 x5 x6 x7 f0 f1 f2 f3 f4 f5 f6 f7
    replace hS := Lib.hid (hS.out.call hbn)
    clear hbn
    obtain ⟨x0, x1, x2, x3, x4, x5, x6, x7, f0, f1, f2, f3, f4, f5, f6, f7⟩ := nd_facts (hS.out.has 0 _ _ rfl).1
    go_wp2_with fail
    first
      | (go_ret; exact ⟨rfl, hS.out.below⟩)
      | (refine (lives12_any _).mono ?_; rintro e wn ⟨rfl, hbn⟩; go_wp2_with fail; go_ret; exact ⟨rfl, (hS.out.call hbn).below⟩)
  · rw [hli] at HLi
    clear hli
    by_cases hk100 : 100 < low.size
    · have hk100' : decide ((100 : Int) < (low.size : Int)) = true := decide_eq_true (by omega)
      clear HCk hk100
      obtain ⟨level, nlow, high, last, next, keys, vals, kids⟩ := d
      simp only [ndCells, List.nil_append] at hS HLi ⊢
      (try simp only [ndCells] at HCk)
      go_enter Try.func12, Try.ntmps12
      go_upto_region 1 with fail
      generalize w.alloc _ = W at hS ⊢
      obtain ⟨x0, x1, x2, x3, x4, x5, x6, x7, f0, f1, f2, f3, f4, f5, f6, f7⟩ := nd_facts (hS.out.has 0 _ _ rfl).1
      go_wp2_with fail
      refine (HLi.out _ (H00.out.up hS.out.below)).mono ?_
      rintro e wn ⟨rfl, hbn⟩
      clear x0 x1 x2 x3 x4 x5 x6 x7 f0 f1 f2 f3 f4 f5 f6 f7
      replace hS := Lib.hid (hS.out.call hbn)
      clear hbn
      obtain ⟨x0, x1, x2, x3, x4, x5, x6, x7, f0, f1, f2, f3, f4, f5, f6, f7⟩ := nd_facts (hS.out.has 0 _ _ rfl).1
      go_wp2_with fail
      first | refine (lives12_any _).mono ?_ | skip
      rintro e wn ⟨rfl, hbn⟩
      clear x0 x1 x2 x3 x4 x5 x6 x7 f0 f1 f2 f3 f4 f5 f6 f7
      replace hS := Lib.hid (hS.out.call hbn)
      clear hbn
      obtain ⟨x0, x1, x2, x3, x4, x5, x6, x7, f0, f1, f2, f3, f4, f5, f6, f7⟩ := nd_facts (hS.out.has 0 _ _ rfl).1
      go_wp2_with fail
      first
        | (go_ret; exact ⟨rfl, hS.out.below⟩)
        | (refine (lives12_any _).mono ?_; rintro e wn ⟨rfl, hbn⟩; go_wp2_with fail; go_ret; exact ⟨rfl, (hS.out.call hbn).below⟩)
    · have hk100' : decide ((100 : Int) < (low.size : Int)) = false := decide_eq_false (by omega)
      clear hk100
      by_cases hc : ndChk d fan = 0
      · rw [hc] at HCk
        obtain ⟨hso, hfan⟩ := ndChk_zero hc
        clear hc
        by_cases hlv : d.level = 0
        · clear hso hfan
          obtain ⟨level, nlow, high, last, next, keys, vals, kids⟩ := d
          simp only [] at hlv
          subst hlv
          simp only [ndCells, List.nil_append] at hS HLi ⊢
          (try simp only [ndCells] at HCk)
          go_enter Try.func12, Try.ntmps12
          go_upto_region 1 with fail
          generalize w.alloc _ = W at hS ⊢
          obtain ⟨x0, x1, x2, x3, x4, x5, x6, x7, f0, f1, f2, f3, f4, f5, f6, f7⟩ := nd_facts (hS.out.has 0 _ _ rfl).1
          go_wp2_with fail
          refine (HLi.out _ (H00.out.up hS.out.below)).mono ?_
          rintro e wn ⟨rfl, hbn⟩
          clear x0 x1 x2 x3 x4 x5 x6 x7 f0 f1 f2 f3 f4 f5 f6 f7
          replace hS := Lib.hid (hS.out.call hbn)
          clear hbn
          obtain ⟨x0, x1, x2, x3, x4, x5, x6, x7, f0, f1, f2, f3, f4, f5, f6, f7⟩ := nd_facts (hS.out.has 0 _ _ rfl).1
          go_wp2_with fail
          refine (HCk.out _ (H00.out.up hS.out.below)).mono ?_
          first | refine (lives12_any _).mono ?_ | skip
          rintro e wn ⟨rfl, hbn⟩
          clear x0 x1 x2 x3 x4 x5 x6 x7 f0 f1 f2 f3 f4 f5 f6 f7
          replace hS := Lib.hid (hS.out.call hbn)
          clear hbn
          obtain ⟨x0, x1, x2, x3, x4, x5, x6, x7, f0, f1, f2, f3, f4, f5, f6, f7⟩ := nd_facts (hS.out.has 0 _ _ rfl).1
          go_wp2_with fail
          first
            | (go_ret; exact ⟨rfl, hS.out.below⟩)
            | (refine (lives12_any _).mono ?_; rintro e wn ⟨rfl, hbn⟩; go_wp2_with fail; go_ret; exact ⟨rfl, (hS.out.call hbn).below⟩)
        · have hl0 : 0 < d.level := by
            have : borderB d = true := by unfold soundB at hso; rw [Bool.and_eq_true] at hso; exact hso.1
            unfold borderB at this
            rw [Bool.and_eq_true, decide_eq_true_iff] at this
            omega
          have hin := (inP_iff d fan).1 ⟨hl0, hso⟩
          have HP := Lib.hid (back_post2 (low := low) (kid := kid) hin hfan)
          have HD := Lib.hid (back_drop2 (i := i) hin hfan)
          have HT := Lib.hid (back_turn2 (i := i) (low := low) hin hfan)
          have hlv2 : (d.level == (0 : Int)) = false := by rw [beq_eq_false_iff_ne]; exact hlv
          have HSM := Lib.hid (fun (A' B' C' : Option Addr) (ca' cb' cc' : Nat) (W : World) h k => Ret.to (sameN_any d d A' B' C' A B C ca' cb' cc' ca cb cc W h k) (congrArg Value.bool (sameB_self d)))
          have HPo := Lib.hid (fun W hW => inpost_any d low kid fan A B C ca cb cc W hW HK.out)
          have HDr := Lib.hid (fun W hW => indrop_any d i A B C ca cb cc W hW)
          have HTu := Lib.hid (fun W hW => inturn_any d i low A B C ca cb cc W hW HK.out)
          clear hso hl0 hin hlv
          have HF := Lib.hid hfan
          clear hfan
          generalize postD d low kid fan = o1 at HP HPo
          generalize dropD d i = o2 at HD HDr
          generalize turnD d i low = o3 at HT HTu
          obtain ⟨ok1, level1, nlow1, high1, last1, next1, keys1, vals1, kids1⟩ := o1
          obtain ⟨ok2, level2, nlow2, high2, last2, next2, keys2, vals2, kids2⟩ := o2
          obtain ⟨ok3, level3, nlow3, high3, last3, next3, keys3, vals3, kids3⟩ := o3
          obtain ⟨level, nlow, high, last, next, keys, vals, kids⟩ := d
          simp only [] at hlv2 HP HD HT HPo HDr HTu
          simp only [ndCells, List.nil_append] at hS HLi ⊢
          (try simp only [ndCells] at HCk)
          go_enter Try.func12, Try.ntmps12
          go_upto_region 1 with fail
          generalize w.alloc _ = W at hS ⊢
          obtain ⟨x0, x1, x2, x3, x4, x5, x6, x7, f0, f1, f2, f3, f4, f5, f6, f7⟩ := nd_facts (hS.out.has 0 _ _ rfl).1
          go_wp2_with fail
          refine (HLi.out _ (H00.out.up hS.out.below)).mono ?_
          rintro e wn ⟨rfl, hbn⟩
          clear x0 x1 x2 x3 x4 x5 x6 x7 f0 f1 f2 f3 f4 f5 f6 f7
          replace hS := Lib.hid (hS.out.call hbn)
          clear hbn
          obtain ⟨x0, x1, x2, x3, x4, x5, x6, x7, f0, f1, f2, f3, f4, f5, f6, f7⟩ := nd_facts (hS.out.has 0 _ _ rfl).1
          go_wp2_with fail
          refine (HCk.out _ (H00.out.up hS.out.below)).mono ?_
          rintro e wn ⟨rfl, hbn⟩
          clear x0 x1 x2 x3 x4 x5 x6 x7 f0 f1 f2 f3 f4 f5 f6 f7
          replace hS := Lib.hid (hS.out.call hbn)
          clear hbn HCk HLi
          obtain ⟨x0, x1, x2, x3, x4, x5, x6, x7, f0, f1, f2, f3, f4, f5, f6, f7⟩ := nd_facts (hS.out.has 0 _ _ rfl).1
          go_wp2_with fail
          refine (HPo.out _ (H00.out.up hS.out.below)).mono ?_
          rintro e W1 ⟨A1, B1, C1, ca1, cb1, cc1, rfl, hl1, hb1⟩
          clear x0 x1 x2 x3 x4 x5 x6 x7 f0 f1 f2 f3 f4 f5 f6 f7
          have hba := below_alloc W1 (.cells (ndCells ⟨level1, nlow1, high1, last1, next1, keys1, vals1, kids1⟩ A1 B1 C1 ca1 cb1 cc1) 26)
          have HL1 := Lib.hid (hl1.up hba)
          replace hS := Lib.hid ((hS.out.call hb1).alloc (.cells (ndCells ⟨level1, nlow1, high1, last1, next1, keys1, vals1, kids1⟩ A1 B1 C1 ca1 cb1 cc1) 26))
          clear hba hl1 hb1 HPo
          simp only [List.cons_append, List.nil_append, ndCells] at hS HL1 ⊢
          go_upto_if 51 with fail
          generalize W1.alloc _ = W2 at hS HL1 ⊢
          generalize W1.heap.size = g1 at hS ⊢
          go_cut [] (fun wx => Hid (Sx w.heap.size w wx [(w.heap.size, .cells (ndCells ⟨level, nlow, high, last, next, keys, vals, kids⟩ A B C ca cb cc) 26)]))
          case first =>
            rcases HP.out with rfl | ⟨rfl, hchk, hpl, hdr, rfl, rfl⟩
            · go_wp2_with fail
              go_meet
              exact Lib.hid hS.out.head
            · have HQ := Lib.hid (And.intro hchk (And.intro hpl hdr))
              clear hchk hpl hdr HP
              obtain ⟨x0, x1, x2, x3, x4, x5, x6, x7, f0, f1, f2, f3, f4, f5, f6, f7⟩ := nd_facts (hS.out.has 1 _ _ rfl).1
              go_wp2_with fail
              refine (Ret.to (place_any ⟨level1, nlow, high, last1, next1, keys1, vals1, kids1⟩ kid A1 B1 C1 ca1 cb1 cc1 _ HL1.out) (by rw [HQ.out.2.1])).mono ?_
              rintro e wn ⟨rfl, hbn⟩
              clear x0 x1 x2 x3 x4 x5 x6 x7 f0 f1 f2 f3 f4 f5 f6 f7
              replace hS := Lib.hid (hS.out.call hbn)
              replace HL1 := Lib.hid (HL1.out.up hbn)
              clear hbn
              obtain ⟨x0, x1, x2, x3, x4, x5, x6, x7, f0, f1, f2, f3, f4, f5, f6, f7⟩ := nd_facts (hS.out.has 1 _ _ rfl).1
              go_wp2_with fail
              refine (NRet.to (indrop_any ⟨level1, nlow, high, last1, next1, keys1, vals1, kids1⟩ _ A1 B1 C1 ca1 cb1 cc1 _ HL1.out) HQ.out.2.2).mono ?_
              rintro e W3 ⟨A2, B2, C2, ca2, cb2, cc2, rfl, hl2, hb2⟩
              clear x0 x1 x2 x3 x4 x5 x6 x7 f0 f1 f2 f3 f4 f5 f6 f7
              have hba := below_alloc W3 (.cells (ndCells ⟨level, nlow, high, last, next, keys, vals, kids⟩ A2 B2 C2 ca2 cb2 cc2) 26)
              have HL2 := Lib.hid (hl2.up hba)
              replace HL1 := Lib.hid ((HL1.out.up hb2).up hba)
              replace hS := Lib.hid ((hS.out.call hb2).alloc (.cells (ndCells ⟨level, nlow, high, last, next, keys, vals, kids⟩ A2 B2 C2 ca2 cb2 cc2) 26))
              clear hba hl2 hb2
              simp only [List.cons_append, List.nil_append, ndCells] at hS HL1 HL2 ⊢
              go_upto_region 7 with fail
              generalize W3.alloc _ = W4 at hS HL1 HL2 ⊢
              generalize W3.heap.size = g2 at hS ⊢
              obtain ⟨x0, x1, x2, x3, x4, x5, x6, x7, f0, f1, f2, f3, f4, f5, f6, f7⟩ := nd_facts (hS.out.has 1 _ _ rfl).1
              go_wp2_with fail
              refine (Ret.to (ndcheck_any ⟨level1, nlow, high, last1, next1, keys1, vals1, kids1⟩ fan A1 B1 C1 ca1 cb1 cc1 _ HL1.out) (by rw [HQ.out.1])).mono ?_
              rintro e wn ⟨rfl, hbn⟩
              clear x0 x1 x2 x3 x4 x5 x6 x7 f0 f1 f2 f3 f4 f5 f6 f7
              replace hS := Lib.hid (hS.out.call hbn)
              replace HL2 := Lib.hid (HL2.out.up hbn)
              clear hbn HL1
              obtain ⟨x0, x1, x2, x3, x4, x5, x6, x7, f0, f1, f2, f3, f4, f5, f6, f7⟩ := nd_facts (hS.out.has 0 _ _ rfl).1
              obtain ⟨y0, y1, y2, y3, y4, y5, y6, y7, q0, q1, q2, q3, q4, q5, q6, q7⟩ := nd_facts (hS.out.has 2 _ _ rfl).1
              go_wp2_with fail
              refine (HSM.out A2 B2 C2 ca2 cb2 cc2 _ HL2.out (H00.out.up hS.out.below)).mono ?_
              rintro e wn ⟨rfl, hbn⟩
              clear x0 x1 x2 x3 x4 x5 x6 x7 f0 f1 f2 f3 f4 f5 f6 f7
              clear y0 y1 y2 y3 y4 y5 y6 y7 q0 q1 q2 q3 q4 q5 q6 q7
              replace hS := Lib.hid (hS.out.call hbn)
              clear hbn
              obtain ⟨x0, x1, x2, x3, x4, x5, x6, x7, f0, f1, f2, f3, f4, f5, f6, f7⟩ := nd_facts (hS.out.has 0 _ _ rfl).1
              obtain ⟨y0, y1, y2, y3, y4, y5, y6, y7, q0, q1, q2, q3, q4, q5, q6, q7⟩ := nd_facts (hS.out.has 1 _ _ rfl).1
              go_wp2_with fail
              go_meet
              exact Lib.hid hS.out.head
          case rest =>
            clear hS HL1 HP
            have hS := hcut
            clear hcut
            simp only [ndCells] at hS
            obtain ⟨x0, x1, x2, x3, x4, x5, x6, x7, f0, f1, f2, f3, f4, f5, f6, f7⟩ := nd_facts (hS.out.has 0 _ _ rfl).1
            go_wp2_with fail
            refine (HDr.out _ (H00.out.up hS.out.below)).mono ?_
            rintro e W1 ⟨A1, B1, C1, ca1, cb1, cc1, rfl, hl1, hb1⟩
            clear x0 x1 x2 x3 x4 x5 x6 x7 f0 f1 f2 f3 f4 f5 f6 f7
            have hba := below_alloc W1 (.cells (ndCells ⟨level2, nlow2, high2, last2, next2, keys2, vals2, kids2⟩ A1 B1 C1 ca1 cb1 cc1) 26)
            have HL1 := Lib.hid (hl1.up hba)
            replace hS := Lib.hid ((hS.out.call hb1).alloc (.cells (ndCells ⟨level2, nlow2, high2, last2, next2, keys2, vals2, kids2⟩ A1 B1 C1 ca1 cb1 cc1) 26))
            clear hba hl1 hb1 HDr
            simp only [List.cons_append, List.nil_append, ndCells] at hS HL1 ⊢
            go_upto_region 10 with fail
            generalize W1.alloc _ = W2 at hS HL1 ⊢
            generalize W1.heap.size = g1 at hS ⊢
            go_cut [118] (fun s118 wx => s118 = .bool false ∧ Hid (Sx w.heap.size w wx [(w.heap.size, .cells (ndCells ⟨level, nlow, high, last, next, keys, vals, kids⟩ A B C ca cb cc) 26)]))
            case first =>
              rcases HD.out with rfl | ⟨rfl, hchk, hlen⟩
              · go_wp2_with fail
                go_meet
                exact ⟨rfl, Lib.hid hS.out.head⟩
              · have hkl : kids.length ≤ 9223372036854775807 := H00.out.lc
                have hne : ((kids2.length : Int) != (kids.length : Int) - 1) = false := by rw [bne_eq_false_iff_eq]; omega
                have HQ := Lib.hid hchk
                have HLn := Lib.hid hlen
                clear hchk hlen HD
                obtain ⟨x0, x1, x2, x3, x4, x5, x6, x7, f0, f1, f2, f3, f4, f5, f6, f7⟩ := nd_facts (hS.out.has 1 _ _ rfl).1
                go_wp2_with fail
                refine (Ret.to (ndcheck_any ⟨level2, nlow2, high2, last2, next2, keys2, vals2, kids2⟩ fan A1 B1 C1 ca1 cb1 cc1 _ HL1.out) (by rw [HQ.out])).mono ?_
                rintro e wn ⟨rfl, hbn⟩
                clear x0 x1 x2 x3 x4 x5 x6 x7 f0 f1 f2 f3 f4 f5 f6 f7
                replace hS := Lib.hid (hS.out.call hbn)
                clear hbn
                obtain ⟨x0, x1, x2, x3, x4, x5, x6, x7, f0, f1, f2, f3, f4, f5, f6, f7⟩ := nd_facts (hS.out.has 0 _ _ rfl).1
                obtain ⟨y0, y1, y2, y3, y4, y5, y6, y7, q0, q1, q2, q3, q4, q5, q6, q7⟩ := nd_facts (hS.out.has 1 _ _ rfl).1
                have hk1 : 1 ≤ kids.length := by have := HLn.out; omega
                go_wp2_with fail
                go_meet
                exact ⟨rfl, Lib.hid hS.out.head⟩
            case rest =>
              clear hS HL1 HD
              obtain ⟨rfl, hS⟩ := hcut
              simp only [ndCells] at hS
              obtain ⟨x0, x1, x2, x3, x4, x5, x6, x7, f0, f1, f2, f3, f4, f5, f6, f7⟩ := nd_facts (hS.out.has 0 _ _ rfl).1
              go_wp2_with fail
              refine (HTu.out _ (H00.out.up hS.out.below)).mono ?_
              rintro e W1 ⟨A1, B1, C1, ca1, cb1, cc1, rfl, hl1, hb1⟩
              clear x0 x1 x2 x3 x4 x5 x6 x7 f0 f1 f2 f3 f4 f5 f6 f7
              have hba := below_alloc W1 (.cells (ndCells ⟨level3, nlow3, high3, last3, next3, keys3, vals3, kids3⟩ A1 B1 C1 ca1 cb1 cc1) 26)
              have HL1 := Lib.hid (hl1.up hba)
              replace hS := Lib.hid ((hS.out.call hb1).alloc (.cells (ndCells ⟨level3, nlow3, high3, last3, next3, keys3, vals3, kids3⟩ A1 B1 C1 ca1 cb1 cc1) 26))
              clear hba hl1 hb1 HTu
              simp only [List.cons_append, List.nil_append, ndCells] at hS HL1 ⊢
              go_upto_if 126 with fail
              generalize W1.alloc _ = W at hS HL1 ⊢
              generalize W1.heap.size = g1 at hS ⊢
              go_cut [] (fun wx => Hid (Sx w.heap.size w wx [(w.heap.size, .cells (ndCells ⟨level, nlow, high, last, next, keys, vals, kids⟩ A B C ca cb cc) 26)]))
              case first =>
                rcases HT.out with rfl | ⟨rfl, hchk, hir, htu⟩
                · go_wp2_with fail
                  go_meet
                  exact Lib.hid hS.out.head
                · obtain ⟨j, rfl⟩ := Int.eq_ofNat_of_zero_le hir.1
                  have hj : j < keys.length := by omega
                  rw [Int.toNat_natCast, getD_at _ _ _ hj] at htu
                  have hk : RdS W A keys.length keys := H00.out.keys.up hS.out.below
                  obtain ⟨b, off, rfl, hbB, hcl⟩ := hk.spot (by omega)
                  have hcj := hcl j hj
                  have hfj : keys[j].size ≤ maxLen := H00.out.fit j hj
                  have hj2 : (j : Int) < (keys.length : Int) := by omega
                  generalize keys[j] = kj at hcj hfj htu
                  have HCJ := Lib.hid (And.intro hcj hbB)
                  have HTT := Lib.hid (fun W hW => NRetF.to (inturnF_any ⟨level3, nlow3, high3, last3, next3, keys3, vals3, kids3⟩ (j : Int) kj A1 B1 C1 ca1 cb1 cc1 W hW hfj) htu)
                  simp only [ndCells] at HTT
                  have HQ := Lib.hid hchk
                  clear hcj hfj hbB hcl hk htu hchk hir HT
                  go_upto_region 14 with fail
                  go_cut [21, 22] (fun s21 s22 wx => ∃ g2 A2 B2 C2 ca2 cb2 cc2, s21 = .pointer (some ⟨g2, 0, none⟩) ∧ s22 = .bool true ∧ Hid (Sx w.heap.size w wx [(w.heap.size, .cells (ndCells ⟨level, nlow, high, last, next, keys, vals, kids⟩ (some ⟨b, off, none⟩) B C ca cb cc) 26), (g1, .cells (ndCells ⟨level3, nlow3, high3, last3, next3, keys3, vals3, kids3⟩ A1 B1 C1 ca1 cb1 cc1) 26), (g2, .cells (ndCells ⟨level, nlow, high, last, next, keys, vals, kids⟩ A2 B2 C2 ca2 cb2 cc2) 26)] ∧ Lies wx ⟨level, nlow, high, last, next, keys, vals, kids⟩ A2 B2 C2 ca2 cb2 cc2 ∧ Below W.heap.size W wx))
                  case first =>
                    refine wp_region_held_drew (S := fun w' => Below W.heap.size W w') (by kernel_rfl) (Below.drew (Below.refl _ _)) (fun hcur => ?_)
                    replace hcur : Below W.heap.size W W.drew := hcur
                    have hX := Lib.hid (hS.out.call hcur)
                    generalize W.drew = X at hX hcur ⊢
                    refine wpAnyH_take (i := 0) (v := ?_) rfl (by decide +kernel) (by decide +kernel) (by decide +kernel) (fun _ _ _ h => h) (Or.inl ⟨by rfl, ?hy⟩) hcur ?_
                    case hy =>
                      intro w1 hSw
                      replace hSw : Below W.heap.size W w1 := hSw
                      obtain ⟨x0, x1, x2, x3, x4, x5, x6, x7, -, -, -, -, -, -, -, -⟩ := nd_facts ((hS.out.call hSw).has 0 _ _ rfl).1
                      obtain ⟨y0, y1, y2, y3, y4, y5, y6, y7, -, -, -, -, -, -, -, -⟩ := nd_facts ((hS.out.call hSw).has 1 _ _ rfl).1
                      have cj := (hSw.cell (p := ⟨b, off + j, none⟩) HCJ.out.2).trans HCJ.out.1
                      go_simp
                      (try with_reducible rfl)
                    (try simp only [Act.put, List.getElem_toArray, List.getElem_cons_zero, List.getElem_cons_succ, List.setIfInBounds_toArray, List.set_cons_zero, List.set_cons_succ])
                    refine wpAnyH_take (i := 1) (v := ?_) rfl (by decide +kernel) (by decide +kernel) (by decide +kernel) (fun _ _ _ h => h) (Or.inl ⟨by rfl, ?hy⟩) hcur ?_
                    case hy =>
                      intro w1 hSw
                      replace hSw : Below W.heap.size W w1 := hSw
                      obtain ⟨x0, x1, x2, x3, x4, x5, x6, x7, -, -, -, -, -, -, -, -⟩ := nd_facts ((hS.out.call hSw).has 0 _ _ rfl).1
                      obtain ⟨y0, y1, y2, y3, y4, y5, y6, y7, -, -, -, -, -, -, -, -⟩ := nd_facts ((hS.out.call hSw).has 1 _ _ rfl).1
                      have cj := (hSw.cell (p := ⟨b, off + j, none⟩) HCJ.out.2).trans HCJ.out.1
                      go_simp
                      (try with_reducible rfl)
                    (try simp only [Act.put, List.getElem_toArray, List.getElem_cons_zero, List.getElem_cons_succ, List.setIfInBounds_toArray, List.set_cons_zero, List.set_cons_succ])
                    refine wpAnyH_take (i := 2) (v := ?_) rfl (by decide +kernel) (by decide +kernel) (by decide +kernel) (fun _ _ _ h => h) (Or.inl ⟨by rfl, ?hy⟩) hcur ?_
                    case hy =>
                      intro w1 hSw
                      replace hSw : Below W.heap.size W w1 := hSw
                      obtain ⟨x0, x1, x2, x3, x4, x5, x6, x7, -, -, -, -, -, -, -, -⟩ := nd_facts ((hS.out.call hSw).has 0 _ _ rfl).1
                      obtain ⟨y0, y1, y2, y3, y4, y5, y6, y7, -, -, -, -, -, -, -, -⟩ := nd_facts ((hS.out.call hSw).has 1 _ _ rfl).1
                      have cj := (hSw.cell (p := ⟨b, off + j, none⟩) HCJ.out.2).trans HCJ.out.1
                      go_simp
                      (try with_reducible rfl)
                    (try simp only [Act.put, List.getElem_toArray, List.getElem_cons_zero, List.getElem_cons_succ, List.setIfInBounds_toArray, List.set_cons_zero, List.set_cons_succ])
                    refine wpAnyH_take (i := 3) (v := ?_) rfl (by decide +kernel) (by decide +kernel) (by decide +kernel) (fun _ _ _ h => h) (Or.inl ⟨by rfl, ?hy⟩) hcur ?_
                    case hy =>
                      intro w1 hSw
                      replace hSw : Below W.heap.size W w1 := hSw
                      obtain ⟨x0, x1, x2, x3, x4, x5, x6, x7, -, -, -, -, -, -, -, -⟩ := nd_facts ((hS.out.call hSw).has 0 _ _ rfl).1
                      obtain ⟨y0, y1, y2, y3, y4, y5, y6, y7, -, -, -, -, -, -, -, -⟩ := nd_facts ((hS.out.call hSw).has 1 _ _ rfl).1
                      have cj := (hSw.cell (p := ⟨b, off + j, none⟩) HCJ.out.2).trans HCJ.out.1
                      go_simp
                      (try with_reducible rfl)
                    (try simp only [Act.put, List.getElem_toArray, List.getElem_cons_zero, List.getElem_cons_succ, List.setIfInBounds_toArray, List.set_cons_zero, List.set_cons_succ])
                    refine wpAnyH_take (i := 4) (v := ?_) rfl (by decide +kernel) (by decide +kernel) (by decide +kernel) (fun _ _ _ h => h) (Or.inl ⟨by rfl, ?hy⟩) hcur ?_
                    case hy =>
                      intro w1 hSw
                      replace hSw : Below W.heap.size W w1 := hSw
                      obtain ⟨x0, x1, x2, x3, x4, x5, x6, x7, -, -, -, -, -, -, -, -⟩ := nd_facts ((hS.out.call hSw).has 0 _ _ rfl).1
                      obtain ⟨y0, y1, y2, y3, y4, y5, y6, y7, -, -, -, -, -, -, -, -⟩ := nd_facts ((hS.out.call hSw).has 1 _ _ rfl).1
                      have cj := (hSw.cell (p := ⟨b, off + j, none⟩) HCJ.out.2).trans HCJ.out.1
                      go_simp
                      (try with_reducible rfl)
                    (try simp only [Act.put, List.getElem_toArray, List.getElem_cons_zero, List.getElem_cons_succ, List.setIfInBounds_toArray, List.set_cons_zero, List.set_cons_succ])
                    refine wpAnyH_take (i := 5) (v := ?_) rfl (by decide +kernel) (by decide +kernel) (by decide +kernel) (fun _ _ _ h => h) (Or.inl ⟨by rfl, ?hy⟩) hcur ?_
                    case hy =>
                      intro w1 hSw
                      replace hSw : Below W.heap.size W w1 := hSw
                      obtain ⟨x0, x1, x2, x3, x4, x5, x6, x7, -, -, -, -, -, -, -, -⟩ := nd_facts ((hS.out.call hSw).has 0 _ _ rfl).1
                      obtain ⟨y0, y1, y2, y3, y4, y5, y6, y7, -, -, -, -, -, -, -, -⟩ := nd_facts ((hS.out.call hSw).has 1 _ _ rfl).1
                      have cj := (hSw.cell (p := ⟨b, off + j, none⟩) HCJ.out.2).trans HCJ.out.1
                      go_simp
                      (try with_reducible rfl)
                    (try simp only [Act.put, List.getElem_toArray, List.getElem_cons_zero, List.getElem_cons_succ, List.setIfInBounds_toArray, List.set_cons_zero, List.set_cons_succ])
                    refine wpAnyH_take (i := 6) (v := ?_) rfl (by decide +kernel) (by decide +kernel) (by decide +kernel) (fun _ _ _ h => h) (Or.inl ⟨by rfl, ?hy⟩) hcur ?_
                    case hy =>
                      intro w1 hSw
                      replace hSw : Below W.heap.size W w1 := hSw
                      obtain ⟨x0, x1, x2, x3, x4, x5, x6, x7, -, -, -, -, -, -, -, -⟩ := nd_facts ((hS.out.call hSw).has 0 _ _ rfl).1
                      obtain ⟨y0, y1, y2, y3, y4, y5, y6, y7, -, -, -, -, -, -, -, -⟩ := nd_facts ((hS.out.call hSw).has 1 _ _ rfl).1
                      have cj := (hSw.cell (p := ⟨b, off + j, none⟩) HCJ.out.2).trans HCJ.out.1
                      go_simp
                      (try with_reducible rfl)
                    (try simp only [Act.put, List.getElem_toArray, List.getElem_cons_zero, List.getElem_cons_succ, List.setIfInBounds_toArray, List.set_cons_zero, List.set_cons_succ])
                    refine wpAnyH_ready (rs := [7, 11]) (by decide +kernel) (by simp) ?_
                    refine AllReadyH.cons rfl (fun K hK => ?_) (AllReadyH.cons rfl (fun K hK => ?_) AllReadyH.nil)
                    · go_simp
                      refine (HTT.out _ (HL1.out.up hcur)).mono ?_
                      rintro e X3 ⟨A2, B2, C2, ca2, cb2, cc2, rfl, hl2, hb2, hfa, hfb, hfc⟩
                      replace hX := Lib.hid (hX.out.call hb2)
                      simp only [ndCells]
                      go_wp2_with fail
                      refine hK.out _ _ (below_of hcur hb2) (fun _ => ?_)
                      clear hK K
                      replace hcur := below_of hcur hb2
                      (try simp only [Act.put, List.getElem_toArray, List.getElem_cons_zero, List.getElem_cons_succ, List.setIfInBounds_toArray, List.set_cons_zero, List.set_cons_succ])
                      have HL2 := Lib.hid (hl2.up (below_alloc X3 (.cells #[.int .i64 0, .string ⟨#[]⟩, .string ⟨#[]⟩, .bool false, .int .i64 0, .slice none 0 0, .slice none 0 0, .slice none 0 0] 26)))
                      have HNE := Lib.hid (And.intro (fun a e => (show Addr.block a ≠ X3.heap.size by have := hfa a e; omega)) (And.intro (fun a e => (show Addr.block a ≠ X3.heap.size by have := hfb a e; omega)) (fun a e => (show Addr.block a ≠ X3.heap.size by have := hfc a e; omega))))
                      have HG2 := Lib.hid (show W.heap.size ≤ X3.heap.size from hcur.size)
                      clear hl2 hfa hfb hfc hb2
                      refine wpAnyH_take (i := 8) (v := ?_) rfl (by decide +kernel) (by decide +kernel) (by decide +kernel) (fun _ _ _ h => h) (Or.inl ⟨by rfl, ?hy⟩) hcur ?_
                      case hy =>
                        intro w1 hSw
                        replace hSw : Below W.heap.size W w1 := hSw
                        obtain ⟨x0, x1, x2, x3, x4, x5, x6, x7, -, -, -, -, -, -, -, -⟩ := nd_facts ((hS.out.call hSw).has 0 _ _ rfl).1
                        obtain ⟨y0, y1, y2, y3, y4, y5, y6, y7, -, -, -, -, -, -, -, -⟩ := nd_facts ((hS.out.call hSw).has 1 _ _ rfl).1
                        have cj := (hSw.cell (p := ⟨b, off + j, none⟩) HCJ.out.2).trans HCJ.out.1
                        go_simp
                        (try with_reducible rfl)
                      (try simp only [Act.put, List.getElem_toArray, List.getElem_cons_zero, List.getElem_cons_succ, List.setIfInBounds_toArray, List.set_cons_zero, List.set_cons_succ])
                      refine wpAnyH_take (i := 9) (v := ?_) rfl (by decide +kernel) (by decide +kernel) (by decide +kernel) (fun _ _ _ h => h) (Or.inl ⟨by rfl, ?hy⟩) hcur ?_
                      case hy =>
                        intro w1 hSw
                        replace hSw : Below W.heap.size W w1 := hSw
                        obtain ⟨x0, x1, x2, x3, x4, x5, x6, x7, -, -, -, -, -, -, -, -⟩ := nd_facts ((hS.out.call hSw).has 0 _ _ rfl).1
                        obtain ⟨y0, y1, y2, y3, y4, y5, y6, y7, -, -, -, -, -, -, -, -⟩ := nd_facts ((hS.out.call hSw).has 1 _ _ rfl).1
                        have cj := (hSw.cell (p := ⟨b, off + j, none⟩) HCJ.out.2).trans HCJ.out.1
                        go_simp
                        (try with_reducible rfl)
                      (try simp only [Act.put, List.getElem_toArray, List.getElem_cons_zero, List.getElem_cons_succ, List.setIfInBounds_toArray, List.set_cons_zero, List.set_cons_succ])
                      refine wpAnyH_take (i := 10) (v := ?_) rfl (by decide +kernel) (by decide +kernel) (by decide +kernel) (fun _ _ _ h => h) (Or.inl ⟨by rfl, ?hy⟩) hcur ?_
                      case hy =>
                        intro w1 hSw
                        replace hSw : Below W.heap.size W w1 := hSw
                        obtain ⟨x0, x1, x2, x3, x4, x5, x6, x7, -, -, -, -, -, -, -, -⟩ := nd_facts ((hS.out.call hSw).has 0 _ _ rfl).1
                        obtain ⟨y0, y1, y2, y3, y4, y5, y6, y7, -, -, -, -, -, -, -, -⟩ := nd_facts ((hS.out.call hSw).has 1 _ _ rfl).1
                        have cj := (hSw.cell (p := ⟨b, off + j, none⟩) HCJ.out.2).trans HCJ.out.1
                        go_simp
                        (try with_reducible rfl)
                      (try simp only [Act.put, List.getElem_toArray, List.getElem_cons_zero, List.getElem_cons_succ, List.setIfInBounds_toArray, List.set_cons_zero, List.set_cons_succ])
                      refine wpAnyH_ready (rs := [11]) (by decide +kernel) (by simp) ?_
                      refine AllReadyH.cons rfl (fun K hK => ?_) AllReadyH.nil
                      go_simp
                      refine hK.out _ _ (below_of hcur (below_alloc _ _)) (fun hcur2 => ?_)
                      clear hK K
                      replace hX := Lib.hid (hX.out.alloc (.cells #[.int .i64 0, .string ⟨#[]⟩, .string ⟨#[]⟩, .bool false, .int .i64 0, .slice none 0 0, .slice none 0 0, .slice none 0 0] 26))
                      simp only [List.cons_append, List.nil_append] at hX
                      replace hcur : Below W.heap.size W _ := hcur2
                      clear hcur2
                      (try simp only [Act.put, List.getElem_toArray, List.getElem_cons_zero, List.getElem_cons_succ, List.setIfInBounds_toArray, List.set_cons_zero, List.set_cons_succ])
                      have hgg : X3.heap.size < (X3.alloc (.cells #[.int .i64 0, .string ⟨#[]⟩, .string ⟨#[]⟩, .bool false, .int .i64 0, .slice none 0 0, .slice none 0 0, .slice none 0 0] 26)).heap.size := by simp
                      generalize X3.heap.size = g2 at hX HNE HG2 hgg ⊢
                      generalize X3.alloc _ = X4 at hX HL2 hcur hgg ⊢
                      refine wpAnyH_ready (rs := [12]) (by decide +kernel) (by simp) ?_
                      refine AllReadyH.cons rfl (fun K hK => ?_) AllReadyH.nil
                      obtain ⟨e0, e1, e2, e3, e4, e5, e6, e7, f0, f1, f2, f3, f4, f5, f6, f7⟩ := nd_facts (hX.out.has 2 _ _ rfl).1
                      go_simp
                      have hO := set8_off X4 g2 (.int .i64 level) (.string nlow) (.string high) (.bool last) (.int .i64 next) (.slice A2 keys.length ca2) (.slice B2 vals.length cb2) (.slice C2 kids.length cc2)
                      have hl3 := lies_off HL2.out hO HNE.out.1 HNE.out.2.1 (.inr HNE.out.2.2)
                      replace hX := hX.out.store 2 rfl (.int .i64 level) (.string nlow) (.string high) (.bool last) (.int .i64 next) (.slice A2 keys.length ca2) (.slice B2 vals.length cb2) (.slice C2 kids.length cc2)
                      have hbw := hO.below hcur hcur.size (fun q hq e => by have := HG2.out; omega)
                      have HFI := And.intro hX (And.intro hl3 hbw)
                      simp only [set8] at HFI
                      replace HFI := Lib.hid HFI
                      clear e0 e1 e2 e3 e4 e5 e6 e7 f0 f1 f2 f3 f4 f5 f6 f7 hO hl3 hX hbw
                      refine hK.out _ _ HFI.out.2.2 (fun _ => ?_)
                      clear hK K
                      (try simp only [Act.put, List.getElem_toArray, List.getElem_cons_zero, List.getElem_cons_succ, List.setIfInBounds_toArray, List.set_cons_zero, List.set_cons_succ])
                      generalize World.setCell _ _ _ = X9 at HFI ⊢
                      replace hcur : Below W.heap.size W X9 := HFI.out.2.2
                      refine wpAnyH_take (i := 13) (v := ?_) rfl (by decide +kernel) (by decide +kernel) (by decide +kernel) (fun _ _ _ h => h) (Or.inl ⟨by rfl, ?hy⟩) hcur ?_
                      case hy =>
                        intro w1 hSw
                        replace hSw : Below W.heap.size W w1 := hSw
                        obtain ⟨x0, x1, x2, x3, x4, x5, x6, x7, -, -, -, -, -, -, -, -⟩ := nd_facts ((hS.out.call hSw).has 0 _ _ rfl).1
                        obtain ⟨y0, y1, y2, y3, y4, y5, y6, y7, -, -, -, -, -, -, -, -⟩ := nd_facts ((hS.out.call hSw).has 1 _ _ rfl).1
                        have cj := (hSw.cell (p := ⟨b, off + j, none⟩) HCJ.out.2).trans HCJ.out.1
                        go_simp
                        (try with_reducible rfl)
                      (try simp only [Act.put, List.getElem_toArray, List.getElem_cons_zero, List.getElem_cons_succ, List.setIfInBounds_toArray, List.set_cons_zero, List.set_cons_succ])
                      refine wpAnyH_done (by decide +kernel) ?_ _
                      go_wp2_with fail
                      go_meet
                      exact ⟨g2, A2, B2, C2, ca2, cb2, cc2, rfl, rfl, Lib.hid HFI.out⟩
                    · have HG2 := Lib.hid (show W.heap.size ≤ X.heap.size from hcur.size)
                      go_simp
                      refine hK.out _ _ (below_of hcur (below_alloc _ _)) (fun hcur2 => ?_)
                      clear hK K
                      replace hX := Lib.hid (hX.out.alloc (.cells #[.int .i64 0, .string ⟨#[]⟩, .string ⟨#[]⟩, .bool false, .int .i64 0, .slice none 0 0, .slice none 0 0, .slice none 0 0] 26))
                      simp only [List.cons_append, List.nil_append] at hX
                      replace hcur : Below W.heap.size W _ := hcur2
                      clear hcur2
                      (try simp only [Act.put, List.getElem_toArray, List.getElem_cons_zero, List.getElem_cons_succ, List.setIfInBounds_toArray, List.set_cons_zero, List.set_cons_succ])
                      have hgg : X.heap.size < (X.alloc (.cells #[.int .i64 0, .string ⟨#[]⟩, .string ⟨#[]⟩, .bool false, .int .i64 0, .slice none 0 0, .slice none 0 0, .slice none 0 0] 26)).heap.size := by simp
                      generalize X.heap.size = g2 at hX HG2 hgg ⊢
                      generalize X.alloc _ = X4 at hX hcur hgg ⊢
                      refine wpAnyH_ready (rs := [7]) (by decide +kernel) (by simp) ?_
                      refine AllReadyH.cons rfl (fun K hK => ?_) AllReadyH.nil
                      go_simp
                      refine (HTT.out _ (HL1.out.up hcur)).mono ?_
                      rintro e X3 ⟨A2, B2, C2, ca2, cb2, cc2, rfl, hl2, hb2, hfa, hfb, hfc⟩
                      replace hX := Lib.hid (hX.out.call hb2)
                      simp only [ndCells]
                      go_wp2_with fail
                      refine hK.out _ _ (below_of hcur hb2) (fun _ => ?_)
                      clear hK K
                      replace hcur := below_of hcur hb2
                      (try simp only [Act.put, List.getElem_toArray, List.getElem_cons_zero, List.getElem_cons_succ, List.setIfInBounds_toArray, List.set_cons_zero, List.set_cons_succ])
                      have HL2 := Lib.hid hl2
                      have HNE := Lib.hid (And.intro (fun a e => (show Addr.block a ≠ g2 by have := hfa a e; omega)) (And.intro (fun a e => (show Addr.block a ≠ g2 by have := hfb a e; omega)) (fun a e => (show Addr.block a ≠ g2 by have := hfc a e; omega))))
                      clear hl2 hfa hfb hfc hb2
                      refine wpAnyH_take (i := 8) (v := ?_) rfl (by decide +kernel) (by decide +kernel) (by decide +kernel) (fun _ _ _ h => h) (Or.inl ⟨by rfl, ?hy⟩) hcur ?_
                      case hy =>
                        intro w1 hSw
                        replace hSw : Below W.heap.size W w1 := hSw
                        obtain ⟨x0, x1, x2, x3, x4, x5, x6, x7, -, -, -, -, -, -, -, -⟩ := nd_facts ((hS.out.call hSw).has 0 _ _ rfl).1
                        obtain ⟨y0, y1, y2, y3, y4, y5, y6, y7, -, -, -, -, -, -, -, -⟩ := nd_facts ((hS.out.call hSw).has 1 _ _ rfl).1
                        have cj := (hSw.cell (p := ⟨b, off + j, none⟩) HCJ.out.2).trans HCJ.out.1
                        go_simp
                        (try with_reducible rfl)
                      (try simp only [Act.put, List.getElem_toArray, List.getElem_cons_zero, List.getElem_cons_succ, List.setIfInBounds_toArray, List.set_cons_zero, List.set_cons_succ])
                      refine wpAnyH_take (i := 9) (v := ?_) rfl (by decide +kernel) (by decide +kernel) (by decide +kernel) (fun _ _ _ h => h) (Or.inl ⟨by rfl, ?hy⟩) hcur ?_
                      case hy =>
                        intro w1 hSw
                        replace hSw : Below W.heap.size W w1 := hSw
                        obtain ⟨x0, x1, x2, x3, x4, x5, x6, x7, -, -, -, -, -, -, -, -⟩ := nd_facts ((hS.out.call hSw).has 0 _ _ rfl).1
                        obtain ⟨y0, y1, y2, y3, y4, y5, y6, y7, -, -, -, -, -, -, -, -⟩ := nd_facts ((hS.out.call hSw).has 1 _ _ rfl).1
                        have cj := (hSw.cell (p := ⟨b, off + j, none⟩) HCJ.out.2).trans HCJ.out.1
                        go_simp
                        (try with_reducible rfl)
                      (try simp only [Act.put, List.getElem_toArray, List.getElem_cons_zero, List.getElem_cons_succ, List.setIfInBounds_toArray, List.set_cons_zero, List.set_cons_succ])
                      refine wpAnyH_take (i := 10) (v := ?_) rfl (by decide +kernel) (by decide +kernel) (by decide +kernel) (fun _ _ _ h => h) (Or.inl ⟨by rfl, ?hy⟩) hcur ?_
                      case hy =>
                        intro w1 hSw
                        replace hSw : Below W.heap.size W w1 := hSw
                        obtain ⟨x0, x1, x2, x3, x4, x5, x6, x7, -, -, -, -, -, -, -, -⟩ := nd_facts ((hS.out.call hSw).has 0 _ _ rfl).1
                        obtain ⟨y0, y1, y2, y3, y4, y5, y6, y7, -, -, -, -, -, -, -, -⟩ := nd_facts ((hS.out.call hSw).has 1 _ _ rfl).1
                        have cj := (hSw.cell (p := ⟨b, off + j, none⟩) HCJ.out.2).trans HCJ.out.1
                        go_simp
                        (try with_reducible rfl)
                      (try simp only [Act.put, List.getElem_toArray, List.getElem_cons_zero, List.getElem_cons_succ, List.setIfInBounds_toArray, List.set_cons_zero, List.set_cons_succ])
                      refine wpAnyH_ready (rs := [12]) (by decide +kernel) (by simp) ?_
                      refine AllReadyH.cons rfl (fun K hK => ?_) AllReadyH.nil
                      obtain ⟨e0, e1, e2, e3, e4, e5, e6, e7, f0, f1, f2, f3, f4, f5, f6, f7⟩ := nd_facts (hX.out.has 2 _ _ rfl).1
                      go_simp
                      have hO := set8_off X3 g2 (.int .i64 level) (.string nlow) (.string high) (.bool last) (.int .i64 next) (.slice A2 keys.length ca2) (.slice B2 vals.length cb2) (.slice C2 kids.length cc2)
                      have hl3 := lies_off HL2.out hO HNE.out.1 HNE.out.2.1 (.inr HNE.out.2.2)
                      replace hX := hX.out.store 2 rfl (.int .i64 level) (.string nlow) (.string high) (.bool last) (.int .i64 next) (.slice A2 keys.length ca2) (.slice B2 vals.length cb2) (.slice C2 kids.length cc2)
                      have hbw := hO.below hcur hcur.size (fun q hq e => by have := HG2.out; omega)
                      have HFI := And.intro hX (And.intro hl3 hbw)
                      simp only [set8] at HFI
                      replace HFI := Lib.hid HFI
                      clear e0 e1 e2 e3 e4 e5 e6 e7 f0 f1 f2 f3 f4 f5 f6 f7 hO hl3 hX hbw
                      refine hK.out _ _ HFI.out.2.2 (fun _ => ?_)
                      clear hK K
                      (try simp only [Act.put, List.getElem_toArray, List.getElem_cons_zero, List.getElem_cons_succ, List.setIfInBounds_toArray, List.set_cons_zero, List.set_cons_succ])
                      generalize World.setCell _ _ _ = X9 at HFI ⊢
                      replace hcur : Below W.heap.size W X9 := HFI.out.2.2
                      refine wpAnyH_take (i := 13) (v := ?_) rfl (by decide +kernel) (by decide +kernel) (by decide +kernel) (fun _ _ _ h => h) (Or.inl ⟨by rfl, ?hy⟩) hcur ?_
                      case hy =>
                        intro w1 hSw
                        replace hSw : Below W.heap.size W w1 := hSw
                        obtain ⟨x0, x1, x2, x3, x4, x5, x6, x7, -, -, -, -, -, -, -, -⟩ := nd_facts ((hS.out.call hSw).has 0 _ _ rfl).1
                        obtain ⟨y0, y1, y2, y3, y4, y5, y6, y7, -, -, -, -, -, -, -, -⟩ := nd_facts ((hS.out.call hSw).has 1 _ _ rfl).1
                        have cj := (hSw.cell (p := ⟨b, off + j, none⟩) HCJ.out.2).trans HCJ.out.1
                        go_simp
                        (try with_reducible rfl)
                      (try simp only [Act.put, List.getElem_toArray, List.getElem_cons_zero, List.getElem_cons_succ, List.setIfInBounds_toArray, List.set_cons_zero, List.set_cons_succ])
                      refine wpAnyH_done (by decide +kernel) ?_ _
                      go_wp2_with fail
                      go_meet
                      exact ⟨g2, A2, B2, C2, ca2, cb2, cc2, rfl, rfl, Lib.hid HFI.out⟩
                  case rest =>
                    clear hS HTT HCJ
                    obtain ⟨g2, A2, B2, C2, ca2, cb2, cc2, rfl, rfl, hX⟩ := hcut
                    have HL2 := Lib.hid hX.out.2.1
                    replace HL1 := Lib.hid (HL1.out.up hX.out.2.2)
                    have hS := Lib.hid hX.out.1
                    clear hX
                    simp only [ndCells] at hS
                    obtain ⟨x0, x1, x2, x3, x4, x5, x6, x7, f0, f1, f2, f3, f4, f5, f6, f7⟩ := nd_facts (hS.out.has 1 _ _ rfl).1
                    go_wp2_with fail
                    refine (Ret.to (ndcheck_any ⟨level3, nlow3, high3, last3, next3, keys3, vals3, kids3⟩ fan A1 B1 C1 ca1 cb1 cc1 _ HL1.out) (by rw [HQ.out])).mono ?_
                    rintro e wn ⟨rfl, hbn⟩
                    clear x0 x1 x2 x3 x4 x5 x6 x7 f0 f1 f2 f3 f4 f5 f6 f7
                    replace hS := Lib.hid (hS.out.call hbn)
                    replace HL2 := Lib.hid (HL2.out.up hbn)
                    clear hbn HL1
                    obtain ⟨x0, x1, x2, x3, x4, x5, x6, x7, f0, f1, f2, f3, f4, f5, f6, f7⟩ := nd_facts (hS.out.has 0 _ _ rfl).1
                    obtain ⟨y0, y1, y2, y3, y4, y5, y6, y7, q0, q1, q2, q3, q4, q5, q6, q7⟩ := nd_facts (hS.out.has 2 _ _ rfl).1
                    go_wp2_with fail
                    refine (HSM.out A2 B2 C2 ca2 cb2 cc2 _ HL2.out (H00.out.up hS.out.below)).mono ?_
                    rintro e wn ⟨rfl, hbn⟩
                    clear x0 x1 x2 x3 x4 x5 x6 x7 f0 f1 f2 f3 f4 f5 f6 f7
                    clear y0 y1 y2 y3 y4 y5 y6 y7 q0 q1 q2 q3 q4 q5 q6 q7
                    replace hS := Lib.hid (hS.out.call hbn)
                    clear hbn
                    go_wp2_with fail
                    go_meet
                    exact Lib.hid hS.out.head
              case rest =>
                clear hS HL1 HT
                have hS := hcut
                clear hcut
                go_wp2_with fail
                refine (lives12_any _).mono ?_
                rintro e wn ⟨rfl, hbn⟩
                go_wp2_with fail
                go_ret
                exact ⟨rfl, (hS.out.call hbn).below⟩
      · have hcb : (ndChk d fan != (0 : Int)) = true := by rw [bne_iff_ne]; exact hc
        generalize ndChk d fan = cv at HCk hcb
        clear hc
        obtain ⟨level, nlow, high, last, next, keys, vals, kids⟩ := d
        simp only [ndCells, List.nil_append] at hS HLi ⊢
        (try simp only [ndCells] at HCk)
        go_enter Try.func12, Try.ntmps12
        go_upto_region 1 with fail
        generalize w.alloc _ = W at hS ⊢
        obtain ⟨x0, x1, x2, x3, x4, x5, x6, x7, f0, f1, f2, f3, f4, f5, f6, f7⟩ := nd_facts (hS.out.has 0 _ _ rfl).1
        go_wp2_with fail
        refine (HLi.out _ (H00.out.up hS.out.below)).mono ?_
        rintro e wn ⟨rfl, hbn⟩
        clear x0 x1 x2 x3 x4 x5 x6 x7 f0 f1 f2 f3 f4 f5 f6 f7
        replace hS := Lib.hid (hS.out.call hbn)
        clear hbn
        obtain ⟨x0, x1, x2, x3, x4, x5, x6, x7, f0, f1, f2, f3, f4, f5, f6, f7⟩ := nd_facts (hS.out.has 0 _ _ rfl).1
        go_wp2_with fail
        refine (HCk.out _ (H00.out.up hS.out.below)).mono ?_
        first | refine (lives12_any _).mono ?_ | skip
        rintro e wn ⟨rfl, hbn⟩
        clear x0 x1 x2 x3 x4 x5 x6 x7 f0 f1 f2 f3 f4 f5 f6 f7
        replace hS := Lib.hid (hS.out.call hbn)
        clear hbn
        obtain ⟨x0, x1, x2, x3, x4, x5, x6, x7, f0, f1, f2, f3, f4, f5, f6, f7⟩ := nd_facts (hS.out.has 0 _ _ rfl).1
        go_wp2_with fail
        first
          | (go_ret; exact ⟨rfl, hS.out.below⟩)
          | (refine (lives12_any _).mono ?_; rintro e wn ⟨rfl, hbn⟩; go_wp2_with fail; go_ret; exact ⟨rfl, (hS.out.call hbn).below⟩)

theorem innerback_row (d : Nd) (A B C : Option Addr) (ca cb cc : Nat) (low : ByteArray) (kid i fan : Int) (w : World) (h : Lies w d A B C ca cb cc) (_ : Bnd d) (hk : low.size ≤ maxLen) (_ : -9223372036854775808 ≤ kid ∧ kid ≤ 9223372036854775807) (_ : -9223372036854775808 ≤ i ∧ i ≤ 9223372036854775807) (_ : -9223372036854775808 ≤ fan ∧ fan ≤ 9223372036854775807) :
    Calls Try.prog 12 #[.agg (ndCells d A B C ca cb cc), .string low, .int .i64 kid, .int .i64 i, .int .i64 fan] w (Ret (.bool true) w) := innerback_any d low kid i fan A B C ca cb cc w h hk

end Go.Proofs.Ytcoiadncennhpaa
