/- Contracts: the reference's Same of nodes. -/
import Derived.Test.YtcoiadncennhpaaNodeSame
namespace Go.Proofs.Ytcoiadncennhpaa
open Go.RowKit

theorem sameB_iff (a b : Nd) : sameB a b = true ↔ a.level = b.level ∧ a.low = b.low ∧ a.high = b.high ∧ a.last = b.last ∧ a.next = b.next ∧ a.keys = b.keys ∧ a.vals = b.vals ∧ a.kids = b.kids := by
  unfold sameB shapeB
  simp only [Bool.and_eq_true, decide_eq_true_iff]
  constructor
  · rintro ⟨⟨h1, h2, h3, h4, h5⟩, h6, h7, h8⟩; exact ⟨h1, h3, h4, h5, h2, h6, h7, h8⟩
  · rintro ⟨h1, h3, h4, h5, h2, h6, h7, h8⟩; exact ⟨⟨h1, h2, h3, h4, h5⟩, h6, h7, h8⟩

set_option maxRecDepth 100000 in
set_option maxHeartbeats 4000000 in
theorem refsameN_any (a b : Nd) (A B C A' B' C' : Option Addr) (ca cb cc ca' cb' cc' : Nat) (w : World) (h : Lies w a A B C ca cb cc) (k : Lies w b A' B' C' ca' cb' cc') :
    Calls Try.prog 23 #[.agg (ndCells a A B C ca cb cc), .agg (ndCells b A' B' C' ca' cb' cc')] w (Ret (.bool (sameB a b)) w) := by
  obtain ⟨hb1, hb2, HB, hsz⟩ := two_boxes w a b A B C A' B' C' ca cb cc ca' cb' cc' 26
  replace h := h.up HB
  replace k := k.up HB
  have hs := sameB_iff a b
  obtain ⟨level, low, high, last, next, keys, vals, kids⟩ := a
  obtain ⟨level', low', high', last', next', keys', vals', kids'⟩ := b
  simp only [ndCells] at hb1 hb2 HB hsz h k hs ⊢
  have Hs := Lib.hid hs
  clear hs
  by_cases c1 : level = level'
  · subst c1
    by_cases c2 : low = low'
    · subst c2
      by_cases c3 : high = high'
      · subst c3
        by_cases c4 : last = last'
        · subst c4
          by_cases c5 : next = next'
          · subst c5
            have t1 : (level != level) = false := by simp
            have t2 : (next != next) = false := by simp
            have t3 : (last != last) = false := by simp
            go_enter Try.func23, Try.ntmps23
            go_wp2_with fail
            generalize (w.alloc _).alloc _ = W at hb1 hb2 HB hsz h k ⊢
            obtain ⟨x0, x1, x2, x3, x4, x5, x6, x7⟩ := id hb1
            obtain ⟨y0, y1, y2, y3, y4, y5, y6, y7⟩ := id hb2
            simp only [] at x0 x1 x2 x3 x4 x5 x6 x7 y0 y1 y2 y3 y4 y5 y6 y7
            (try go_wp2_with fail)
            refine (refsameS_any A A' keys.length ca keys'.length ca' keys keys' _ h.keys k.keys h.la).mono ?_
            rintro e wn ⟨rfl, hbn⟩
            replace HB := below_of HB hbn
            replace hb1 := hb1.up hbn (by omega)
            replace hb2 := hb2.up hbn hsz
            replace hsz := Nat.lt_of_lt_of_le hsz hbn.size
            replace h := h.up hbn
            replace k := k.up hbn
            clear hbn
            obtain ⟨x0, x1, x2, x3, x4, x5, x6, x7⟩ := id hb1
            obtain ⟨y0, y1, y2, y3, y4, y5, y6, y7⟩ := id hb2
            simp only [] at x0 x1 x2 x3 x4 x5 x6 x7 y0 y1 y2 y3 y4 y5 y6 y7
            by_cases c6 : keys = keys'
            · rw [decide_eq_true c6]
              have C6 := Lib.hid c6
              clear c6
              by_cases c7 : vals.length = vals'.length
              · by_cases c8 : kids.length = kids'.length
                · have t7 : ((vals.length : Int) != (vals'.length : Int)) = false := by rw [bne_eq_false_iff_eq]; omega
                  have t8 : ((kids.length : Int) != (kids'.length : Int)) = false := by rw [bne_eq_false_iff_eq]; omega
                  have hlb := h.lb
                  have hlc := h.lc
                  have Hk := Lib.hid (And.intro h k)
                  have C7 := Lib.hid c7
                  have C8 := Lib.hid c8
                  simp only [] at hlb hlc
                  clear h k c7 c8
                  go_wp2_with fail
                  generalize wn = W at HB hb1 hb2 hsz Hk x0 x1 x2 x3 x4 x5 x6 x7 y0 y1 y2 y3 y4 y5 y6 y7 ⊢
                  go_loopw [5] (fun i wr => ∃ j : Nat, j ≤ vals.length ∧ i = .int .i64 j ∧ Hid (∀ q (hq : q < vals.length) (hq' : q < vals'.length), q < j → vals[q] = vals'[q]) ∧ Below W.heap.size W wr) (fun i _ => vals.length - (intOf i).toNat)
                  case atStart => exact ⟨0, Nat.zero_le _, rfl, fun q _ _ hq => absurd hq (Nat.not_lt_zero _), Below.refl _ _⟩
                  case round =>
                    obtain ⟨j, hj, rfl, hpre, hbel⟩ := hrel
                    obtain ⟨z0, z1, z2, z3, z4, z5, z6, z7⟩ := hb1.up hbel (by omega)
                    obtain ⟨v0, v1, v2, v3, v4, v5, v6, v7⟩ := hb2.up hbel hsz
                    simp only [] at z0 z1 z2 z3 z4 z5 z6 z7 v0 v1 v2 v3 v4 v5 v6 v7
                    by_cases hlt : j < vals.length
                    · obtain ⟨b, off, rfl, hb, hcell⟩ := ((Hk.out.1.up hbel).vals).spot (by simp only []; omega)
                      obtain ⟨b', off', rfl, hb', hcell'⟩ := ((Hk.out.2.up hbel).vals).spot (by simp only []; have := C7.out; omega)
                      have hjk : j < vals'.length := by have := C7.out; omega
                      have cj := hcell _ hlt
                      have cj' := hcell' _ hjk
                      have hjk' : (j : Int) < (vals'.length : Int) := by omega
                      simp only [] at cj cj'
                      clear hcell hcell'
                      by_cases he : vals[j] = vals'[j]
                      · have Ht := Lib.hid he
                        have ht : (vals[j] == vals'[j]) = true := by rw [beq_iff_eq]; exact he
                        clear he
                        go_wp2_with fail
                        go_quiet (fail)
                        go_wp2_with fail
                        go_roundw
                        case rel =>
                          refine ⟨j + 1, by omega, by go_num, fun q hq hq' hqj => ?_, below_drewN hbel _⟩
                          rcases Nat.lt_succ_iff_lt_or_eq.1 hqj with g | rfl
                          · exact hpre.out q hq hq' g
                          · exact Ht.out
                        case measure => simp [intOf]; omega
                      · have Ht := Lib.hid he
                        have ht : (vals[j] == vals'[j]) = false := by rw [beq_eq_false_iff_ne]; exact he
                        clear he
                        go_wp2_with fail
                        go_quiet (fail)
                        go_wp2_with fail
                        go_ret
                        refine ⟨ret_bool ?_, below_of HB (below_drewN hbel _)⟩
                        symm
                        rw [Bool.eq_false_iff]
                        intro g
                        have g2 := (Hs.out.1 g).2.2.2.2.2.2.1
                        (try simp only [] at g2)
                        subst g2
                        exact Ht.out rfl
                    · have HE := Lib.hid (show vals = vals' from List.ext_getElem C7.out (fun q hq hq' => hpre.out q hq hq' (by omega)))
                      clear hpre
                      have HV := HE
                      clear HE
                      replace HB := below_of HB hbel
                      replace hb1 := hb1.up hbel (by omega)
                      replace hb2 := hb2.up hbel hsz
                      replace hsz := Nat.lt_of_lt_of_le hsz hbel.size
                      replace Hk := Lib.hid (And.intro (Hk.out.1.up hbel) (Hk.out.2.up hbel))
                      clear hbel x0 x1 x2 x3 x4 x5 x6 x7 y0 y1 y2 y3 y4 y5 y6 y7
                      go_wp2_with fail
                      clear z0 z1 z2 z3 z4 z5 z6 z7 v0 v1 v2 v3 v4 v5 v6 v7
                      generalize wr = W at HB hb1 hb2 hsz Hk ⊢
                      go_loopw [6] (fun i wr => ∃ j : Nat, j ≤ kids.length ∧ i = .int .i64 j ∧ Hid (∀ q (hq : q < kids.length) (hq' : q < kids'.length), q < j → kids[q] = kids'[q]) ∧ Below W.heap.size W wr) (fun i _ => kids.length - (intOf i).toNat)
                      case atStart => exact ⟨0, Nat.zero_le _, rfl, fun q _ _ hq => absurd hq (Nat.not_lt_zero _), Below.refl _ _⟩
                      case round =>
                        obtain ⟨j, hj, rfl, hpre, hbel⟩ := hrel
                        obtain ⟨z0, z1, z2, z3, z4, z5, z6, z7⟩ := hb1.up hbel (by omega)
                        obtain ⟨v0, v1, v2, v3, v4, v5, v6, v7⟩ := hb2.up hbel hsz
                        simp only [] at z0 z1 z2 z3 z4 z5 z6 z7 v0 v1 v2 v3 v4 v5 v6 v7
                        by_cases hlt : j < kids.length
                        · obtain ⟨b, off, rfl, hb, hcell⟩ := ((Hk.out.1.up hbel).kids).spot (by simp only []; omega)
                          obtain ⟨b', off', rfl, hb', hcell'⟩ := ((Hk.out.2.up hbel).kids).spot (by simp only []; have := C8.out; omega)
                          have hjk : j < kids'.length := by have := C8.out; omega
                          have cj := hcell _ hlt
                          have cj' := hcell' _ hjk
                          have hjk' : (j : Int) < (kids'.length : Int) := by omega
                          simp only [] at cj cj'
                          clear hcell hcell'
                          by_cases he : kids[j] = kids'[j]
                          · have Ht := Lib.hid he
                            have ht : (kids[j] == kids'[j]) = true := by rw [beq_iff_eq]; exact he
                            clear he
                            go_wp2_with fail
                            go_quiet (fail)
                            go_wp2_with fail
                            go_roundw
                            case rel =>
                              refine ⟨j + 1, by omega, by go_num, fun q hq hq' hqj => ?_, below_drewN hbel _⟩
                              rcases Nat.lt_succ_iff_lt_or_eq.1 hqj with g | rfl
                              · exact hpre.out q hq hq' g
                              · exact Ht.out
                            case measure => simp [intOf]; omega
                          · have Ht := Lib.hid he
                            have ht : (kids[j] == kids'[j]) = false := by rw [beq_eq_false_iff_ne]; exact he
                            clear he
                            go_wp2_with fail
                            go_quiet (fail)
                            go_wp2_with fail
                            go_ret
                            refine ⟨ret_bool ?_, below_of HB (below_drewN hbel _)⟩
                            symm
                            rw [Bool.eq_false_iff]
                            intro g
                            have g2 := (Hs.out.1 g).2.2.2.2.2.2.2
                            (try simp only [] at g2)
                            subst g2
                            exact Ht.out rfl
                        · have HE := Lib.hid (show kids = kids' from List.ext_getElem C8.out (fun q hq hq' => hpre.out q hq hq' (by omega)))
                          clear hpre
                          go_wp2_with fail
                          go_ret
                          exact ⟨ret_bool (Hs.out.2 ⟨trivial, trivial, trivial, trivial, trivial, C6.out, HV.out, HE.out⟩).symm, below_of HB hbel⟩
                · have HQ := Lib.hid (Bool.eq_false_iff.2 (fun g => (fun q => c8 (congrArg List.length q.2.2.2.2.2.2.2)) (Hs.out.1 g)))
                  (have t7 : ((vals.length : Int) != (vals'.length : Int)) = false := by rw [bne_eq_false_iff_eq]; omega)
                  (have t8 : ((kids.length : Int) != (kids'.length : Int)) = true := by simp; omega)
                  go_wp2_with fail
                  go_ret
                  exact ⟨ret_bool HQ.out.symm, HB⟩
              · have HQ := Lib.hid (Bool.eq_false_iff.2 (fun g => (fun q => c7 (congrArg List.length q.2.2.2.2.2.2.1)) (Hs.out.1 g)))
                skip
                (have t7 : ((vals.length : Int) != (vals'.length : Int)) = true := by simp; omega)
                go_wp2_with fail
                go_ret
                exact ⟨ret_bool HQ.out.symm, HB⟩
            · rw [decide_eq_false c6]
              have HQ := Lib.hid (Bool.eq_false_iff.2 (fun g => (fun q => c6 q.2.2.2.2.2.1) (Hs.out.1 g)))
              skip
              skip
              go_wp2_with fail
              go_ret
              exact ⟨ret_bool HQ.out.symm, HB⟩
          · have t1 : (level != level) = false := by simp
            have t3 : (last != last) = false := by simp
            have t5 : (next != next') = true := by simp [c5]
            have HQ := Lib.hid (Bool.eq_false_iff.2 (fun g => (fun q => c5 q.2.2.2.2.1) (Hs.out.1 g)))
            go_enter Try.func23, Try.ntmps23
            go_wp2_with fail
            generalize (w.alloc _).alloc _ = W at hb1 hb2 HB hsz h k ⊢
            obtain ⟨x0, x1, x2, x3, x4, x5, x6, x7⟩ := id hb1
            obtain ⟨y0, y1, y2, y3, y4, y5, y6, y7⟩ := id hb2
            simp only [] at x0 x1 x2 x3 x4 x5 x6 x7 y0 y1 y2 y3 y4 y5 y6 y7
            (try go_wp2_with fail)
            go_ret
            exact ⟨ret_bool HQ.out.symm, HB⟩
        · have t1 : (level != level) = false := by simp
          have t4 : (last != last') = true := by simp [c4]
          have HQ := Lib.hid (Bool.eq_false_iff.2 (fun g => (fun q => c4 q.2.2.2.1) (Hs.out.1 g)))
          go_enter Try.func23, Try.ntmps23
          go_wp2_with fail
          generalize (w.alloc _).alloc _ = W at hb1 hb2 HB hsz h k ⊢
          obtain ⟨x0, x1, x2, x3, x4, x5, x6, x7⟩ := id hb1
          obtain ⟨y0, y1, y2, y3, y4, y5, y6, y7⟩ := id hb2
          simp only [] at x0 x1 x2 x3 x4 x5 x6 x7 y0 y1 y2 y3 y4 y5 y6 y7
          (try go_wp2_with fail)
          go_ret
          exact ⟨ret_bool HQ.out.symm, HB⟩
      · have t1 : (level != level) = false := by simp
        have t3 : (high.toList == high'.toList) = false := by rw [txt_eq]; exact decide_eq_false c3
        have HQ := Lib.hid (Bool.eq_false_iff.2 (fun g => (fun q => c3 q.2.2.1) (Hs.out.1 g)))
        go_enter Try.func23, Try.ntmps23
        go_wp2_with fail
        generalize (w.alloc _).alloc _ = W at hb1 hb2 HB hsz h k ⊢
        obtain ⟨x0, x1, x2, x3, x4, x5, x6, x7⟩ := id hb1
        obtain ⟨y0, y1, y2, y3, y4, y5, y6, y7⟩ := id hb2
        simp only [] at x0 x1 x2 x3 x4 x5 x6 x7 y0 y1 y2 y3 y4 y5 y6 y7
        (try go_wp2_with fail)
        go_ret
        exact ⟨ret_bool HQ.out.symm, HB⟩
    · have t1 : (level != level) = false := by simp
      have t2 : (low.toList == low'.toList) = false := by rw [txt_eq]; exact decide_eq_false c2
      have HQ := Lib.hid (Bool.eq_false_iff.2 (fun g => (fun q => c2 q.2.1) (Hs.out.1 g)))
      go_enter Try.func23, Try.ntmps23
      go_wp2_with fail
      generalize (w.alloc _).alloc _ = W at hb1 hb2 HB hsz h k ⊢
      obtain ⟨x0, x1, x2, x3, x4, x5, x6, x7⟩ := id hb1
      obtain ⟨y0, y1, y2, y3, y4, y5, y6, y7⟩ := id hb2
      simp only [] at x0 x1 x2 x3 x4 x5 x6 x7 y0 y1 y2 y3 y4 y5 y6 y7
      (try go_wp2_with fail)
      go_ret
      exact ⟨ret_bool HQ.out.symm, HB⟩
  · have t1 : (level != level') = true := by simp [c1]
    have HQ := Lib.hid (Bool.eq_false_iff.2 (fun g => (fun q => c1 q.1) (Hs.out.1 g)))
    go_enter Try.func23, Try.ntmps23
    go_wp2_with fail
    generalize (w.alloc _).alloc _ = W at hb1 hb2 HB hsz h k ⊢
    obtain ⟨x0, x1, x2, x3, x4, x5, x6, x7⟩ := id hb1
    obtain ⟨y0, y1, y2, y3, y4, y5, y6, y7⟩ := id hb2
    simp only [] at x0 x1 x2 x3 x4 x5 x6 x7 y0 y1 y2 y3 y4 y5 y6 y7
    (try go_wp2_with fail)
    go_ret
    exact ⟨ret_bool HQ.out.symm, HB⟩

end Go.Proofs.Ytcoiadncennhpaa
