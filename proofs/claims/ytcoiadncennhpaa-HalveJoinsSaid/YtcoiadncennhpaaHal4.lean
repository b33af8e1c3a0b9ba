/- Contracts of package halve and its reference: neighbours. -/
import Derived.Test.YtcoiadncennhpaaHal3
namespace Go.Proofs.Ytcoiadncennhpaa
open Go.RowKit

theorem apart_yes {a b : Nd} (h : ∀ q (hq : q < b.kids.length), b.kids[q] ∉ a.kids) : apartB a b = true := by
  unfold apartB
  rw [List.all_eq_true]
  intro k hk
  obtain ⟨q, hq, rfl⟩ := List.getElem_of_mem hk
  rw [decide_eq_false (h q hq)]
  rfl
theorem apart_no {a b : Nd} {q p : Nat} (hq : q < b.kids.length) (hp : p < a.kids.length) (e : b.kids[q] = a.kids[p]) : apartB a b = false := by
  cases h : apartB a b
  · rfl
  · unfold apartB at h
    rw [List.all_eq_true] at h
    have := h _ (List.getElem_mem hq)
    rw [e, decide_eq_true (List.getElem_mem hp)] at this
    cases this
theorem not_mem_of {zs : List Int} {k : Int} (h : ∀ q (hq : q < zs.length), k ≠ zs[q]) : k ∉ zs := by
  intro hm
  obtain ⟨q, hq, e⟩ := List.getElem_of_mem hm
  exact h q hq e.symm

set_option maxRecDepth 100000 in
set_option maxHeartbeats 4000000 in
theorem neighbours_any (a b : Nd) (A B C A' B' C' : Option Addr) (ca cb cc ca' cb' cc' : Nat) (w : World) (h : Lies w a A B C ca cb cc) (k : Lies w b A' B' C' ca' cb' cc') :
    Calls Try.prog 101 #[.agg (ndCells a A B C ca cb cc), .agg (ndCells b A' B' C' ca' cb' cc')] w (Ret (.bool (neighB a b)) w) := by
  have hS := Lib.hid (Sx.start2 w (.cells (ndCells a A B C ca cb cc) 26) (.cells (ndCells b A' B' C' ca' cb' cc') 26))
  have HA := Lib.hid h
  have HB := Lib.hid k
  have HSa := Lib.hid (fun W hW => halsound_any a A B C ca cb cc W hW)
  have hpb : neighB a b = (soundB a 64 && (soundB b 64 && (decide (a.level = b.level) && (!a.last && (decide (a.high = b.low) && apartB a b))))) := rfl
  have HY := Lib.hid (fun (q : ∀ q (hq : q < b.kids.length), b.kids[q] ∉ a.kids) => apart_yes q)
  have HN := Lib.hid (fun (q p : Nat) (hq : q < b.kids.length) (hp : p < a.kids.length) (e : b.kids[q] = a.kids[p]) => apart_no hq hp e)
  have HSb := Lib.hid (fun W hW => halsound_any b A' B' C' ca' cb' cc' W hW)
  clear h k
  generalize neighB a b = pb at hpb ⊢
  generalize apartB a b = ap at hpb HY HN
  generalize soundB a 64 = sa at HSa hpb
  generalize soundB b 64 = sb at HSb hpb
  have HPB := Lib.hid hpb
  clear hpb
  obtain ⟨level, nlow, high, last, next, keys, vals, kids⟩ := a
  obtain ⟨level', nlow', high', last', next', keys', vals', kids'⟩ := b
  simp only [] at HPB HY HN
  simp only [ndCells] at hS HSa HSb ⊢
  go_enter Try.func101, Try.ntmps101
  go_upto_region 1 with fail
  generalize (w.alloc _).alloc _ = W at hS ⊢
  obtain ⟨x0, x1, x2, x3, x4, x5, x6, x7, f0, f1, f2, f3, f4, f5, f6, f7⟩ := nd_facts (hS.out.has 0 _ _ rfl).1
  obtain ⟨y0, y1, y2, y3, y4, y5, y6, y7, q0, q1, q2, q3, q4, q5, q6, q7⟩ := nd_facts (hS.out.has 1 _ _ rfl).1
  go_wp2_with fail
  refine (HSa.out _ (HA.out.up hS.out.below)).mono ?_
  rintro e wn ⟨rfl, hbn⟩
  clear x0 x1 x2 x3 x4 x5 x6 x7 f0 f1 f2 f3 f4 f5 f6 f7
  clear y0 y1 y2 y3 y4 y5 y6 y7 q0 q1 q2 q3 q4 q5 q6 q7
  replace hS := Lib.hid (hS.out.call hbn)
  clear hbn
  obtain ⟨x0, x1, x2, x3, x4, x5, x6, x7, f0, f1, f2, f3, f4, f5, f6, f7⟩ := nd_facts (hS.out.has 0 _ _ rfl).1
  obtain ⟨y0, y1, y2, y3, y4, y5, y6, y7, q0, q1, q2, q3, q4, q5, q6, q7⟩ := nd_facts (hS.out.has 1 _ _ rfl).1
  cases sa
  · go_wp2_with fail
    go_ret
    exact ⟨ret_bool (by rw [HPB.out]; rfl), hS.out.below⟩
  · go_wp2_with fail
    refine (HSb.out _ (HB.out.up hS.out.below)).mono ?_
    rintro e wn ⟨rfl, hbn⟩
    clear x0 x1 x2 x3 x4 x5 x6 x7 f0 f1 f2 f3 f4 f5 f6 f7
    clear y0 y1 y2 y3 y4 y5 y6 y7 q0 q1 q2 q3 q4 q5 q6 q7
    replace hS := Lib.hid (hS.out.call hbn)
    clear hbn
    obtain ⟨x0, x1, x2, x3, x4, x5, x6, x7, f0, f1, f2, f3, f4, f5, f6, f7⟩ := nd_facts (hS.out.has 0 _ _ rfl).1
    obtain ⟨y0, y1, y2, y3, y4, y5, y6, y7, q0, q1, q2, q3, q4, q5, q6, q7⟩ := nd_facts (hS.out.has 1 _ _ rfl).1
    clear HSa HSb
    cases sb
    · go_wp2_with fail
      go_ret
      exact ⟨ret_bool (by rw [HPB.out]; rfl), hS.out.below⟩
    · by_cases h1 : level = level'
      · have h1b : (level != level') = false := by simpa using h1
        have H1 := Lib.hid h1
        clear h1
        cases last
        · by_cases h2 : high = nlow'
          · have h2c : (high.toList == nlow'.toList) = true := by rw [txt_eq]; exact decide_eq_true h2
            have h2b : (high.toList != nlow'.toList) = false := by
              rw [bne, h2c]; rfl
            have h2d : high.toList = nlow'.toList := by rw [h2]
            have H2 := Lib.hid h2
            clear h2
            have hlc : kids.length ≤ 9223372036854775807 := HA.out.lc
            have hlc' : kids'.length ≤ 9223372036854775807 := HB.out.lc
            have hk : RdI _ C kids.length kids := (HA.out.up hS.out.below).kids
            have hk' : RdI _ C' kids'.length kids' := (HB.out.up hS.out.below).kids
            have HPR := Lib.hid (show pb = ap by rw [HPB.out, decide_eq_true H1.out, decide_eq_true H2.out]; rfl)
            clear HPB H1 H2
            go_wp2_with fail
            go_loop [6, 38] (fun _ i => ∃ j : Nat, j ≤ kids'.length ∧ i = .int .i64 j ∧ Hid (∀ (q : Nat) (hq : q < kids'.length), q < j → kids'[q] ∉ kids)) (fun _ i => kids'.length - (intOf i).toNat)
            case atStart => exact ⟨0, Nat.zero_le _, rfl, fun q _ hq => absurd hq (Nat.not_lt_zero _)⟩
            case round =>
              obtain ⟨j, hj, rfl, hpre⟩ := hrel
              by_cases hlt : j < kids'.length
              · obtain ⟨b', off', rfl, hbB', hc'⟩ := hk'.spot (by omega)
                have dj := hc' j hlt
                have HNX := Lib.hid (fun (q1 : kids'[j] ∉ kids) (q : Nat) (hq : q < kids'.length) (hqj : q < j + 1) => show kids'[q] ∉ kids from by
                  rcases Nat.lt_succ_iff_lt_or_eq.1 hqj with g | rfl
                  · exact hpre.out q hq g
                  · exact q1)
                have HNj := Lib.hid (fun (p : Nat) (hp : p < kids.length) (e : kids'[j] = kids[p]) => HN.out j p hlt hp e)
                clear hc' hpre
                generalize kids'[j] = kj at dj HNX HNj
                go_upto_region 6 with fail
                go_wp2_with fail
                go_loop [8, 45] (fun _ i => ∃ p : Nat, p ≤ kids.length ∧ i = .int .i64 p ∧ Hid (∀ (q : Nat) (hq : q < kids.length), q < p → kj ≠ kids[q])) (fun _ i => kids.length - (intOf i).toNat)
                case atStart => exact ⟨0, Nat.zero_le _, rfl, fun q _ hq => absurd hq (Nat.not_lt_zero _)⟩
                case round =>
                  obtain ⟨p, hp, rfl, hpre⟩ := hrel
                  by_cases hlt2 : p < kids.length
                  · obtain ⟨b, off, rfl, hbB, hc⟩ := hk.spot (by omega)
                    have cj := hc p hlt2
                    clear hc
                    by_cases hs : kj = kids[p]
                    · have HF := Lib.hid (HNj.out p hlt2 hs)
                      have hs2 : (kj == kids[p]) = true := beq_iff_eq.2 hs
                      clear hs
                      generalize kids[p] = kp at cj hs2
                      go_wp2_with fail
                      go_ret
                      exact ⟨ret_bool (by rw [HPR.out, HF.out]), hS.out.below⟩
                    · have HE := Lib.hid (show ∀ (q : Nat) (hq : q < kids.length), q < p + 1 → kj ≠ kids[q] from fun q hq hqp => by
                        rcases Nat.lt_succ_iff_lt_or_eq.1 hqp with g | rfl
                        · exact hpre.out q hq g
                        · exact hs)
                      have hs2 : (kj == kids[p]) = false := by simpa using hs
                      clear hs
                      generalize kids[p] = kp at cj hs2
                      go_wp2_with fail
                      go_round
                      case rel => exact ⟨p + 1, by omega, by go_num, HE.out⟩
                      case measure => simp [intOf]; omega
                  · have HE := Lib.hid (HNX.out (not_mem_of fun q hq => hpre.out q hq (by omega)))
                    go_wp2_with fail
                    go_round
                    case rel => exact ⟨j + 1, by omega, by go_num, HE.out⟩
                    case measure => simp [intOf]; omega
              · have HF := Lib.hid (HY.out fun q hq => hpre.out q hq (by omega))
                go_wp2_with fail
                go_ret
                exact ⟨ret_bool (by rw [HPR.out, HF.out]), hS.out.below⟩
          · have h2c : (high.toList == nlow'.toList) = false := by rw [txt_eq]; exact decide_eq_false h2
            have h2b : (high.toList != nlow'.toList) = true := by
              rw [bne, h2c]; rfl
            have h2d : ¬ high.toList = nlow'.toList := by simpa using h2c
            have H2 := Lib.hid h2
            clear h2
            go_wp2_with fail
            go_ret
            exact ⟨ret_bool (by rw [HPB.out, decide_eq_false H2.out]; simp), hS.out.below⟩
        · go_wp2_with fail
          go_ret
          exact ⟨ret_bool (by rw [HPB.out]; simp), hS.out.below⟩
      · have h1b : (level != level') = true := by simpa using h1
        have H1 := Lib.hid h1
        clear h1
        go_wp2_with fail
        go_ret
        exact ⟨ret_bool (by rw [HPB.out, decide_eq_false H1.out]; rfl), hS.out.below⟩

end Go.Proofs.Ytcoiadncennhpaa
