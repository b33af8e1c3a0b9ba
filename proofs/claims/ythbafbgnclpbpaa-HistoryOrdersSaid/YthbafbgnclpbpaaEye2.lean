/- Contracts of package sip: the eye, two. -/
import Derived.Test.YthbafbgnclpbpaaEye
namespace Go.Proofs.Ythbafbgnclpbpaa
open Go.RowKit

theorem u8s_at (l : List Nat) (k : Nat) (h : k < l.length) : (u8s l)[k]? = some (.int .u8 ((l[k] : Nat) : Int)) := by simp [u8s, h]

/-- The eye goes on behind k bytes. -/
theorem eye_cut {w : World} {ep : Nat} {sb : Option Nat} {l : List Nat} {A : Option Addr} {c k : Nat} {f : Int} (hne : sb ≠ some ep) (hb : w.heap[ep]? = some (.cells #[.slice A l.length c, .int .i64 f] 55 (0, 0)))
    (hr : 0 < l.length → ∃ b off, A = some ⟨b, off, none⟩ ∧ sb = some b ∧ b < w.heap.size ∧ ∀ (j : Nat) (u : Value), (u8s l)[j]? = some u → w.cell? ⟨b, off + j, none⟩ = some u) (hk : k ≤ l.length) (A' : Option Addr) (C' : Nat) (hC : l.length - k ≤ C') (hA : 0 < l.length - k → A' = A.map (·.add k)) :
    EyeAt (w.setCell ⟨ep, 0, none⟩ (.slice A' (l.length - k) C')) ep sb (l.drop k) f ∧ Off (fun q => q = ep) w (w.setCell ⟨ep, 0, none⟩ (.slice A' (l.length - k) C')) := by
  have ho := Off.of_setCell w ⟨ep, 0, none⟩ (.slice A' (l.length - k) C')
  refine ⟨⟨hne, A', C', ?_, by rw [List.length_drop]; exact hC, fun h => ?_⟩, ho⟩
  · simp [World.setCell, Array.getElem?_modify, hb]
  · rw [List.length_drop] at h
    obtain ⟨b, off, e, hs, hbl, hcell⟩ := hr (by omega)
    refine ⟨b, off + k, by rw [hA h, e]; simp [Addr.add_lit], hs, Nat.lt_of_lt_of_le hbl ho.size, fun j u hu => ?_⟩
    rw [ho.cell (p := ⟨b, off + k + j, none⟩) hbl (fun h => hne (by rw [hs]; exact congrArg some h)), Nat.add_assoc]
    exact hcell (k + j) u (by rw [← hu, u8s, u8s, List.map_drop, List.getElem?_drop])

set_option maxRecDepth 100000 in
set_option maxHeartbeats 2000000 in
theorem eyedigits_any (ep : Nat) (sb : Option Nat) (l : List Nat) (f : Int) (w : World) (h : EyeAt w ep sb l f) (hx : ∀ x ∈ l, x < 256) (hl : l.length ≤ 1000000) :
    Calls Try.prog 105 #[.pointer (some ⟨ep, 0, none⟩)] w (EyeTo (.tuple #[.int .u64 ((eyeDig l f).1 : Int), .bool (eyeDig l f).2.1]) w ep sb (eyeDig l f).2.2.1 (eyeDig l f).2.2.2) := by
  obtain ⟨hne, A, c, hb, hc, hr⟩ := id h
  obtain ⟨c0, c1, z0, z1⟩ := eye_set hb
  by_cases hf : f = 0
  · subst hf
    have H := Lib.hid (And.intro h (And.intro hne (And.intro hb (And.intro hc (And.intro hr hx)))))
    clear h hne hb hc hr hx
    go_enter Try.func105, Try.ntmps105
    go_wp2_with fail
    go_loopw [4, 5, 6, 16] (fun n _ _ i wr => ∃ (j acc : Nat), i = .int .i64 j ∧ n = .int .u64 acc ∧ wr = w ∧ Hid (j ≤ 9 ∧ j ≤ l.length ∧ acc < 128 ^ j ∧ scan 0 0 l = scan j acc (l.drop j))) (fun _ _ _ i _ => 10 - (intOf i).toNat)
    case atStart => exact ⟨0, 0, rfl, rfl, rfl, by omega, by omega, by simp, by simp⟩
    case round =>
      obtain ⟨j, acc, rfl, rfl, rfl, HJ⟩ := hrel
      have hj10 : (j : Int) < 10 := by have := HJ.out; omega
      by_cases hend : j = l.length
      · have hend' : ((j : Int) == (l.length : Int)) = true := by simp [hend]
        have e : eyeDig l 0 = (0, false, [], 11) := by
          have h := HJ.out.2.2.2
          rw [hend, List.drop_length] at h
          unfold eyeDig
          rw [if_pos rfl, h]; rfl
        have HE := Lib.hid e
        clear e
        go_wp2_with fail
        refine (eyewrong_any ep sb l 0 _ _ H.out.1).mono ?_
        rintro e w2 ⟨rfl, hE, hO⟩
        have HEO := Lib.hid (And.intro hE hO)
        clear hE hO
        go_wp2_with fail
        go_ret2
        rw [HE.out]
        exact ⟨rfl, HEO.out⟩
      · have hjl : j < l.length := by have := HJ.out; omega
        have hend' : ((j : Int) == (l.length : Int)) = false := by rw [beq_eq_false_iff_ne]; omega
        obtain ⟨b, off, rfl, hs, hbl, hcell⟩ := H.out.2.2.2.2.1 (by omega)
        have Hs := Lib.hid hs
        have hcj := hcell j _ (u8s_at l j hjl)
        clear hs
        have hxj := H.out.2.2.2.2.2 _ (List.getElem_mem hjl)
        have hdr : scan 0 0 l = scan j acc (l[j] :: l.drop (j + 1)) := by rw [HJ.out.2.2.2, List.drop_eq_getElem_cons hjl]
        clear hcell
        generalize l[j] = x at hcj hxj hdr
        have HD := Lib.hid hdr
        have HX := Lib.hid hxj
        clear hdr hxj
        have s1 : IntKind.i64.wrap (7 * (j : Int)) = 7 * (j : Int) := IntWalk.i64_in _ (by omega)
        have s2 : 0 ≤ 7 * (j : Int) := by omega
        have s3 : (j : Int) < (l.length : Int) := by omega
        have sA := and_u8 x HX.out
        by_cases hbig : 128 ≤ x ∧ j < 9
        · have s4 : (128 : Int) ≤ (x : Int) := by omega
          have s5 : (j : Int) < 9 := by omega
          go_wp2_with fail
          go_roundw
          case rel =>
            refine ⟨j + 1, acc + (x % 128) * 128 ^ j, by go_num, ?_, trivial, by omega, by omega, ?_, ?_⟩
            · exact congrArg (Value.int .u64) (or_shl (x := x % 128) HJ.out.2.2.1 (by omega) HJ.out.1 (by omega))
            · have := HJ.out.2.2.1
              rw [Nat.pow_succ]
              have h2 : (x % 128) * 128 ^ j ≤ 127 * 128 ^ j := Nat.mul_le_mul_right _ (by omega)
              omega
            · rw [HD.out, scan, if_pos hbig]
          case measure => simp [intOf]; omega
        · by_cases hbad : (0 < j ∧ x = 0) ∨ (j = 9 ∧ 1 < x)
          · have e : eyeDig l 0 = (0, false, [], 10) := by
              unfold eyeDig
              rw [if_pos rfl, HD.out, scan, if_neg hbig, if_pos hbad]
            have HE := Lib.hid e
            clear e
            rcases (show (128 ≤ x ∧ j = 9) ∨ (x < 128 ∧ 0 < j ∧ x = 0) ∨ (x < 128 ∧ x ≠ 0 ∧ j = 9 ∧ 1 < x) from by have := HJ.out; omega) with ⟨q1, q2⟩ | ⟨q1, q2, q3⟩ | ⟨q1, q2, q3, q4⟩
            · have t1 : (128 : Int) ≤ (x : Int) := by omega
              have t2 : ¬ (j : Int) < 9 := by omega
              have t3 : ((x : Int) == 0) = false := by rw [beq_eq_false_iff_ne]; omega
              have t4 : ((j : Int) == 9) = true := by rw [beq_iff_eq]; omega
              have t5 : (1 : Int) < (x : Int) := by omega
              have t6 : (0 : Int) < (j : Int) := by omega
              clear q1 q2 hbad hbig
              go_wp2_with fail
              refine (eyewrong_any ep sb l 0 _ _ H.out.1).mono ?_
              rintro e w2 ⟨rfl, hE, hO⟩
              have HEO := Lib.hid (And.intro hE hO)
              clear hE hO
              go_wp2_with fail
              go_ret2
              rw [HE.out]
              exact ⟨rfl, HEO.out⟩
            · have t1 : ¬ (128 : Int) ≤ (x : Int) := by omega
              have t3 : ((x : Int) == 0) = true := by rw [beq_iff_eq]; omega
              have t6 : (0 : Int) < (j : Int) := by omega
              clear q1 q2 q3 hbad hbig
              go_wp2_with fail
              refine (eyewrong_any ep sb l 0 _ _ H.out.1).mono ?_
              rintro e w2 ⟨rfl, hE, hO⟩
              have HEO := Lib.hid (And.intro hE hO)
              clear hE hO
              go_wp2_with fail
              go_ret2
              rw [HE.out]
              exact ⟨rfl, HEO.out⟩
            · have t1 : ¬ (128 : Int) ≤ (x : Int) := by omega
              have t3 : ((x : Int) == 0) = false := by rw [beq_eq_false_iff_ne]; omega
              have t4 : ((j : Int) == 9) = true := by rw [beq_iff_eq]; omega
              have t5 : (1 : Int) < (x : Int) := by omega
              have t6 : (0 : Int) < (j : Int) := by omega
              clear q1 q2 q3 q4 hbad hbig
              go_wp2_with fail
              refine (eyewrong_any ep sb l 0 _ _ H.out.1).mono ?_
              rintro e w2 ⟨rfl, hE, hO⟩
              have HEO := Lib.hid (And.intro hE hO)
              clear hE hO
              go_wp2_with fail
              go_ret2
              rw [HE.out]
              exact ⟨rfl, HEO.out⟩
          · have hx128 : x < 128 := by have := HJ.out; omega
            have e : eyeDig l 0 = (acc + (x % 128) * 128 ^ j, true, l.drop (j + 1), 0) := by
              unfold eyeDig
              rw [if_pos rfl, HD.out, scan, if_neg hbig, if_neg hbad]
            have HE := Lib.hid e
            have hv : bits .or .u64 (acc : Int) (IntKind.u64.wrap ((x : Int) % 128 * 2 ^ (7 * j))) = ((acc + x % 128 * 128 ^ j : Nat) : Int) := or_shl (x := x % 128) HJ.out.2.2.1 (by omega) HJ.out.1 (by omega)
            have HV := Lib.hid hv
            have t1 : ¬ (128 : Int) ≤ (x : Int) := by omega
            have g1 : IntKind.i64.wrap ((j : Int) + 1) = (j : Int) + 1 := IntWalk.i64_in _ (by omega)
            have g2 : 0 ≤ (j : Int) + 1 := by omega
            have g3 : ((j : Int) + 1).toNat = j + 1 := by omega
            have g4 : (j : Int) + 1 ≤ (l.length : Int) := by omega
            have g5 : (l.length : Int) ≤ (c : Int) := by have := H.out.2.2.2.1; omega
            clear e hv
            rcases (show j = 0 ∨ (0 < j ∧ x ≠ 0 ∧ j ≠ 9) ∨ (0 < j ∧ x ≠ 0 ∧ j = 9 ∧ ¬ 1 < x) from by have := HJ.out; omega) with q1 | ⟨q1, q2, q3⟩ | ⟨q1, q2, q3, q4⟩
            · have t6 : ¬ (0 : Int) < (j : Int) := by omega
              have t4 : ((j : Int) == 9) = false := by rw [beq_eq_false_iff_ne]; omega
              clear q1 hbad hbig
              by_cases hcc : c = j + 1
              · go_wp2_with fail
                go_ret2
                rw [HE.out]
                refine ⟨?_, eye_cut (k := j + 1) H.out.2.1 H.out.2.2.1 H.out.2.2.2.2.1 hjl _ _ (by omega) (fun h => absurd h (by omega))⟩
                show _ = Ending.returned (.tuple #[.int .u64 ((acc + x % 128 * 128 ^ j : Nat) : Int), .bool true])
                rw [← HV.out]
                rfl
              · go_wp2_with fail
                go_ret2
                rw [HE.out]
                refine ⟨?_, eye_cut (k := j + 1) H.out.2.1 H.out.2.2.1 H.out.2.2.2.2.1 hjl _ _ (by have := H.out.2.2.2.1; omega) (fun _ => rfl)⟩
                show _ = Ending.returned (.tuple #[.int .u64 ((acc + x % 128 * 128 ^ j : Nat) : Int), .bool true])
                rw [← HV.out]
                rfl
            · have t6 : (0 : Int) < (j : Int) := by omega
              have t3 : ((x : Int) == 0) = false := by rw [beq_eq_false_iff_ne]; omega
              have t4 : ((j : Int) == 9) = false := by rw [beq_eq_false_iff_ne]; omega
              clear q1 q2 q3 hbad hbig
              by_cases hcc : c = j + 1
              · go_wp2_with fail
                go_ret2
                rw [HE.out]
                refine ⟨?_, eye_cut (k := j + 1) H.out.2.1 H.out.2.2.1 H.out.2.2.2.2.1 hjl _ _ (by omega) (fun h => absurd h (by omega))⟩
                show _ = Ending.returned (.tuple #[.int .u64 ((acc + x % 128 * 128 ^ j : Nat) : Int), .bool true])
                rw [← HV.out]
                rfl
              · go_wp2_with fail
                go_ret2
                rw [HE.out]
                refine ⟨?_, eye_cut (k := j + 1) H.out.2.1 H.out.2.2.1 H.out.2.2.2.2.1 hjl _ _ (by have := H.out.2.2.2.1; omega) (fun _ => rfl)⟩
                show _ = Ending.returned (.tuple #[.int .u64 ((acc + x % 128 * 128 ^ j : Nat) : Int), .bool true])
                rw [← HV.out]
                rfl
            · have t6 : (0 : Int) < (j : Int) := by omega
              have t3 : ((x : Int) == 0) = false := by rw [beq_eq_false_iff_ne]; omega
              have t4 : ((j : Int) == 9) = true := by rw [beq_iff_eq]; omega
              have t5 : ¬ (1 : Int) < (x : Int) := by omega
              clear q1 q2 q3 q4 hbad hbig
              by_cases hcc : c = j + 1
              · go_wp2_with fail
                go_ret2
                rw [HE.out]
                refine ⟨?_, eye_cut (k := j + 1) H.out.2.1 H.out.2.2.1 H.out.2.2.2.2.1 hjl _ _ (by omega) (fun h => absurd h (by omega))⟩
                show _ = Ending.returned (.tuple #[.int .u64 ((acc + x % 128 * 128 ^ j : Nat) : Int), .bool true])
                rw [← HV.out]
                rfl
              · go_wp2_with fail
                go_ret2
                rw [HE.out]
                refine ⟨?_, eye_cut (k := j + 1) H.out.2.1 H.out.2.2.1 H.out.2.2.2.2.1 hjl _ _ (by have := H.out.2.2.2.1; omega) (fun _ => rfl)⟩
                show _ = Ending.returned (.tuple #[.int .u64 ((acc + x % 128 * 128 ^ j : Nat) : Int), .bool true])
                rw [← HV.out]
                rfl
  · have e : eyeDig l f = (0, false, l, f) := if_neg hf
    rw [e]
    have Hl := Lib.hid (And.intro h (Off.refl (fun k => k = ep) w))
    have hfb : (f == (0 : Int)) = false := by simp [hf]
    clear hb hc hr h hne e
    go_enter Try.func105, Try.ntmps105
    go_wp2_with fail
    go_ret2
    exact ⟨rfl, Hl.out⟩

end Go.Proofs.Ythbafbgnclpbpaa
