/- The law SipBack: the walk. -/
import Derived.Test.YthbafbgnclpbpaaSip3
namespace Go.Proofs.Ythbafbgnclpbpaa
open Go.RowKit

theorem eyeUp_dig {n top : Nat} (h : n < 18446744073709551616) (ht : n ≤ top) (r : List Nat) : eyeUp top (dig n ++ r) 0 = (n, r, 0) := by
  have e : eyeDig (dig n ++ r) 0 = (n, true, r, 0) := by
    unfold eyeDig
    rw [if_pos rfl, scan_back h r]
    simp
  unfold eyeUp
  rw [e, if_pos rfl, if_neg (by omega)]
theorem bstr_tb (s : ByteArray) : bstr (tb s) = s := by
  unfold bstr tb
  rw [List.map_map]
  have : (UInt8.ofNat ∘ fun x : UInt8 => x.toNat) = id := by funext x; simp
  rw [this, List.map_id]
theorem eyeTxt_tb {s : ByteArray} (h : s.size ≤ 100000) (r : List Nat) : eyeTxt (s.size : Int) (dig s.size ++ tb s ++ r) 0 = (s, r, 0) := by
  have e : eyeUp (s.size : Int).toNat (dig s.size ++ tb s ++ r) 0 = (s.size, tb s ++ r, 0) := by
    rw [List.append_assoc]
    exact eyeUp_dig (by omega) (by simp) _
  have h1 : (tb s).length = s.size := tb_length s
  unfold eyeTxt
  rw [e, if_neg (by omega), if_neg (by simp only [List.length_append]; omega)]
  simp only []
  rw [← h1, List.take_left, List.drop_left, bstr_tb]
theorem itBytes_lt {x : It} (h : ItOk x) : ∀ b ∈ itBytes x, b < 256 := by
  intro b hb
  unfold itBytes at hb
  split at hb
  · exact dig_lt (turn_lt h.int) b hb
  · split at hb
    · simp at hb; omega
    · split at hb
      · rw [List.mem_append] at hb
        rcases hb with hb | hb
        · exact dig_lt (by have := h.text; unfold maxLen at this; omega) b hb
        · simp [tb] at hb
          obtain ⟨u, _, rfl⟩ := hb
          exact u.toNat_lt
      · exact dig_lt h.num b hb
theorem itAll_lt {xs : List It} (h : ∀ x ∈ xs, ItOk x) : ∀ b ∈ itAll xs, b < 256 := by
  intro b hb
  simp [itAll] at hb
  obtain ⟨x, hx, hb⟩ := hb
  exact itBytes_lt (h x hx) b hb
theorem owns_cap {w : World} {B : Nat} {e : TypeId} {s n c : Nat} {A : Option Addr} {xs : List Value} (h : w.ownsRow B e s (.slice A n c) n xs) : n ≤ c := by
  rcases h.2 with ⟨e, h0⟩ | ⟨g, cap, cur, e, _, _, hnc, _⟩
  · injection e with _ e1 e2; omega
  · injection e with _ e1 e2; omega

set_option maxRecDepth 100000 in
set_option maxHeartbeats 8000000 in
theorem sipback_any (A : Option Addr) (c : Nat) (xs : List It) (w : World) (h : Its w A xs) (hx : ∀ x ∈ xs, ItOk x) (hl : xs.length ≤ 9223372036854775807) :
    Calls Try.prog 6 #[.slice A xs.length c] w (Ret (.bool true) w) := by
  go_enter Try.func6, Try.ntmps6
  go_wp2_with fail
  refine (light01_any A c xs w h hx hl).mono ?_
  rintro e w1 ⟨rfl, hb1⟩
  cases hli : light01 xs
  · clear hli
    go_wp2_with fail
    refine (lives01_any _).mono ?_
    rintro e w2 ⟨rfl, hb2⟩
    go_wp2_with fail
    go_ret
    exact ⟨rfl, below_of hb1 hb2⟩
  · have HL := Lib.hid (light01_spec hli)
    have HS := Lib.hid (And.intro (pen_new w1) (below_of hb1 (below_alloc w1 (.cells #[.slice none 0 0] 40))))
    have hbp : w.heap.size ≤ w1.heap.size := hb1.size
    clear hli
    go_wp2_with fail
    generalize w1.alloc (.cells #[.slice none 0 0] 40) = w2 at HS ⊢
    generalize w1.heap.size = bp at HS hbp ⊢
    clear hb1
    go_loopw [5, 16] (fun _ i wr => ∃ (j : Nat) (r : Option Nat), i = .int .i64 j ∧ Hid (j ≤ xs.length ∧ PenAt wr bp r (itAll (xs.take j)) ∧ Below w.heap.size w wr ∧ ∀ q, r = some q → w.heap.size ≤ q)) (fun _ i _ => xs.length - (intOf i).toNat)
    case atStart => exact ⟨0, none, rfl, Nat.zero_le _, HS.out.1, HS.out.2, fun q hq => by cases hq⟩
    case round =>
      obtain ⟨j, r, rfl, H⟩ := hrel
      by_cases hlt : j < xs.length
      · obtain ⟨b, off, rfl, hbl, d0, d1, d2, d3, d4⟩ := (h.up (H.out.2.2.1)).at_ hlt
        have hok := hx _ (List.getElem_mem hlt)
        have htx := HL.out.1 _ (List.getElem_mem hlt)
        have HT := Lib.hid (itAll_take xs j hlt)
        have hlen := itAll_len (xs.take j) (fun x hxm => HL.out.1 x (List.mem_of_mem_take hxm))
        rw [List.length_take] at hlen
        have hlen2 : (itAll (xs.take j)).length ≤ 20000 := by have := HL.out.2; omega
        generalize itAll (xs.take j) = L at H HT hlen2 ⊢
        clear hlen
        generalize hxj : xs[j] = x at d0 d1 d2 d3 d4 hok htx HT
        clear hxj
        have HB := Lib.hid (below_alloc wr (.cells (itCells x) 42))
        have HW := Lib.hid (write_any bp r L x (wr.alloc (.cells (itCells x) 42)) (H.out.2.1.below HB.out) hok (by omega) (by omega))
        obtain ⟨kind, num, int, text, most⟩ := x
        simp only [] at d0 d1 d2 d3 d4 htx
        simp only [itCells] at HB HW
        clear hok htx
        go_wp2_with fail
        refine HW.out.mono ?_
        rintro e w3 ⟨A2, c2, r2, rfl, hrd, hrel3⟩
        have hrel4 := PenRel.of_below HB.out hrel3
        have K := hrel4.keeps H.out.2.2.1 H.out.2.2.1.size hbp H.out.2.2.2
        have HN := Lib.hid (And.intro hrel4.1 K)
        clear hrd hrel3 hrel4 K HW HB
        go_wp2_with fail
        go_roundw
        case rel =>
          refine ⟨j + 1, r2, by go_num, by omega, ?_, HN.out.2⟩
          rw [HT.out]
          exact HN.out.1
        case measure => simp [intOf]; omega
      · have hj : j = xs.length := by have := H.out.1; omega
        subst hj
        have hH := H.out
        rw [List.take_length] at hH
        have H' := Lib.hid hH
        clear hH H
        have hlen := itAll_len xs HL.out.1
        have hlen2 : (itAll xs).length ≤ 20000 := by have := HL.out.2; omega
        have HLT := Lib.hid (itAll_lt hx)
        clear hlen
        go_wp2_with fail
        refine (penbytes_any bp r _ _ H'.out.2.1 (by omega)).mono ?_
        rintro e w4 ⟨A3, c3, rfl, ho3, hb3⟩
        have HM := Lib.hid (And.intro (Rd.of_own ho3) (And.intro (owns_cap ho3) (below_of H'.out.2.2.1 hb3)))
        clear ho3 hb3 H'
        go_wp2_with fail
        refine (eyelook_any A3 c3 _ _ HM.out.1 HM.out.2.1).mono ?_
        rintro e w5 ⟨rfl, hE, hb5⟩
        have hep : w.heap.size ≤ w4.heap.size := HM.out.2.2.size
        have HE := Lib.hid (And.intro hE (below_of HM.out.2.2 hb5))
        clear hE hb5 HM
        generalize w4.heap.size = ep at HE hep ⊢
        generalize srcOf A3 (itAll xs) = sb at HE
        go_wp2_with fail
        go_loopw [8, 9, 27] (fun _ _ i wr => ∃ (j : Nat), i = .int .i64 j ∧ Hid (j ≤ xs.length ∧ EyeAt wr ep sb (itAll (xs.drop j)) 0 ∧ Below w.heap.size w wr)) (fun _ _ i _ => xs.length - (intOf i).toNat)
        case atStart => exact ⟨0, rfl, Nat.zero_le _, HE.out.1, HE.out.2⟩
        case round =>
          obtain ⟨j, rfl, H⟩ := hrel
          by_cases hlt : j < xs.length
          · obtain ⟨b, off, rfl, hbl, d0, d1, d2, d3, d4⟩ := (h.up (H.out.2.2)).at_ hlt
            have hok := hx _ (List.getElem_mem hlt)
            have htx := HL.out.1 _ (List.getElem_mem hlt)
            have hT : itAll (xs.drop j) = itBytes xs[j] ++ itAll (xs.drop (j + 1)) := by rw [List.drop_eq_getElem_cons hlt]; rfl
            have hlt256 : ∀ y ∈ itBytes xs[j] ++ itAll (xs.drop (j + 1)), y < 256 := by
              rw [← hT]
              exact itAll_lt (fun x hxm => hx x (List.mem_of_mem_drop hxm))
            have hlen := itAll_len (xs.drop j) (fun x hxm => HL.out.1 x (List.mem_of_mem_drop hxm))
            rw [hT, List.length_drop] at hlen
            have hlen4 : (itBytes xs[j] ++ itAll (xs.drop (j + 1))).length ≤ 1000000 := by have := HL.out.2; omega
            have hH := H.out
            rw [hT] at hH
            generalize hR : itAll (xs.drop (j + 1)) = R at hH hlt256 hlen4
            have HR := Lib.hid hR
            clear hT hlen hR
            generalize hxj : xs[j] = x at d0 d1 d2 d3 d4 hok htx hH hlt256 hlen4
            clear hxj
            obtain ⟨kind, num, int, text, most⟩ := x
            simp only [] at d0 d1 d2 d3 d4 htx
            have hba := below_alloc wr (.cells (itCells ⟨kind, num, int, text, most⟩) 42)
            have e0 : (wr.alloc (.cells (itCells ⟨kind, num, int, text, most⟩) 42)).cell? ⟨wr.heap.size, 0, none⟩ = some (.int .i64 kind) := new_cell wr _ _ 0 _ rfl
            have e1 : (wr.alloc (.cells (itCells ⟨kind, num, int, text, most⟩) 42)).cell? ⟨wr.heap.size, 1, none⟩ = some (.int .u64 (num : Int)) := new_cell wr _ _ 1 _ rfl
            have e2 : (wr.alloc (.cells (itCells ⟨kind, num, int, text, most⟩) 42)).cell? ⟨wr.heap.size, 2, none⟩ = some (.int .i64 int) := new_cell wr _ _ 2 _ rfl
            have e3 : (wr.alloc (.cells (itCells ⟨kind, num, int, text, most⟩) 42)).cell? ⟨wr.heap.size, 3, none⟩ = some (.string text) := new_cell wr _ _ 3 _ rfl
            have hbx : wr.heap.size < (wr.alloc (.cells (itCells ⟨kind, num, int, text, most⟩) 42)).heap.size := by simp
            have hbe : wr.heap.size ≠ ep := by have := hH.2.1.lt; omega
            have HK := Lib.hid (And.intro hok (And.intro htx (And.intro hlt256 hlen4)))
            have HE1 := Lib.hid (And.intro (hH.2.1.below hba) (And.intro (below_of hH.2.2 hba) hH.1))
            simp only [itCells] at e0 e1 e2 e3 hbx HE1
            have HX := Lib.hid (And.intro hbx hbe)
            have hib : itBytes ⟨kind, num, int, text, most⟩ = if kind = 1 then dig (turn int) else if kind = 2 then [num % 2] else if kind = 3 then dig text.size ++ tb text else dig num := rfl
            clear hok htx hH hba hbx hbe hlt256 hlen4 H
            by_cases k1 : kind = 1
            · rw [if_pos k1] at hib
              rw [hib] at HE1 HK
              clear hib
              subst k1
              go_upto_region 17 with fail
              generalize wr.alloc _ = W1 at HE1 HX e0 e1 e2 e3 ⊢
              first | go_region_with (go_at_call 36; refine (EyeTo.to (eyeint_any ep sb (dig (turn int) ++ R) 0 _ (HE1.out.1.below (Below.drew (Below.refl _ _))) HK.out.2.2.1 HK.out.2.2.2) (by rw [eyeUp_dig (turn_lt HK.out.1.int) (by have := turn_lt HK.out.1.int; omega), back_turn _ HK.out.1.int]) (by rw [eyeUp_dig (turn_lt HK.out.1.int) (by have := turn_lt HK.out.1.int; omega)]) (by rw [eyeUp_dig (turn_lt HK.out.1.int) (by have := turn_lt HK.out.1.int; omega)])).mono ?_; rintro e wn ⟨rfl, hE, hO⟩; have f1 := (hO.cell (p := ⟨wr.heap.size, 1, none⟩) HX.out.1 HX.out.2).trans e1; have f2 := (hO.cell (p := ⟨wr.heap.size, 2, none⟩) HX.out.1 HX.out.2).trans e2; have f3 := (hO.cell (p := ⟨wr.heap.size, 3, none⟩) HX.out.1 HX.out.2).trans e3) | fail
              all_goals
                have HF := Lib.hid (And.intro hE (hO.below (HE1.out.2.1.drew) HE1.out.2.1.size (fun q hq e => by omega)))
                clear hE hO
                go_wp2_with fail
                go_roundw
                case rel =>
                  refine ⟨j + 1, by go_num, by omega, ?_, HF.out.2⟩
                  rw [HR.out]
                  exact HF.out.1
                case measure => simp [intOf]; omega
            · rw [if_neg k1] at hib
              have k1b : (kind == (1 : Int)) = false := by simp [k1]
              by_cases k2 : kind = 2
              · rw [if_pos k2] at hib
                rw [hib, ← dig_small (show num % 2 < 128 by omega)] at HE1 HK
                clear hib
                subst k2
                clear k1 k1b
                have hb2 : decide (num % 2 = 1) = ((num : Int) % 2 == 1) := by rw [Bool.eq_iff_iff, decide_eq_true_iff, beq_iff_eq]; omega
                have HB2 := Lib.hid hb2
                clear hb2
                go_upto_region 19 with fail
                generalize wr.alloc _ = W1 at HE1 HX e0 e1 e2 e3 ⊢
                first | go_region_with (go_at_call 37; refine (EyeTo.to (eyetruth_any ep sb (dig (num % 2) ++ R) 0 _ (HE1.out.1.below (Below.drew (Below.refl _ _))) HK.out.2.2.1 HK.out.2.2.2) (by rw [eyeUp_dig (by omega) (by omega), HB2.out]) (by rw [eyeUp_dig (by omega) (by omega)]) (by rw [eyeUp_dig (by omega) (by omega)])).mono ?_; rintro e wn ⟨rfl, hE, hO⟩; have f1 := (hO.cell (p := ⟨wr.heap.size, 1, none⟩) HX.out.1 HX.out.2).trans e1; have f2 := (hO.cell (p := ⟨wr.heap.size, 2, none⟩) HX.out.1 HX.out.2).trans e2; have f3 := (hO.cell (p := ⟨wr.heap.size, 3, none⟩) HX.out.1 HX.out.2).trans e3) | fail
                all_goals
                  have HF := Lib.hid (And.intro hE (hO.below (HE1.out.2.1.drew) HE1.out.2.1.size (fun q hq e => by omega)))
                  clear hE hO
                  go_wp2_with fail
                  go_roundw
                  case rel =>
                    refine ⟨j + 1, by go_num, by omega, ?_, HF.out.2⟩
                    rw [HR.out]
                    exact HF.out.1
                  case measure => simp [intOf]; omega
              · rw [if_neg k2] at hib
                have k2b : (kind == (2 : Int)) = false := by simp [k2]
                by_cases k3 : kind = 3
                · rw [if_pos k3] at hib
                  rw [hib] at HE1 HK
                  clear hib
                  subst k3
                  clear k1 k1b k2 k2b
                  have hts : text.size ≤ 9223372036854775807 := HK.out.1.text
                  go_upto_region 21 with fail
                  generalize wr.alloc _ = W1 at HE1 HX e0 e1 e2 e3 ⊢
                  first | go_region_with (go_at_call 34; refine (EyeTo.to (eyetext_any ep sb (dig text.size ++ tb text ++ R) 0 (text.size : Int) _ (HE1.out.1.below (Below.drew (Below.refl _ _))) HK.out.2.2.1 HK.out.2.2.2 (by have := HK.out.2.1; omega)) (by rw [eyeTxt_tb (by have := HK.out.2.1; omega)]) (by rw [eyeTxt_tb (by have := HK.out.2.1; omega)]) (by rw [eyeTxt_tb (by have := HK.out.2.1; omega)])).mono ?_; rintro e wn ⟨rfl, hE, hO⟩; have f1 := (hO.cell (p := ⟨wr.heap.size, 1, none⟩) HX.out.1 HX.out.2).trans e1; have f2 := (hO.cell (p := ⟨wr.heap.size, 2, none⟩) HX.out.1 HX.out.2).trans e2; have f3 := (hO.cell (p := ⟨wr.heap.size, 3, none⟩) HX.out.1 HX.out.2).trans e3) | fail
                  all_goals
                    have HF := Lib.hid (And.intro hE (hO.below (HE1.out.2.1.drew) HE1.out.2.1.size (fun q hq e => by omega)))
                    clear hE hO
                    go_wp2_with fail
                    go_roundw
                    case rel =>
                      refine ⟨j + 1, by go_num, by omega, ?_, HF.out.2⟩
                      rw [HR.out]
                      exact HF.out.1
                    case measure => simp [intOf]; omega
                · rw [if_neg k3] at hib
                  have k3b : (kind == (3 : Int)) = false := by simp [k3]
                  rw [hib] at HE1 HK
                  clear hib k1 k2 k3
                  go_upto_region 15 with fail
                  generalize wr.alloc _ = W1 at HE1 HX e0 e1 e2 e3 ⊢
                  first | go_region_with (go_at_call 30; refine (EyeTo.to (eyenum_any ep sb (dig num ++ R) 0 num _ (HE1.out.1.below (Below.drew (Below.refl _ _))) HK.out.2.2.1 HK.out.2.2.2) (by rw [eyeUp_dig HK.out.1.num (Nat.le_refl _)]) (by rw [eyeUp_dig HK.out.1.num (Nat.le_refl _)]) (by rw [eyeUp_dig HK.out.1.num (Nat.le_refl _)])).mono ?_; rintro e wn ⟨rfl, hE, hO⟩; have f1 := (hO.cell (p := ⟨wr.heap.size, 1, none⟩) HX.out.1 HX.out.2).trans e1; have f2 := (hO.cell (p := ⟨wr.heap.size, 2, none⟩) HX.out.1 HX.out.2).trans e2; have f3 := (hO.cell (p := ⟨wr.heap.size, 3, none⟩) HX.out.1 HX.out.2).trans e3) | fail
                  all_goals
                    have HF := Lib.hid (And.intro hE (hO.below (HE1.out.2.1.drew) HE1.out.2.1.size (fun q hq e => by omega)))
                    clear hE hO
                    go_wp2_with fail
                    go_roundw
                    case rel =>
                      refine ⟨j + 1, by go_num, by omega, ?_, HF.out.2⟩
                      rw [HR.out]
                      exact HF.out.1
                    case measure => simp [intOf]; omega
          · have hj2 : xs.drop j = [] := List.drop_eq_nil_of_le (by omega)
            have hH := H.out
            rw [hj2] at hH
            have H' := Lib.hid hH
            clear hH H hj2
            go_wp2_with fail
            refine (eyeclose_any ep sb [] 0 _ H'.out.2.1 (by decide)).mono ?_
            rintro e w6 ⟨rfl, rfl⟩
            have hcl : eyeClose [] 0 = 0 := by decide
            rw [hcl]
            go_wp2_with fail
            refine (lives01_any _).mono ?_
            rintro e w7 ⟨rfl, hb7⟩
            go_wp2_with fail
            go_ret
            exact ⟨rfl, below_of H'.out.2.2 hb7⟩

end Go.Proofs.Ythbafbgnclpbpaa
