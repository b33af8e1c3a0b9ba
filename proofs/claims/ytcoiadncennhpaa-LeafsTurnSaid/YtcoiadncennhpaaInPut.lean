/- The reference of layer 12: a node with an entry more, built one by one. -/
import Derived.Test.YtcoiadncennhpaaPutPl
import Derived.Test.YtcoiadncennhpaaOw
import Derived.Test.YtcoiadncennhpaaInOver
namespace Go.Proofs.Ytcoiadncennhpaa
open Go.RowKit

theorem Ow.pushS {B : Nat} {W0 W : World} {L : List (Nat × Obj)} {R : List RowT} (h : Ow B W0 W L R) (i : Nat) {n : Nat} {v : Value} {xs : List ByteArray} (hi : R[i]? = some ⟨9, 1, v, n, strs xs⟩) (x : ByteArray) (hl : n ≤ 100000) :
    ∃ A' c' W1, (Builtin.append_ #[22, 22] 22 #[v, .slice (some ⟨W.heap.size, 0, none⟩) 1 1]).run Try.prog (W.alloc (.cells #[.string x] 9)) = .ok (.slice A' (n + 1) c') W1 ∧ n + 1 ≤ c' ∧
      Ow B W0 W1 L (R.set i ⟨9, 1, .slice A' (n + 1) c', n + 1, strs (xs ++ [x])⟩) := by
  have := h.push (P := Try.prog) i hi 22 22 (.string ByteArray.empty) 16 (by kernel_rfl) joinS_info rfl (by omega) [.string x] rfl (by intro u hu; rw [List.mem_singleton] at hu; subst hu; rfl) hl (by omega)
  rw [show strs xs ++ [Value.string x] = strs (xs ++ [x]) by simp [strs]] at this
  exact this
theorem Ow.pushI {B : Nat} {W0 W : World} {L : List (Nat × Obj)} {R : List RowT} (h : Ow B W0 W L R) (i : Nat) {n : Nat} {v : Value} {xs : List Int} (hi : R[i]? = some ⟨3, 1, v, n, i64s xs⟩) (x : Int) (hl : n ≤ 100000) :
    ∃ A' c' W1, (Builtin.append_ #[24, 24] 24 #[v, .slice (some ⟨W.heap.size, 0, none⟩) 1 1]).run Try.prog (W.alloc (.cells #[.int .i64 x] 3)) = .ok (.slice A' (n + 1) c') W1 ∧ n + 1 ≤ c' ∧
      Ow B W0 W1 L (R.set i ⟨3, 1, .slice A' (n + 1) c', n + 1, i64s (xs ++ [x])⟩) := by
  have := h.push (P := Try.prog) i hi 24 24 (.int .i64 0) 8 (by kernel_rfl) joinI_info rfl (by omega) [.int .i64 x] rfl (by intro u hu; rw [List.mem_singleton] at hu; subst hu; rfl) hl (by omega)
  rw [show i64s xs ++ [Value.int .i64 x] = i64s (xs ++ [x]) by simp [i64s]] at this
  exact this
theorem Ow.pushU {B : Nat} {W0 W : World} {L : List (Nat × Obj)} {R : List RowT} (h : Ow B W0 W L R) (i : Nat) {n : Nat} {v : Value} {xs : List Int} (hi : R[i]? = some ⟨35, 1, v, n, u64s xs⟩) (x : Int) (hl : n ≤ 100000) :
    ∃ A' c' W1, (Builtin.append_ #[23, 23] 23 #[v, .slice (some ⟨W.heap.size, 0, none⟩) 1 1]).run Try.prog (W.alloc (.cells #[.int .u64 x] 35)) = .ok (.slice A' (n + 1) c') W1 ∧ n + 1 ≤ c' ∧
      Ow B W0 W1 L (R.set i ⟨35, 1, .slice A' (n + 1) c', n + 1, u64s (xs ++ [x])⟩) := by
  have := h.push (P := Try.prog) i hi 23 23 (.int .u64 0) 8 (by kernel_rfl) joinU_info rfl (by omega) [.int .u64 x] rfl (by intro u hu; rw [List.mem_singleton] at hu; subst hu; rfl) hl (by omega)
  rw [show u64s xs ++ [Value.int .u64 x] = u64s (xs ++ [x]) by simp [u64s]] at this
  exact this
theorem Ow.rowRd {B : Nat} {W0 W : World} {L : List (Nat × Obj)} {R : List RowT} (h : Ow B W0 W L R) (i : Nat) {E : TypeId} {A : Option Addr} {n c : Nat} {xs : List Value} (hi : R[i]? = some ⟨E, 1, .slice A n c, n, xs⟩) : Rd W W.heap.size 1 A n xs := Rd.of_own (h.own i _ hi)
theorem Ow.rowLe {B : Nat} {W0 W : World} {L : List (Nat × Obj)} {R : List RowT} (h : Ow B W0 W L R) (i : Nat) {E : TypeId} {A : Option Addr} {n c : Nat} {xs : List Value} (hi : R[i]? = some ⟨E, 1, .slice A n c, n, xs⟩) : n ≤ c := by
  obtain ⟨A', c', e, hc⟩ := owns_slice (h.own i _ hi)
  injection e with e1 e2 e3
  subst e3; exact hc

theorem Ow.rowF {B : Nat} {W0 W : World} {L : List (Nat × Obj)} {R : List RowT} (h : Ow B W0 W L R) (i : Nat) {E : TypeId} {A : Option Addr} {n m c s : Nat} {xs : List Value} (hi : R[i]? = some ⟨E, s, .slice A n c, m, xs⟩) : ∀ a, A = some a → B ≤ a.block := by
  intro a e
  subst e
  exact (own_lt (h.own i _ hi) rfl).1

/-- A node whose rows are new is handed back. -/
def NOneF (d : Nd) (w : World) (e : Ending) (w' : World) : Prop :=
  ∃ A B C ca cb cc, e = .returned (.agg (ndCells d A B C ca cb cc)) ∧ LiesF w.heap.size w' d A B C ca cb cc ∧ Below w.heap.size w w'

set_option maxRecDepth 100000 in
set_option maxHeartbeats 16000000 in
theorem refput_any (d : Nd) (low : ByteArray) (kid : Int) (A B C : Option Addr) (ca cb cc : Nat) (w : World) (h : Lies w d A B C ca cb cc) (hk : low.size ≤ maxLen)
    (hr : Pl.rises d.keys = true) (hn : ∀ q (hq : q < d.keys.length), d.keys[q] ≠ low) (hkl : d.kids.length = d.keys.length) (h0 : 0 < d.keys.length) (hm : d.keys.length ≤ 1000) (hv : d.vals.length = 0) :
    Calls Try.prog 110 #[.agg (ndCells d A B C ca cb cc), .string low, .int .i64 kid] w (NOneF (postN d low kid) w) := by
  have hls := less_from hr hn
  have hle := Pl.findAt_le d.keys low.data.toList
  have hpn : postN d low kid = ⟨d.level, d.low, d.high, d.last, d.next, ins d.keys (Pl.findAt d.keys low.data.toList) low, d.vals, ins d.kids (Pl.findAt d.keys low.data.toList) kid⟩ := rfl
  have hO := Ow.start (Sx.start2 w (.cells (ndCells d A B C ca cb cc) 26) (.cells #[.int .i64 0, .string ⟨#[]⟩, .string ⟨#[]⟩, .bool false, .int .i64 0, .slice none 0 0, .slice none 0 0, .slice none 0 0] 26))
  have H00 := Lib.hid h
  have HK := Lib.hid hk
  generalize postN d low kid = pn at hpn ⊢
  generalize Pl.findAt d.keys low.data.toList = at_ at hls hle hpn
  have HPN := Lib.hid hpn
  obtain ⟨level, nlow, high, last, next, keys, vals, kids⟩ := d
  simp only [] at hls hle HPN hkl hm h0 hn hr hv
  have HV := Lib.hid hv
  obtain ⟨b, off, rfl, hbB, hc⟩ := RdS.spot h.keys h0
  obtain ⟨b', off', rfl, hbB', hc'⟩ := RdI.spot h.kids (show 0 < kids.length by omega)
  have HLS := Lib.hid hls
  have HLE := Lib.hid hle
  have HCC := Lib.hid (And.intro hc hc')
  have HB1 := Lib.hid hbB
  have HB2 := Lib.hid hbB'
  have HKL := Lib.hid hkl
  have HN := Lib.hid hm
  have HKS := Lib.hid (fun j (hj : j < keys.length) => (H00.out.fit j hj : keys[j].size ≤ maxLen))
  clear hls hle hpn h hk hr hn hkl hc hc' hbB hbB' hm hv
  simp only [ndCells] at hO ⊢
  replace hO := (hO.nil 9 1).nil 3 1
  simp only [List.nil_append, List.cons_append] at hO
  go_enter Try.func110, Try.ntmps110
  go_upto_region 1 with fail
  generalize (w.alloc _).alloc _ = W at hO ⊢
  obtain ⟨x0, x1, x2, x3, x4, x5, x6, x7, f0, f1, f2, f3, f4, f5, f6, f7⟩ := nd_facts (hO.sx.has 0 _ _ rfl).1
  have HO := Lib.hid hO
  clear hO
  have hlk : keys.length ≤ 1000 := HN.out
  go_wp2_with fail
  go_loopw [7, 8, 9, 10] (fun a z dn i wr => ∃ (j m : Nat) (A1 C1 : Option Addr) (c1 c2 : Nat), i = .int .i64 j ∧ dn = .bool (decide (at_ < j)) ∧ a = .slice A1 m c1 ∧ z = .slice C1 m c2 ∧ Hid (j ≤ keys.length ∧ m ≤ j + 1 ∧
    Ow w.heap.size w wr [(w.heap.size, .cells #[.int .i64 level, .string nlow, .string high, .bool last, .int .i64 next, .slice (some ⟨b, off, none⟩) keys.length ca, .slice B vals.length cb, .slice (some ⟨b', off', none⟩) kids.length cc] 26), (w.heap.size + 1, .cells #[.int .i64 0, .string ⟨#[]⟩, .string ⟨#[]⟩, .bool false, .int .i64 0, .slice none 0 0, .slice none 0 0, .slice none 0 0] 26)]
      [⟨9, 1, .slice A1 m c1, m, strs (putR keys at_ low j)⟩, ⟨3, 1, .slice C1 m c2, m, i64s (putR kids at_ kid j)⟩])) (fun _ _ _ i _ => keys.length - (intOf i).toNat)
  case atStart => exact ⟨0, 0, none, none, 0, 0, rfl, by simp, rfl, rfl, Nat.zero_le _, by omega, HO.out⟩
  case round =>
    obtain ⟨j, m, A1, C1, c1, c2, rfl, rfl, rfl, rfl, H⟩ := hrel
    clear HO
    have HO := Lib.hid H.out.2.2
    clear x0 x1 x2 x3 x4 x5 x6 x7 f0 f1 f2 f3 f4 f5 f6 f7
    obtain ⟨x0, x1, x2, x3, x4, x5, x6, x7, f0, f1, f2, f3, f4, f5, f6, f7⟩ := nd_facts (HO.out.sx.has 0 _ _ rfl).1
    by_cases hlt : j < keys.length
    · have HM := Lib.hid (show m ≤ 1001 ∧ m ≤ j + 1 by have := H.out.2.1; have := HN.out; omega)
      have hlt2 : j < kids.length := by have := HKL.out; omega
      have HC1 := Lib.hid (HCC.out.1 j hlt)
      have HC2 := Lib.hid (HCC.out.2 j (by have := HKL.out; omega))
      have HT := Lib.hid (HLS.out j hlt)
      have HPE := Lib.hid (fun q => And.intro (putR_else keys low at_ j hlt q) (putR_else kids kid at_ j (by have := HKL.out; omega) q))
      have HPH := Lib.hid (And.intro (putR_here keys low j hlt) (putR_here kids kid j (by have := HKL.out; omega)))
      have HKJ := Lib.hid (HKS.out j hlt)
      generalize keys[j] = kj at HC1 HT HPE HPH HKJ
      generalize kids[j] = vj at HC2 HPE HPH
      have HLe := Lib.hid (fun W => refless_any low kj W HK.out HKJ.out)
      rw [HT.out] at HLe
      have cj := (HO.out.below.cell (p := ⟨b, off + j, none⟩) HB1.out).trans HC1.out
      have dj := (HO.out.below.cell (p := ⟨b', off' + j, none⟩) HB2.out).trans HC2.out
      by_cases h1 : at_ < j
      · have h1b : decide (at_ < j) = true := decide_eq_true h1
        rw [h1b]
        have HP := Lib.hid (HPE.out (by omega))
        have HJ1 := Lib.hid (show decide (at_ < j + 1) = true from decide_eq_true (by omega))
        clear h1 h1b HPE HPH HLe HT
        obtain ⟨A2, cA2, WA2, hrun, hcA2, hO⟩ := HO.out.pushS 0 rfl kj (by have := HM.out; omega)
        have Hrun := Lib.hid hrun
        simp only [List.set_cons_zero, List.set_cons_succ] at hO
        replace HO := Lib.hid hO
        clear hrun hO
        obtain ⟨z0, z1, z2, z3, z4, z5, z6, z7, -, -, -, -, -, -, -, -⟩ := nd_facts (HO.out.sx.has 0 _ _ rfl).1
        have zcj := (HO.out.below.cell (p := ⟨b, off + j, none⟩) HB1.out).trans HC1.out
        have zdj := (HO.out.below.cell (p := ⟨b', off' + j, none⟩) HB2.out).trans HC2.out
        go_upto_region 12 with (at_builtin; refine wpList_append_run rfl (.tmp 37) (.tmp 43) 22 rfl rfl rfl Hrun.out ?_)
        clear Hrun z0 z1 z2 z3 z4 z5 z6 z7 zcj zdj cj dj
        clear x0 x1 x2 x3 x4 x5 x6 x7 f0 f1 f2 f3 f4 f5 f6 f7
        obtain ⟨x0, x1, x2, x3, x4, x5, x6, x7, f0, f1, f2, f3, f4, f5, f6, f7⟩ := nd_facts (HO.out.sx.has 0 _ _ rfl).1
        have cj := (HO.out.below.cell (p := ⟨b, off + j, none⟩) HB1.out).trans HC1.out
        have dj := (HO.out.below.cell (p := ⟨b', off' + j, none⟩) HB2.out).trans HC2.out
        obtain ⟨C2, cC2, WC2, hrun, hcC2, hO⟩ := HO.out.pushI 1 rfl vj (by have := HM.out; omega)
        have Hrun := Lib.hid hrun
        simp only [List.set_cons_zero, List.set_cons_succ] at hO
        replace HO := Lib.hid hO
        clear hrun hO
        obtain ⟨z0, z1, z2, z3, z4, z5, z6, z7, -, -, -, -, -, -, -, -⟩ := nd_facts (HO.out.sx.has 0 _ _ rfl).1
        have zcj := (HO.out.below.cell (p := ⟨b, off + j, none⟩) HB1.out).trans HC1.out
        have zdj := (HO.out.below.cell (p := ⟨b', off' + j, none⟩) HB2.out).trans HC2.out
        go_wp2_with (at_builtin; refine wpList_append_run rfl (.tmp 45) (.tmp 51) 24 rfl rfl rfl Hrun.out ?_)
        clear Hrun z0 z1 z2 z3 z4 z5 z6 z7 zcj zdj cj dj
        clear x0 x1 x2 x3 x4 x5 x6 x7 f0 f1 f2 f3 f4 f5 f6 f7
        obtain ⟨x0, x1, x2, x3, x4, x5, x6, x7, f0, f1, f2, f3, f4, f5, f6, f7⟩ := nd_facts (HO.out.sx.has 0 _ _ rfl).1
        have cj := (HO.out.below.cell (p := ⟨b, off + j, none⟩) HB1.out).trans HC1.out
        have dj := (HO.out.below.cell (p := ⟨b', off' + j, none⟩) HB2.out).trans HC2.out
        go_roundw
        case rel => exact ⟨j + 1, m + 1, A2, C2, cA2, cC2, by go_num, by rw [HJ1.out], rfl, rfl, by omega, by have := HM.out; omega, by have := HO.out; rw [HP.out.1, HP.out.2] at this; exact this⟩
        case measure => simp [intOf]; omega
      · have h1b : decide (at_ < j) = false := decide_eq_false h1
        rw [h1b]
        by_cases h2 : at_ = j
        · have hmj : m ≤ j := by
            have hr := (HO.out.rowRd 0 rfl).1
            rw [strs_length] at hr
            unfold putR at hr
            rw [if_neg h1, List.length_take] at hr
            omega
          have HMJ := Lib.hid hmj
          clear hmj
          rw [show decide (at_ ≤ j) = true from decide_eq_true (by omega)] at HLe
          have HJ1 := Lib.hid (show decide (at_ < j + 1) = true from decide_eq_true (by omega))
          have HPG := Lib.hid (show putR keys at_ low j ++ [low] ++ [kj] = putR keys at_ low (j + 1) ∧ putR kids at_ kid j ++ [kid] ++ [vj] = putR kids at_ kid (j + 1) by rw [h2]; exact HPH.out)
          clear h2 HPH
          clear h1 h1b HPE HT
          go_wp2_with fail
          refine (HLe.out _).mono ?_
          rintro e wn ⟨rfl, hbn⟩
          replace HO := Lib.hid (HO.out.call hbn)
          clear hbn cj dj
          clear x0 x1 x2 x3 x4 x5 x6 x7 f0 f1 f2 f3 f4 f5 f6 f7
          obtain ⟨x0, x1, x2, x3, x4, x5, x6, x7, f0, f1, f2, f3, f4, f5, f6, f7⟩ := nd_facts (HO.out.sx.has 0 _ _ rfl).1
          have cj := (HO.out.below.cell (p := ⟨b, off + j, none⟩) HB1.out).trans HC1.out
          have dj := (HO.out.below.cell (p := ⟨b', off' + j, none⟩) HB2.out).trans HC2.out
          obtain ⟨A2, cA2, WA2, hrun, hcA2, hO⟩ := HO.out.pushS 0 rfl low (by have := HM.out; omega)
          have Hrun := Lib.hid hrun
          simp only [List.set_cons_zero, List.set_cons_succ] at hO
          replace HO := Lib.hid hO
          clear hrun hO
          obtain ⟨z0, z1, z2, z3, z4, z5, z6, z7, -, -, -, -, -, -, -, -⟩ := nd_facts (HO.out.sx.has 0 _ _ rfl).1
          have zcj := (HO.out.below.cell (p := ⟨b, off + j, none⟩) HB1.out).trans HC1.out
          have zdj := (HO.out.below.cell (p := ⟨b', off' + j, none⟩) HB2.out).trans HC2.out
          go_upto_region 9 with (at_builtin; refine wpList_append_run rfl (.tmp 29) (.tmp 31) 22 rfl rfl rfl Hrun.out ?_)
          clear Hrun z0 z1 z2 z3 z4 z5 z6 z7 zcj zdj cj dj
          clear x0 x1 x2 x3 x4 x5 x6 x7 f0 f1 f2 f3 f4 f5 f6 f7
          obtain ⟨x0, x1, x2, x3, x4, x5, x6, x7, f0, f1, f2, f3, f4, f5, f6, f7⟩ := nd_facts (HO.out.sx.has 0 _ _ rfl).1
          have cj := (HO.out.below.cell (p := ⟨b, off + j, none⟩) HB1.out).trans HC1.out
          have dj := (HO.out.below.cell (p := ⟨b', off' + j, none⟩) HB2.out).trans HC2.out
          obtain ⟨C2, cC2, WC2, hrun, hcC2, hO⟩ := HO.out.pushI 1 rfl kid (by have := HM.out; omega)
          have Hrun := Lib.hid hrun
          simp only [List.set_cons_zero, List.set_cons_succ] at hO
          replace HO := Lib.hid hO
          clear hrun hO
          obtain ⟨z0, z1, z2, z3, z4, z5, z6, z7, -, -, -, -, -, -, -, -⟩ := nd_facts (HO.out.sx.has 0 _ _ rfl).1
          have zcj := (HO.out.below.cell (p := ⟨b, off + j, none⟩) HB1.out).trans HC1.out
          have zdj := (HO.out.below.cell (p := ⟨b', off' + j, none⟩) HB2.out).trans HC2.out
          go_upto_region 11 with (at_builtin; refine wpList_append_run rfl (.tmp 33) (.tmp 35) 24 rfl rfl rfl Hrun.out ?_)
          clear Hrun z0 z1 z2 z3 z4 z5 z6 z7 zcj zdj cj dj
          clear x0 x1 x2 x3 x4 x5 x6 x7 f0 f1 f2 f3 f4 f5 f6 f7
          obtain ⟨x0, x1, x2, x3, x4, x5, x6, x7, f0, f1, f2, f3, f4, f5, f6, f7⟩ := nd_facts (HO.out.sx.has 0 _ _ rfl).1
          have cj := (HO.out.below.cell (p := ⟨b, off + j, none⟩) HB1.out).trans HC1.out
          have dj := (HO.out.below.cell (p := ⟨b', off' + j, none⟩) HB2.out).trans HC2.out
          replace HM := Lib.hid (show m + 1 ≤ 1002 by have := HM.out; omega)
          obtain ⟨A3, cA3, WA3, hrun, hcA3, hO⟩ := HO.out.pushS 0 rfl kj (by have := HM.out; omega)
          have Hrun := Lib.hid hrun
          simp only [List.set_cons_zero, List.set_cons_succ] at hO
          replace HO := Lib.hid hO
          clear hrun hO
          obtain ⟨z0, z1, z2, z3, z4, z5, z6, z7, -, -, -, -, -, -, -, -⟩ := nd_facts (HO.out.sx.has 0 _ _ rfl).1
          have zcj := (HO.out.below.cell (p := ⟨b, off + j, none⟩) HB1.out).trans HC1.out
          have zdj := (HO.out.below.cell (p := ⟨b', off' + j, none⟩) HB2.out).trans HC2.out
          go_upto_region 12 with (at_builtin; refine wpList_append_run rfl (.tmp 37) (.tmp 43) 22 rfl rfl rfl Hrun.out ?_)
          clear Hrun z0 z1 z2 z3 z4 z5 z6 z7 zcj zdj cj dj
          clear x0 x1 x2 x3 x4 x5 x6 x7 f0 f1 f2 f3 f4 f5 f6 f7
          obtain ⟨x0, x1, x2, x3, x4, x5, x6, x7, f0, f1, f2, f3, f4, f5, f6, f7⟩ := nd_facts (HO.out.sx.has 0 _ _ rfl).1
          have cj := (HO.out.below.cell (p := ⟨b, off + j, none⟩) HB1.out).trans HC1.out
          have dj := (HO.out.below.cell (p := ⟨b', off' + j, none⟩) HB2.out).trans HC2.out
          obtain ⟨C3, cC3, WC3, hrun, hcC3, hO⟩ := HO.out.pushI 1 rfl vj (by have := HM.out; omega)
          have Hrun := Lib.hid hrun
          simp only [List.set_cons_zero, List.set_cons_succ] at hO
          replace HO := Lib.hid hO
          clear hrun hO
          obtain ⟨z0, z1, z2, z3, z4, z5, z6, z7, -, -, -, -, -, -, -, -⟩ := nd_facts (HO.out.sx.has 0 _ _ rfl).1
          have zcj := (HO.out.below.cell (p := ⟨b, off + j, none⟩) HB1.out).trans HC1.out
          have zdj := (HO.out.below.cell (p := ⟨b', off' + j, none⟩) HB2.out).trans HC2.out
          go_wp2_with (at_builtin; refine wpList_append_run rfl (.tmp 45) (.tmp 51) 24 rfl rfl rfl Hrun.out ?_)
          clear Hrun z0 z1 z2 z3 z4 z5 z6 z7 zcj zdj cj dj
          clear x0 x1 x2 x3 x4 x5 x6 x7 f0 f1 f2 f3 f4 f5 f6 f7
          obtain ⟨x0, x1, x2, x3, x4, x5, x6, x7, f0, f1, f2, f3, f4, f5, f6, f7⟩ := nd_facts (HO.out.sx.has 0 _ _ rfl).1
          have cj := (HO.out.below.cell (p := ⟨b, off + j, none⟩) HB1.out).trans HC1.out
          have dj := (HO.out.below.cell (p := ⟨b', off' + j, none⟩) HB2.out).trans HC2.out
          go_roundw
          case rel => exact ⟨j + 1, m + 1 + 1, A3, C3, cA3, cC3, by go_num, by rw [HJ1.out], rfl, rfl, by omega, by have := HMJ.out; omega, by have := HO.out; rw [HPG.out.1, HPG.out.2] at this; exact this⟩
          case measure => simp [intOf]; omega
        · rw [show decide (at_ ≤ j) = false from decide_eq_false (by omega)] at HLe
          have HP := Lib.hid (HPE.out h2)
          have HJ1 := Lib.hid (show decide (at_ < j + 1) = false from decide_eq_false (by omega))
          clear h1 h1b h2 HPE HPH HT
          go_wp2_with fail
          refine (HLe.out _).mono ?_
          rintro e wn ⟨rfl, hbn⟩
          replace HO := Lib.hid (HO.out.call hbn)
          clear hbn cj dj
          clear x0 x1 x2 x3 x4 x5 x6 x7 f0 f1 f2 f3 f4 f5 f6 f7
          obtain ⟨x0, x1, x2, x3, x4, x5, x6, x7, f0, f1, f2, f3, f4, f5, f6, f7⟩ := nd_facts (HO.out.sx.has 0 _ _ rfl).1
          have cj := (HO.out.below.cell (p := ⟨b, off + j, none⟩) HB1.out).trans HC1.out
          have dj := (HO.out.below.cell (p := ⟨b', off' + j, none⟩) HB2.out).trans HC2.out
          obtain ⟨A2, cA2, WA2, hrun, hcA2, hO⟩ := HO.out.pushS 0 rfl kj (by have := HM.out; omega)
          have Hrun := Lib.hid hrun
          simp only [List.set_cons_zero, List.set_cons_succ] at hO
          replace HO := Lib.hid hO
          clear hrun hO
          obtain ⟨z0, z1, z2, z3, z4, z5, z6, z7, -, -, -, -, -, -, -, -⟩ := nd_facts (HO.out.sx.has 0 _ _ rfl).1
          have zcj := (HO.out.below.cell (p := ⟨b, off + j, none⟩) HB1.out).trans HC1.out
          have zdj := (HO.out.below.cell (p := ⟨b', off' + j, none⟩) HB2.out).trans HC2.out
          go_upto_region 12 with (at_builtin; refine wpList_append_run rfl (.tmp 37) (.tmp 43) 22 rfl rfl rfl Hrun.out ?_)
          clear Hrun z0 z1 z2 z3 z4 z5 z6 z7 zcj zdj cj dj
          clear x0 x1 x2 x3 x4 x5 x6 x7 f0 f1 f2 f3 f4 f5 f6 f7
          obtain ⟨x0, x1, x2, x3, x4, x5, x6, x7, f0, f1, f2, f3, f4, f5, f6, f7⟩ := nd_facts (HO.out.sx.has 0 _ _ rfl).1
          have cj := (HO.out.below.cell (p := ⟨b, off + j, none⟩) HB1.out).trans HC1.out
          have dj := (HO.out.below.cell (p := ⟨b', off' + j, none⟩) HB2.out).trans HC2.out
          obtain ⟨C2, cC2, WC2, hrun, hcC2, hO⟩ := HO.out.pushI 1 rfl vj (by have := HM.out; omega)
          have Hrun := Lib.hid hrun
          simp only [List.set_cons_zero, List.set_cons_succ] at hO
          replace HO := Lib.hid hO
          clear hrun hO
          obtain ⟨z0, z1, z2, z3, z4, z5, z6, z7, -, -, -, -, -, -, -, -⟩ := nd_facts (HO.out.sx.has 0 _ _ rfl).1
          have zcj := (HO.out.below.cell (p := ⟨b, off + j, none⟩) HB1.out).trans HC1.out
          have zdj := (HO.out.below.cell (p := ⟨b', off' + j, none⟩) HB2.out).trans HC2.out
          go_wp2_with (at_builtin; refine wpList_append_run rfl (.tmp 45) (.tmp 51) 24 rfl rfl rfl Hrun.out ?_)
          clear Hrun z0 z1 z2 z3 z4 z5 z6 z7 zcj zdj cj dj
          clear x0 x1 x2 x3 x4 x5 x6 x7 f0 f1 f2 f3 f4 f5 f6 f7
          obtain ⟨x0, x1, x2, x3, x4, x5, x6, x7, f0, f1, f2, f3, f4, f5, f6, f7⟩ := nd_facts (HO.out.sx.has 0 _ _ rfl).1
          have cj := (HO.out.below.cell (p := ⟨b, off + j, none⟩) HB1.out).trans HC1.out
          have dj := (HO.out.below.cell (p := ⟨b', off' + j, none⟩) HB2.out).trans HC2.out
          go_roundw
          case rel => exact ⟨j + 1, m + 1, A2, C2, cA2, cC2, by go_num, by rw [HJ1.out], rfl, rfl, by omega, by have := HM.out; omega, by have := HO.out; rw [HP.out.1, HP.out.2] at this; exact this⟩
          case measure => simp [intOf]; omega
    · obtain rfl : j = keys.length := by have := H.out.1; omega
      have HM := Lib.hid (show m ≤ 1001 by have := H.out.2.1; have := HN.out; omega)
      by_cases h1 : at_ < keys.length
      · have h1b : decide (at_ < keys.length) = true := decide_eq_true h1
        rw [h1b]
        have hp := HO.out
        rw [putR_end keys low at_ h1, show putR kids at_ kid keys.length = ins kids at_ kid by rw [← HKL.out]; exact putR_end kids kid at_ (by have := HKL.out; omega)] at hp
        replace HO := Lib.hid hp
        clear hp h1 h1b
        go_upto_region 17 with fail
        have hO := HO.out.setc 0 rfl 5 (.slice A1 (m) c1)
        simp only [List.set_cons_zero, List.set_cons_succ] at hO
        generalize World.setCell _ _ _ = Z1 at hO ⊢
        replace HO := Lib.hid hO
        clear hO
        clear x0 x1 x2 x3 x4 x5 x6 x7 f0 f1 f2 f3 f4 f5 f6 f7
        obtain ⟨x0, x1, x2, x3, x4, x5, x6, x7, f0, f1, f2, f3, f4, f5, f6, f7⟩ := nd_facts (HO.out.sx.has 0 _ _ rfl).1
        go_upto_region 18 with fail
        have hO := HO.out.setc 0 rfl 7 (.slice C1 (m) c2)
        simp only [List.set_cons_zero, List.set_cons_succ] at hO
        generalize World.setCell _ _ _ = Z2 at hO ⊢
        replace HO := Lib.hid hO
        clear hO
        clear x0 x1 x2 x3 x4 x5 x6 x7 f0 f1 f2 f3 f4 f5 f6 f7
        obtain ⟨x0, x1, x2, x3, x4, x5, x6, x7, f0, f1, f2, f3, f4, f5, f6, f7⟩ := nd_facts (HO.out.sx.has 0 _ _ rfl).1
        obtain ⟨y0, y1, y2, y3, y4, y5, y6, y7, q0, q1, q2, q3, q4, q5, q6, q7⟩ := nd_facts (HO.out.sx.has 1 _ _ rfl).1
        have hZ := HO.out.store 1 rfl (.int .i64 level) (.string nlow) (.string high) (.bool last) (.int .i64 next) (.slice A1 (m) c1) (.slice B vals.length cb) (.slice C1 (m) c2)
        have hkr : RdS _ A1 (m) (ins keys at_ low) := hZ.rowRd 0 rfl
        have hcr : RdI _ C1 (m) (ins kids at_ kid) := hZ.rowRd 1 rfl
        have hkl : (ins keys at_ low).length = m := by have := hkr.1; rw [strs_length] at this; omega
        have hcl : (ins kids at_ kid).length = m := by have := hcr.1; rw [i64s_length] at this; omega
        have hL := H00.out.up hZ.below
        have hlies : LiesF w.heap.size _ ⟨level, nlow, high, last, next, ins keys at_ low, vals, ins kids at_ kid⟩ A1 B C1 c1 cb c2 :=
          ⟨{ low := hL.low, high := hL.high, fit := fits_ins H00.out.fit HK.out at_, la := by have := HM.out; simp only []; omega, lb := hL.lb, lc := by have := HM.out; simp only []; omega
             keys := by rw [hkl]; exact hkr
             vals := hL.vals
             kids := by rw [hcl]; exact hcr
             ka := by rw [hkl]; exact hZ.rowLe 0 rfl
             kb := hL.kb
             kc := by rw [hcl]; exact hZ.rowLe 1 rfl },
           fun _ a e => hZ.rowF 0 rfl a e, fun q => by have := HV.out; simp only [] at q; omega, fun _ a e => hZ.rowF 1 rfl a e⟩
        have hcells : ndCells ⟨level, nlow, high, last, next, ins keys at_ low, vals, ins kids at_ kid⟩ A1 B C1 c1 cb c2 = #[.int .i64 level, .string nlow, .string high, .bool last, .int .i64 next, .slice A1 (m) c1, .slice B vals.length cb, .slice C1 (m) c2] := by
          simp only [ndCells, hkl, hcl]
        have HFI := And.intro hZ.below (And.intro hlies hcells)
        simp only [set8] at HFI
        replace HFI := Lib.hid HFI
        clear hZ hkr hcr hkl hcl hL hlies hcells
        obtain rfl := HPN.out
        go_wp2_with fail
        exact bodyPost_ret (v := .agg #[.int .i64 level, .string nlow, .string high, .bool last, .int .i64 next, .slice A1 (m) c1, .slice B vals.length cb, .slice C1 (m) c2]) (by simp [results, Try.results110, go_sem, *]) rfl ⟨A1, B, C1, c1, cb, c2, by rw [HFI.out.2.2], HFI.out.2.1, HFI.out.1⟩
      · have h1b : decide (at_ < keys.length) = false := decide_eq_false h1
        rw [h1b]
        have HL1 := Lib.hid (show at_ = keys.length by have := HLE.out; omega)
        clear h1 h1b
        obtain ⟨A2, cA2, WA2, hrun, hcA2, hO⟩ := HO.out.pushS 0 rfl low (by have := HM.out; omega)
        have Hrun := Lib.hid hrun
        simp only [List.set_cons_zero, List.set_cons_succ] at hO
        replace HO := Lib.hid hO
        clear hrun hO
        obtain ⟨z0, z1, z2, z3, z4, z5, z6, z7, -, -, -, -, -, -, -, -⟩ := nd_facts (HO.out.sx.has 0 _ _ rfl).1
        go_upto_region 15 with (at_builtin; refine wpList_append_run rfl (.tmp 55) (.tmp 57) 22 rfl rfl rfl Hrun.out ?_)
        clear Hrun z0 z1 z2 z3 z4 z5 z6 z7
        clear x0 x1 x2 x3 x4 x5 x6 x7 f0 f1 f2 f3 f4 f5 f6 f7
        obtain ⟨x0, x1, x2, x3, x4, x5, x6, x7, f0, f1, f2, f3, f4, f5, f6, f7⟩ := nd_facts (HO.out.sx.has 0 _ _ rfl).1
        obtain ⟨C2, cC2, WC2, hrun, hcC2, hO⟩ := HO.out.pushI 1 rfl kid (by have := HM.out; omega)
        have Hrun := Lib.hid hrun
        simp only [List.set_cons_zero, List.set_cons_succ] at hO
        replace HO := Lib.hid hO
        clear hrun hO
        obtain ⟨z0, z1, z2, z3, z4, z5, z6, z7, -, -, -, -, -, -, -, -⟩ := nd_facts (HO.out.sx.has 0 _ _ rfl).1
        go_upto_region 16 with (at_builtin; refine wpList_append_run rfl (.tmp 59) (.tmp 61) 24 rfl rfl rfl Hrun.out ?_)
        clear Hrun z0 z1 z2 z3 z4 z5 z6 z7
        clear x0 x1 x2 x3 x4 x5 x6 x7 f0 f1 f2 f3 f4 f5 f6 f7
        obtain ⟨x0, x1, x2, x3, x4, x5, x6, x7, f0, f1, f2, f3, f4, f5, f6, f7⟩ := nd_facts (HO.out.sx.has 0 _ _ rfl).1
        have hp := HO.out
        rw [putR_last keys low at_ HL1.out, show putR kids at_ kid keys.length ++ [kid] = ins kids at_ kid by rw [← HKL.out]; exact putR_last kids kid at_ (by have := HKL.out; have := HL1.out; omega)] at hp
        replace HO := Lib.hid hp
        clear hp
        go_upto_region 17 with fail
        have hO := HO.out.setc 0 rfl 5 (.slice A2 (m + 1) cA2)
        simp only [List.set_cons_zero, List.set_cons_succ] at hO
        generalize World.setCell _ _ _ = Z1 at hO ⊢
        replace HO := Lib.hid hO
        clear hO
        clear x0 x1 x2 x3 x4 x5 x6 x7 f0 f1 f2 f3 f4 f5 f6 f7
        obtain ⟨x0, x1, x2, x3, x4, x5, x6, x7, f0, f1, f2, f3, f4, f5, f6, f7⟩ := nd_facts (HO.out.sx.has 0 _ _ rfl).1
        go_upto_region 18 with fail
        have hO := HO.out.setc 0 rfl 7 (.slice C2 (m + 1) cC2)
        simp only [List.set_cons_zero, List.set_cons_succ] at hO
        generalize World.setCell _ _ _ = Z2 at hO ⊢
        replace HO := Lib.hid hO
        clear hO
        clear x0 x1 x2 x3 x4 x5 x6 x7 f0 f1 f2 f3 f4 f5 f6 f7
        obtain ⟨x0, x1, x2, x3, x4, x5, x6, x7, f0, f1, f2, f3, f4, f5, f6, f7⟩ := nd_facts (HO.out.sx.has 0 _ _ rfl).1
        obtain ⟨y0, y1, y2, y3, y4, y5, y6, y7, q0, q1, q2, q3, q4, q5, q6, q7⟩ := nd_facts (HO.out.sx.has 1 _ _ rfl).1
        have hZ := HO.out.store 1 rfl (.int .i64 level) (.string nlow) (.string high) (.bool last) (.int .i64 next) (.slice A2 (m + 1) cA2) (.slice B vals.length cb) (.slice C2 (m + 1) cC2)
        have hkr : RdS _ A2 (m + 1) (ins keys at_ low) := hZ.rowRd 0 rfl
        have hcr : RdI _ C2 (m + 1) (ins kids at_ kid) := hZ.rowRd 1 rfl
        have hkl : (ins keys at_ low).length = m + 1 := by have := hkr.1; rw [strs_length] at this; omega
        have hcl : (ins kids at_ kid).length = m + 1 := by have := hcr.1; rw [i64s_length] at this; omega
        have hL := H00.out.up hZ.below
        have hlies : LiesF w.heap.size _ ⟨level, nlow, high, last, next, ins keys at_ low, vals, ins kids at_ kid⟩ A2 B C2 cA2 cb cC2 :=
          ⟨{ low := hL.low, high := hL.high, fit := fits_ins H00.out.fit HK.out at_, la := by have := HM.out; simp only []; omega, lb := hL.lb, lc := by have := HM.out; simp only []; omega
             keys := by rw [hkl]; exact hkr
             vals := hL.vals
             kids := by rw [hcl]; exact hcr
             ka := by rw [hkl]; exact hZ.rowLe 0 rfl
             kb := hL.kb
             kc := by rw [hcl]; exact hZ.rowLe 1 rfl },
           fun _ a e => hZ.rowF 0 rfl a e, fun q => by have := HV.out; simp only [] at q; omega, fun _ a e => hZ.rowF 1 rfl a e⟩
        have hcells : ndCells ⟨level, nlow, high, last, next, ins keys at_ low, vals, ins kids at_ kid⟩ A2 B C2 cA2 cb cC2 = #[.int .i64 level, .string nlow, .string high, .bool last, .int .i64 next, .slice A2 (m + 1) cA2, .slice B vals.length cb, .slice C2 (m + 1) cC2] := by
          simp only [ndCells, hkl, hcl]
        have HFI := And.intro hZ.below (And.intro hlies hcells)
        simp only [set8] at HFI
        replace HFI := Lib.hid HFI
        clear hZ hkr hcr hkl hcl hL hlies hcells
        obtain rfl := HPN.out
        go_wp2_with fail
        exact bodyPost_ret (v := .agg #[.int .i64 level, .string nlow, .string high, .bool last, .int .i64 next, .slice A2 (m + 1) cA2, .slice B vals.length cb, .slice C2 (m + 1) cC2]) (by simp [results, Try.results110, go_sem, *]) rfl ⟨A2, B, C2, cA2, cb, cC2, by rw [HFI.out.2.2], HFI.out.2.1, HFI.out.1⟩

end Go.Proofs.Ytcoiadncennhpaa
