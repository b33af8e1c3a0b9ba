/- The law OpWrites: the walk. -/
import Derived.Test.YthbafbgnclpbpaaOp14
import Derived.Test.YthbafbgnclpbpaaOp15
namespace Go.Proofs.Ythbafbgnclpbpaa
open Go.RowKit

theorem opBytes_pos (o : OpD) : 0 < (opBytes o).length := by
  unfold opBytes
  split
  · rw [List.length_append]
    have := dig_pos o.kind.toNat
    omega
  · exact Nat.zero_lt_one
theorem opBytes_lt {o : OpD} (h : OpOk o) : ∀ b ∈ opBytes o, b < 256 := by
  have ht : ∀ s : ByteArray, ∀ b ∈ tb s, b < 256 := by
    intro s b hb
    simp [tb] at hb
    obtain ⟨u, _, rfl⟩ := hb
    exact u.toNat_lt
  intro b hb
  unfold opBytes at hb
  split at hb
  · rename_i hB
    have hk := opB_kind hB
    rw [List.mem_append, List.mem_append, List.mem_append, List.mem_append] at hb
    rcases hb with hb | hb | hb | hb | hb
    · exact dig_lt (by omega) b hb
    · split at hb
      · rw [List.mem_append] at hb
        rcases hb with hb | hb
        · exact dig_lt (by have := h.key; unfold maxLen at this; omega) b hb
        · exact ht _ b hb
      · cases hb
    · split at hb
      · rw [List.mem_append] at hb
        rcases hb with hb | hb
        · exact dig_lt (by have := h.upto; unfold maxLen at this; omega) b hb
        · exact ht _ b hb
      · cases hb
    · split at hb
      · exact dig_lt h.val b hb
      · cases hb
    · split at hb
      · exact dig_lt (by have := h.limit; omega) b hb
      · cases hb
  · simp at hb; omega
theorem opsBytes_lt {xs : List OpD} (h : ∀ x ∈ xs, OpOk x) : ∀ b ∈ opsBytes xs, b < 256 := by
  intro b hb
  simp [opsBytes] at hb
  obtain ⟨x, hx, hb⟩ := hb
  exact opBytes_lt (h x hx) b hb

theorem OpAt.off {S : Nat → Prop} {w w' : World} {g : Nat} {o : OpD} (h : OpAt w g o) (hO : Off S w w') (hg : g < w.heap.size) (hs : ¬ S g) : OpAt w' g o :=
  ⟨(hO.cell (p := ⟨g, 0, none⟩) hg hs).trans h.1, (hO.cell (p := ⟨g, 1, none⟩) hg hs).trans h.2.1, (hO.cell (p := ⟨g, 2, none⟩) hg hs).trans h.2.2.1, (hO.cell (p := ⟨g, 3, none⟩) hg hs).trans h.2.2.2.1, (hO.cell (p := ⟨g, 4, none⟩) hg hs).trans h.2.2.2.2⟩

set_option maxRecDepth 100000 in
theorem opwrite_nil (bp : Nat) (r : Option Nat) (A : Option Addr) (c : Nat) (w : World) (hp : PenAt w bp r []) :
    Calls Try.prog 63 #[.pointer (some ⟨bp, 0, none⟩), .slice A 0 c] w (PenTo w bp r []) := by
  have HP := Lib.hid hp
  clear hp
  go_enter Try.func63, Try.ntmps63
  go_wp2_with fail
  go_loopw [5, 8] (fun _ i wr => i = .int .i64 0 ∧ wr = w) (fun _ _ _ => 0)
  case atStart => exact ⟨rfl, rfl⟩
  case round =>
    obtain ⟨rfl, rfl⟩ := hrel
    go_wp2_with fail
    go_end0
    exact ⟨rfl, r, PenRel.refl HP.out⟩

theorem opwrite2_any (bp : Nat) (r : Option Nat) (A : Option Addr) (c : Nat) (xs : List OpD) (w : World) (hp : PenAt w bp r []) (h : Opl w A xs) (hfar : 0 < xs.length → ∀ a, A = some a → ¬ penS bp r a.block) (hx : ∀ x ∈ xs, OpOk x) (hs : ∀ x ∈ xs, x.key.size ≤ 200 ∧ x.upto.size ≤ 200) (hl : xs.length ≤ 40) :
    Calls Try.prog 63 #[.pointer (some ⟨bp, 0, none⟩), .slice A xs.length c] w (PenTo w bp r (opsBytes xs)) := by
  cases xs with
  | nil => exact opwrite_nil bp r A c w hp
  | cons x xs => exact opwrite_any bp r A c (x :: xs) w hp h (hfar (by simp)) hx hs hl

set_option maxRecDepth 100000 in
set_option maxHeartbeats 16000000 in
theorem opwrites_any (A : Option Addr) (c : Nat) (xs : List OpD) (w : World) (h : Opl w A xs) (hx : ∀ x ∈ xs, OpOk x) (hl : xs.length ≤ 9223372036854775807) :
    Calls Try.prog 12 #[.slice A xs.length c] w (Ret (.bool true) w) := by
  go_enter Try.func12, Try.ntmps12
  go_wp2_with fail
  refine (light16_any A c xs w h hx hl).mono ?_
  rintro e w1 ⟨rfl, hb1⟩
  cases hli : light16 xs
  · clear hli
    go_wp2_with fail
    refine (lives16_any _).mono ?_
    rintro e w2 ⟨rfl, hb2⟩
    go_wp2_with fail
    go_ret
    exact ⟨rfl, below_of hb1 hb2⟩
  · have HL := Lib.hid (light16_spec hli)
    have hbp : w.heap.size ≤ w1.heap.size := hb1.size
    have hp2 := pen_new w1
    have hb2 := below_alloc w1 (.cells #[.slice none 0 0] 40)
    have H2 := Lib.hid (And.intro hp2 (And.intro (below_of hb1 hb2) hbp))
    clear hli hp2 hb2
    go_wp2_with fail
    generalize w1.alloc (.cells #[.slice none 0 0] 40) = w2 at H2 ⊢
    have HO := Lib.hid (fun (hp : 0 < xs.length) (a : Addr) (ha : A = some a) => (by
      obtain ⟨b, off, e, hbl, _⟩ := h hp
      rw [ha] at e
      injection e with e
      subst e
      exact hbl : a.block < w.heap.size))
    generalize w1.heap.size = bp at H2 hbp ⊢
    clear hb1
    refine (opwrite2_any bp none A c xs _ H2.out.1 (h.up H2.out.2.1) (fun hp a ha e => by have := HO.out hp a ha; rcases e with e | e <;> first | omega | cases e) hx HL.out.1 HL.out.2).mono ?_
    rintro e w3 ⟨rfl, r3, hrel⟩
    have K := hrel.keeps H2.out.2.1 H2.out.2.1.size hbp (by simp)
    have H3 := Lib.hid (And.intro hrel.1 (And.intro K.1 K.1.size))
    clear hrel K H2 HO
    go_wp2_with fail
    go_loopw [4, 6, 20] (fun want _ i wr => ∃ (j : Nat) (V : Option Addr) (cv : Nat), i = .int .i64 j ∧ want = .slice V (opsBytes (xs.take j)).length cv ∧ Hid (j ≤ xs.length ∧ wr.ownsRow w3.heap.size 5 1 (.slice V (opsBytes (xs.take j)).length cv) (opsBytes (xs.take j)).length (u8s (opsBytes (xs.take j))) ∧ Below w3.heap.size w3 wr)) (fun _ _ i _ => xs.length - (intOf i).toNat)
    case atStart => exact ⟨0, none, 0, rfl, rfl, Nat.zero_le _, World.ownsRow_nil _ _ _ _, Below.refl _ _⟩
    case round =>
      obtain ⟨j, V, cv, rfl, rfl, H⟩ := hrel
      by_cases hlt : j < xs.length
      · obtain ⟨b, off, rfl, hbl, d0, d1, d2, d3, d4⟩ := ((h.up H3.out.2.1).up H.out.2.2).at_ hlt
        have hok := hx _ (List.getElem_mem hlt)
        have htx := HL.out.1 _ (List.getElem_mem hlt)
        have HT := Lib.hid (opsBytes_take xs j hlt)
        have hlen := opsBytes_len (xs.take j) (fun x hxm => HL.out.1 x (List.mem_of_mem_take hxm))
        rw [List.length_take] at hlen
        have hlen2 : (opsBytes (xs.take j)).length ≤ 21000 := by have := HL.out.2; omega
        generalize opsBytes (xs.take j) = L at H HT hlen2 ⊢
        clear hlen
        generalize hxj : xs[j] = x at d0 d1 d2 d3 d4 hok htx HT
        clear hxj
        have HB := Lib.hid (below_alloc wr (.cells (opCells x) 58))
        have HW := Lib.hid (refbytes16_any x (wr.alloc (.cells (opCells x) 58)) hok (by omega) (by omega))
        have hm0 := opBytes_pos x
        have hml := opBytes_len x (by omega) (by omega)
        generalize opBytes x = m at HW HT hm0 hml ⊢
        obtain ⟨kind, key, upto, val, limit⟩ := x
        simp only [] at d0 d1 d2 d3 d4
        simp only [opCells] at HB HW
        clear hok htx
        go_wp2_with fail
        refine HW.out.mono ?_
        rintro e W5 ⟨A2, c2, rfl, hown2, hb5⟩
        have hb6 := below_of HB.out hb5
        have ho3 := owns_off H.out.2.1 (Off.of_below hb6 (fun _ => False)) (fun _ _ q => q)
        have hB5 : w3.heap.size ≤ W5.heap.size := Nat.le_trans H.out.2.2.size hb6.size
        obtain ⟨A', c', W6, hrun, h2, h3, h5⟩ := want_push (c2 := c2) ho3 hB5 (Rd.of_own hown2) hm0 (by omega) 38
        have Hrun := Lib.hid hrun
        have HN := Lib.hid (And.intro h2 ((H.out.2.2.trans (hb6.mono H.out.2.2.size)).grown h3 hB5 (fun q hq => (ho3.lt q hq).1)))
        clear hrun h2 h3 h5 ho3 hB5 hown2 hb5 hb6 hm0 HW HB hml
        go_wp2_with (at_builtin; refine wpList_append_run rfl (.tmp 24) (.tmp 26) 38 rfl rfl rfl Hrun.out ?_)
        have hl2 : L.length + m.length = (L ++ m).length := by rw [List.length_append]
        rw [hl2]
        go_roundw
        case rel =>
          refine ⟨j + 1, A', c', by go_num, by rw [HT.out], by omega, ?_, HN.out.2⟩
          rw [HT.out]
          exact HN.out.1
        case measure => simp [intOf]; omega
      · have hj : j = xs.length := by have := H.out.1; omega
        subst hj
        have hH := H.out
        rw [List.take_length] at hH ⊢
        have H' := Lib.hid hH
        clear hH H
        have hlen := opsBytes_len xs HL.out.1
        have hlen2 : (opsBytes xs).length ≤ 21000 := by have := HL.out.2; omega
        have HLT := Lib.hid (opsBytes_lt hx)
        clear hlen
        generalize hD : opsBytes xs = D at H' H3 hlen2 HLT ⊢
        have HD := Lib.hid hD
        clear hD
        go_upto_region 11 with fail
        go_cut [33] (fun s wx => s = .bool false ∧ Below wr.heap.size wr wx)
        case first =>
          have hcur : Below wr.heap.size wr wr.drew := Below.drew (Below.refl _ _)
          have hc1 := conv_any (c := cv) ((Rd.of_own H'.out.2.1).up hcur)
          first | go_region_with (go_at_call 28; refine (penbytes_any bp r3 D _ ((H3.out.1.below H'.out.2.2).below hcur) (by omega)).mono ?_; rintro e wn ⟨A3, c3, rfl, ho3, hb3⟩; replace hcur := below_of hcur hb3; have hc2 := made_conv ho3; have hc1' := conv_any (c := cv) ((Rd.of_own H'.out.2.1).up hcur)) | fail
          all_goals
            go_wp2_with fail
            go_meet
            exact ⟨rfl, hcur⟩
        case rest =>
          obtain ⟨rfl, hbx⟩ := hcut
          have HX := Lib.hid (below_of H'.out.2.2 hbx)
          clear hbx
          go_wp2_with fail
          refine (penbytes_any bp r3 D _ (H3.out.1.below HX.out) (by omega)).mono ?_
          rintro e w4 ⟨A3, c3, rfl, ho3, hb3⟩
          have HM := Lib.hid (And.intro (Rd.of_own ho3) (And.intro (owns_cap ho3) (below_of (H3.out.2.1.trans (HX.out.mono H3.out.2.2)) hb3)))
          clear ho3 hb3 H' HX
          go_wp2_with fail
          have hsl := srcOf_lt HM.out.1
          refine (eyelook_any A3 c3 _ _ HM.out.1 HM.out.2.1).mono ?_
          rintro e w5 ⟨rfl, hE, hb5⟩
          have hep : w.heap.size ≤ w4.heap.size := HM.out.2.2.size
          have HE := Lib.hid (And.intro hE (And.intro (below_of HM.out.2.2 hb5) hsl))
          clear hE hb5 HM hsl
          generalize w4.heap.size = ep at HE hep ⊢
          generalize srcOf A3 D = sb at HE
          go_wp2_with fail
          go_loopw [9, 10, 11, 38] (fun _ _ _ i wr => ∃ (j : Nat), i = .int .i64 j ∧ Hid (j ≤ xs.length ∧ EyeAt wr ep sb (opsBytes (xs.drop j)) 0 ∧ Below w.heap.size w wr)) (fun _ _ _ i _ => xs.length - (intOf i).toNat)
          case atStart => exact ⟨0, rfl, Nat.zero_le _, by rw [List.drop_zero, HD.out]; exact HE.out.1, HE.out.2.1⟩
          case round =>
            obtain ⟨j, rfl, H⟩ := hrel
            by_cases hlt : j < xs.length
            · obtain ⟨b, off, rfl, hbl, d0, d1, d2, d3, d4⟩ := (h.up (H.out.2.2)).at_ hlt
              have hok := hx _ (List.getElem_mem hlt)
              have hT : opsBytes (xs.drop j) = opBytes xs[j] ++ opsBytes (xs.drop (j + 1)) := by rw [List.drop_eq_getElem_cons hlt]; rfl
              have hlt256 : ∀ y ∈ opBytes xs[j] ++ opsBytes (xs.drop (j + 1)), y < 256 := by
                rw [← hT]
                exact opsBytes_lt (fun x hxm => hx x (List.mem_of_mem_drop hxm))
              have hlen := opsBytes_len (xs.drop j) (fun x hxm => HL.out.1 x (List.mem_of_mem_drop hxm))
              rw [hT, List.length_drop] at hlen
              have hlen4 : (opBytes xs[j] ++ opsBytes (xs.drop (j + 1))).length ≤ 1000000 := by have := HL.out.2; omega
              have hH := H.out
              rw [hT] at hH
              generalize hR : opsBytes (xs.drop (j + 1)) = R at hH hlt256 hlen4
              have HR := Lib.hid hR
              clear hT hlen hR
              generalize hxj : xs[j] = x at d0 d1 d2 d3 d4 hok hH hlt256 hlen4
              clear hxj H
              have hba := below_alloc wr (.cells (opCells x) 58)
              have hn := OpAt.new wr x 58
              have hz : wr.heap.size < (wr.alloc (.cells (opCells x) 58)).heap.size := by simp
              have hel := hH.2.1.lt
              have HRD := Lib.hid (opread_any ep sb (opBytes x ++ R) 0 (wr.alloc (.cells (opCells x) 58)) (hH.2.1.below hba) hlt256 hlen4 (fun q hq => by have := HE.out.2.2 q hq; omega))
              have HS := Lib.hid (fun W => refsound16_any x W hok)
              have HP := Lib.hid (fun W => refplain_any x W)
              have HE1 := Lib.hid (And.intro hn (And.intro hz (And.intro (below_of hH.2.2 hba) hel)))
              clear hba hn hz hel hH hlt256 hlen4
              rcases (show opB x = true ∨ opB x = false by cases opB x <;> simp) with hB | hB
              · rw [opRd_good hB hok R] at HRD
                have HS0 := Lib.hid (fun W => Calls.to (HS.out W) (congrArg Value.bool hB))
                clear hB HS hok
                generalize plainO x = y at HRD HP
                have hsz : (wr.alloc (.cells (opCells x) 58)).heap.size = wr.heap.size + 1 := by simp
                obtain ⟨kind, key, upto, val, limit⟩ := x
                obtain ⟨kind', key', upto', val', limit'⟩ := y
                simp only [opCells] at HRD HE1 HS0 HP hsz
                simp only [] at d0 d1 d2 d3 d4
                go_upto_region 17 with fail
                go_wp2_with fail
                refine HRD.out.mono ?_
                rintro e w6 ⟨rfl, hE, hO⟩
                have hox := HE1.out.1.off hO HE1.out.2.1 (fun e => by have := HE1.out.2.2.2; omega)
                have hb6 := hO.below HE1.out.2.2.1 HE1.out.2.2.1.size (fun q hq e => by omega)
                have hba := below_alloc w6 (.cells (opCells ⟨kind', key', upto', val', limit'⟩) 58)
                have hny := OpAt.new w6 ⟨kind', key', upto', val', limit'⟩ 58
                have hzy : w6.heap.size < (w6.alloc (.cells (opCells ⟨kind', key', upto', val', limit'⟩) 58)).heap.size := by simp
                have hz6 : wr.heap.size < w6.heap.size := Nat.lt_of_lt_of_le HE1.out.2.1 hO.size
                have HQ := Lib.hid (And.intro (hox.up hba hz6) (And.intro hny (And.intro (Nat.lt_trans hz6 hzy) (And.intro hzy (And.intro (hE.below hba) (below_of hb6 hba))))))
                simp only [opCells] at HQ
                clear hox hb6 hba hny hzy hz6 hE hO HRD
                go_upto_region 18 with fail
                generalize w6.alloc _ = W at HQ ⊢
                refine wp_region_held_drew (S := fun w' => Below W.heap.size W w') (by kernel_rfl) (Below.drew (Below.refl _ _)) (fun hcur => ?_)
                replace hcur : Below W.heap.size W W.drew := hcur
                refine wpAnyH_take (i := 0) (v := ?_) rfl (by decide +kernel) (by decide +kernel) (by decide +kernel) (fun _ _ _ h => h) (Or.inl ⟨by rfl, ?hy⟩) hcur ?_
                case hy =>
                  intro w1 hSw
                  replace hSw : Below W.heap.size W w1 := hSw
                  obtain ⟨x0, x1, x2, x3, x4⟩ := id (HQ.out.1.up hSw HQ.out.2.2.1)
                  obtain ⟨y0, y1, y2, y3, y4⟩ := id (HQ.out.2.1.up hSw HQ.out.2.2.2.1)
                  simp only [] at x0 x1 x2 x3 x4 y0 y1 y2 y3 y4
                  go_simp
                  (try with_reducible rfl)
                (try simp only [Act.put, List.getElem_toArray, List.getElem_cons_zero, List.getElem_cons_succ, List.setIfInBounds_toArray, List.set_cons_zero, List.set_cons_succ])
                refine wpAnyH_take (i := 1) (v := ?_) rfl (by decide +kernel) (by decide +kernel) (by decide +kernel) (fun _ _ _ h => h) (Or.inl ⟨by rfl, ?hy⟩) hcur ?_
                case hy =>
                  intro w1 hSw
                  replace hSw : Below W.heap.size W w1 := hSw
                  obtain ⟨x0, x1, x2, x3, x4⟩ := id (HQ.out.1.up hSw HQ.out.2.2.1)
                  obtain ⟨y0, y1, y2, y3, y4⟩ := id (HQ.out.2.1.up hSw HQ.out.2.2.2.1)
                  simp only [] at x0 x1 x2 x3 x4 y0 y1 y2 y3 y4
                  go_simp
                  (try with_reducible rfl)
                (try simp only [Act.put, List.getElem_toArray, List.getElem_cons_zero, List.getElem_cons_succ, List.setIfInBounds_toArray, List.set_cons_zero, List.set_cons_succ])
                refine wpAnyH_ready (rs := [2]) (by decide +kernel) (by simp) ?_
                refine AllReadyH.cons rfl (fun K hK => ?_) AllReadyH.nil
                go_simp
                refine (HS0.out _).mono ?_
                rintro e wn ⟨rfl, hbn⟩
                go_wp2_with fail
                refine hK.out _ _ (below_of hcur hbn) (fun _ => ?_)
                clear hK K
                replace hcur := below_of hcur hbn
                clear hbn
                (try simp only [Act.put, List.getElem_toArray, List.getElem_cons_zero, List.getElem_cons_succ, List.setIfInBounds_toArray, List.set_cons_zero, List.set_cons_succ])
                refine wpAnyH_take (i := 3) (v := ?_) rfl (by decide +kernel) (by decide +kernel) (by decide +kernel) (fun _ _ _ h => h) (Or.inl ⟨by rfl, ?hy⟩) hcur ?_
                case hy =>
                  intro w1 hSw
                  replace hSw : Below W.heap.size W w1 := hSw
                  obtain ⟨x0, x1, x2, x3, x4⟩ := id (HQ.out.1.up hSw HQ.out.2.2.1)
                  obtain ⟨y0, y1, y2, y3, y4⟩ := id (HQ.out.2.1.up hSw HQ.out.2.2.2.1)
                  simp only [] at x0 x1 x2 x3 x4 y0 y1 y2 y3 y4
                  go_simp
                  (try with_reducible rfl)
                (try simp only [Act.put, List.getElem_toArray, List.getElem_cons_zero, List.getElem_cons_succ, List.setIfInBounds_toArray, List.set_cons_zero, List.set_cons_succ])
                refine wpAnyH_take (i := 4) (v := ?_) rfl (by decide +kernel) (by decide +kernel) (by decide +kernel) (fun _ _ _ h => h) (Or.inl ⟨by rfl, ?hy⟩) hcur ?_
                case hy =>
                  intro w1 hSw
                  replace hSw : Below W.heap.size W w1 := hSw
                  obtain ⟨x0, x1, x2, x3, x4⟩ := id (HQ.out.1.up hSw HQ.out.2.2.1)
                  obtain ⟨y0, y1, y2, y3, y4⟩ := id (HQ.out.2.1.up hSw HQ.out.2.2.2.1)
                  simp only [] at x0 x1 x2 x3 x4 y0 y1 y2 y3 y4
                  go_simp
                  (try with_reducible rfl)
                (try simp only [Act.put, List.getElem_toArray, List.getElem_cons_zero, List.getElem_cons_succ, List.setIfInBounds_toArray, List.set_cons_zero, List.set_cons_succ])
                refine wpAnyH_take (i := 5) (v := ?_) rfl (by decide +kernel) (by decide +kernel) (by decide +kernel) (fun _ _ _ h => h) (Or.inl ⟨by rfl, ?hy⟩) hcur ?_
                case hy =>
                  intro w1 hSw
                  replace hSw : Below W.heap.size W w1 := hSw
                  obtain ⟨x0, x1, x2, x3, x4⟩ := id (HQ.out.1.up hSw HQ.out.2.2.1)
                  obtain ⟨y0, y1, y2, y3, y4⟩ := id (HQ.out.2.1.up hSw HQ.out.2.2.2.1)
                  simp only [] at x0 x1 x2 x3 x4 y0 y1 y2 y3 y4
                  go_simp
                  (try with_reducible rfl)
                (try simp only [Act.put, List.getElem_toArray, List.getElem_cons_zero, List.getElem_cons_succ, List.setIfInBounds_toArray, List.set_cons_zero, List.set_cons_succ])
                refine wpAnyH_take (i := 6) (v := ?_) rfl (by decide +kernel) (by decide +kernel) (by decide +kernel) (fun _ _ _ h => h) (Or.inl ⟨by rfl, ?hy⟩) hcur ?_
                case hy =>
                  intro w1 hSw
                  replace hSw : Below W.heap.size W w1 := hSw
                  obtain ⟨x0, x1, x2, x3, x4⟩ := id (HQ.out.1.up hSw HQ.out.2.2.1)
                  obtain ⟨y0, y1, y2, y3, y4⟩ := id (HQ.out.2.1.up hSw HQ.out.2.2.2.1)
                  simp only [] at x0 x1 x2 x3 x4 y0 y1 y2 y3 y4
                  go_simp
                  (try with_reducible rfl)
                (try simp only [Act.put, List.getElem_toArray, List.getElem_cons_zero, List.getElem_cons_succ, List.setIfInBounds_toArray, List.set_cons_zero, List.set_cons_succ])
                refine wpAnyH_take (i := 7) (v := ?_) rfl (by decide +kernel) (by decide +kernel) (by decide +kernel) (fun _ _ _ h => h) (Or.inl ⟨by rfl, ?hy⟩) hcur ?_
                case hy =>
                  intro w1 hSw
                  replace hSw : Below W.heap.size W w1 := hSw
                  obtain ⟨x0, x1, x2, x3, x4⟩ := id (HQ.out.1.up hSw HQ.out.2.2.1)
                  obtain ⟨y0, y1, y2, y3, y4⟩ := id (HQ.out.2.1.up hSw HQ.out.2.2.2.1)
                  simp only [] at x0 x1 x2 x3 x4 y0 y1 y2 y3 y4
                  go_simp
                  (try with_reducible rfl)
                (try simp only [Act.put, List.getElem_toArray, List.getElem_cons_zero, List.getElem_cons_succ, List.setIfInBounds_toArray, List.set_cons_zero, List.set_cons_succ])
                refine wpAnyH_take (i := 8) (v := ?_) rfl (by decide +kernel) (by decide +kernel) (by decide +kernel) (fun _ _ _ h => h) (Or.inl ⟨by rfl, ?hy⟩) hcur ?_
                case hy =>
                  intro w1 hSw
                  replace hSw : Below W.heap.size W w1 := hSw
                  obtain ⟨x0, x1, x2, x3, x4⟩ := id (HQ.out.1.up hSw HQ.out.2.2.1)
                  obtain ⟨y0, y1, y2, y3, y4⟩ := id (HQ.out.2.1.up hSw HQ.out.2.2.2.1)
                  simp only [] at x0 x1 x2 x3 x4 y0 y1 y2 y3 y4
                  go_simp
                  (try with_reducible rfl)
                (try simp only [Act.put, List.getElem_toArray, List.getElem_cons_zero, List.getElem_cons_succ, List.setIfInBounds_toArray, List.set_cons_zero, List.set_cons_succ])
                refine wpAnyH_ready (rs := [9]) (by decide +kernel) (by simp) ?_
                refine AllReadyH.cons rfl (fun K hK => ?_) AllReadyH.nil
                go_simp
                refine (HP.out _).mono ?_
                rintro e wn ⟨rfl, hbn⟩
                go_wp2_with fail
                refine hK.out _ _ (below_of hcur hbn) (fun _ => ?_)
                clear hK K
                replace hcur := below_of hcur hbn
                clear hbn
                (try simp only [Act.put, List.getElem_toArray, List.getElem_cons_zero, List.getElem_cons_succ, List.setIfInBounds_toArray, List.set_cons_zero, List.set_cons_succ])
                refine wpAnyH_take (i := 10) (v := ?_) rfl (by decide +kernel) (by decide +kernel) (by decide +kernel) (fun _ _ _ h => h) (Or.inl ⟨by rfl, ?hy⟩) hcur ?_
                case hy =>
                  intro w1 hSw
                  replace hSw : Below W.heap.size W w1 := hSw
                  obtain ⟨x0, x1, x2, x3, x4⟩ := id (HQ.out.1.up hSw HQ.out.2.2.1)
                  obtain ⟨y0, y1, y2, y3, y4⟩ := id (HQ.out.2.1.up hSw HQ.out.2.2.2.1)
                  simp only [] at x0 x1 x2 x3 x4 y0 y1 y2 y3 y4
                  go_simp
                  (try with_reducible rfl)
                (try simp only [Act.put, List.getElem_toArray, List.getElem_cons_zero, List.getElem_cons_succ, List.setIfInBounds_toArray, List.set_cons_zero, List.set_cons_succ])
                refine wpAnyH_take (i := 11) (v := ?_) rfl (by decide +kernel) (by decide +kernel) (by decide +kernel) (fun _ _ _ h => h) (Or.inl ⟨by rfl, ?hy⟩) hcur ?_
                case hy =>
                  intro w1 hSw
                  replace hSw : Below W.heap.size W w1 := hSw
                  obtain ⟨x0, x1, x2, x3, x4⟩ := id (HQ.out.1.up hSw HQ.out.2.2.1)
                  obtain ⟨y0, y1, y2, y3, y4⟩ := id (HQ.out.2.1.up hSw HQ.out.2.2.2.1)
                  simp only [] at x0 x1 x2 x3 x4 y0 y1 y2 y3 y4
                  go_simp
                  (try with_reducible rfl)
                (try simp only [Act.put, List.getElem_toArray, List.getElem_cons_zero, List.getElem_cons_succ, List.setIfInBounds_toArray, List.set_cons_zero, List.set_cons_succ])
                refine wpAnyH_take (i := 12) (v := ?_) rfl (by decide +kernel) (by decide +kernel) (by decide +kernel) (fun _ _ _ h => h) (Or.inl ⟨by rfl, ?hy⟩) hcur ?_
                case hy =>
                  intro w1 hSw
                  replace hSw : Below W.heap.size W w1 := hSw
                  obtain ⟨x0, x1, x2, x3, x4⟩ := id (HQ.out.1.up hSw HQ.out.2.2.1)
                  obtain ⟨y0, y1, y2, y3, y4⟩ := id (HQ.out.2.1.up hSw HQ.out.2.2.2.1)
                  simp only [] at x0 x1 x2 x3 x4 y0 y1 y2 y3 y4
                  go_simp
                  (try with_reducible rfl)
                (try simp only [Act.put, List.getElem_toArray, List.getElem_cons_zero, List.getElem_cons_succ, List.setIfInBounds_toArray, List.set_cons_zero, List.set_cons_succ])
                refine wpAnyH_take (i := 13) (v := ?_) rfl (by decide +kernel) (by decide +kernel) (by decide +kernel) (fun _ _ _ h => h) (Or.inl ⟨by rfl, ?hy⟩) hcur ?_
                case hy =>
                  intro w1 hSw
                  replace hSw : Below W.heap.size W w1 := hSw
                  obtain ⟨x0, x1, x2, x3, x4⟩ := id (HQ.out.1.up hSw HQ.out.2.2.1)
                  obtain ⟨y0, y1, y2, y3, y4⟩ := id (HQ.out.2.1.up hSw HQ.out.2.2.2.1)
                  simp only [] at x0 x1 x2 x3 x4 y0 y1 y2 y3 y4
                  go_simp
                  (try with_reducible rfl)
                (try simp only [Act.put, List.getElem_toArray, List.getElem_cons_zero, List.getElem_cons_succ, List.setIfInBounds_toArray, List.set_cons_zero, List.set_cons_succ])
                refine wpAnyH_take (i := 14) (v := ?_) rfl (by decide +kernel) (by decide +kernel) (by decide +kernel) (fun _ _ _ h => h) (Or.inl ⟨by rfl, ?hy⟩) hcur ?_
                case hy =>
                  intro w1 hSw
                  replace hSw : Below W.heap.size W w1 := hSw
                  obtain ⟨x0, x1, x2, x3, x4⟩ := id (HQ.out.1.up hSw HQ.out.2.2.1)
                  obtain ⟨y0, y1, y2, y3, y4⟩ := id (HQ.out.2.1.up hSw HQ.out.2.2.2.1)
                  simp only [] at x0 x1 x2 x3 x4 y0 y1 y2 y3 y4
                  go_simp
                  (try with_reducible rfl)
                (try simp only [Act.put, List.getElem_toArray, List.getElem_cons_zero, List.getElem_cons_succ, List.setIfInBounds_toArray, List.set_cons_zero, List.set_cons_succ])
                refine wpAnyH_take (i := 15) (v := ?_) rfl (by decide +kernel) (by decide +kernel) (by decide +kernel) (fun _ _ _ h => h) (Or.inl ⟨by rfl, ?hy⟩) hcur ?_
                case hy =>
                  intro w1 hSw
                  replace hSw : Below W.heap.size W w1 := hSw
                  obtain ⟨x0, x1, x2, x3, x4⟩ := id (HQ.out.1.up hSw HQ.out.2.2.1)
                  obtain ⟨y0, y1, y2, y3, y4⟩ := id (HQ.out.2.1.up hSw HQ.out.2.2.2.1)
                  simp only [] at x0 x1 x2 x3 x4 y0 y1 y2 y3 y4
                  go_simp
                  (try with_reducible rfl)
                (try simp only [Act.put, List.getElem_toArray, List.getElem_cons_zero, List.getElem_cons_succ, List.setIfInBounds_toArray, List.set_cons_zero, List.set_cons_succ])
                refine wpAnyH_take (i := 16) (v := ?_) rfl (by decide +kernel) (by decide +kernel) (by decide +kernel) (fun _ _ _ h => h) (Or.inl ⟨by rfl, ?hy⟩) hcur ?_
                case hy =>
                  intro w1 hSw
                  replace hSw : Below W.heap.size W w1 := hSw
                  obtain ⟨x0, x1, x2, x3, x4⟩ := id (HQ.out.1.up hSw HQ.out.2.2.1)
                  obtain ⟨y0, y1, y2, y3, y4⟩ := id (HQ.out.2.1.up hSw HQ.out.2.2.2.1)
                  simp only [] at x0 x1 x2 x3 x4 y0 y1 y2 y3 y4
                  go_simp
                  (try with_reducible rfl)
                (try simp only [Act.put, List.getElem_toArray, List.getElem_cons_zero, List.getElem_cons_succ, List.setIfInBounds_toArray, List.set_cons_zero, List.set_cons_succ])
                refine wpAnyH_take (i := 17) rfl (by decide +kernel) (by decide +kernel) (by decide +kernel) (fun _ _ _ h => h) (Or.inr ⟨by rfl, rfl⟩) hcur ?_
                (try simp only [Act.put, List.getElem_toArray, List.getElem_cons_zero, List.getElem_cons_succ, List.setIfInBounds_toArray, List.set_cons_zero, List.set_cons_succ])
                refine wpAnyH_take (i := 18) rfl (by decide +kernel) (by decide +kernel) (by decide +kernel) (fun _ _ _ h => h) (Or.inr ⟨by rfl, rfl⟩) hcur ?_
                (try simp only [Act.put, List.getElem_toArray, List.getElem_cons_zero, List.getElem_cons_succ, List.setIfInBounds_toArray, List.set_cons_zero, List.set_cons_succ])
                refine wpAnyH_take (i := 19) rfl (by decide +kernel) (by decide +kernel) (by decide +kernel) (fun _ _ _ h => h) (Or.inr ⟨by rfl, rfl⟩) hcur ?_
                (try simp only [Act.put, List.getElem_toArray, List.getElem_cons_zero, List.getElem_cons_succ, List.setIfInBounds_toArray, List.set_cons_zero, List.set_cons_succ])
                refine wpAnyH_take (i := 20) (v := ?_) rfl (by decide +kernel) (by decide +kernel) (by decide +kernel) (fun _ _ _ h => h) (Or.inl ⟨by rfl, ?hy⟩) hcur ?_
                case hy =>
                  intro w1 hSw
                  replace hSw : Below W.heap.size W w1 := hSw
                  obtain ⟨x0, x1, x2, x3, x4⟩ := id (HQ.out.1.up hSw HQ.out.2.2.1)
                  obtain ⟨y0, y1, y2, y3, y4⟩ := id (HQ.out.2.1.up hSw HQ.out.2.2.2.1)
                  simp only [] at x0 x1 x2 x3 x4 y0 y1 y2 y3 y4
                  go_simp
                  (try with_reducible rfl)
                (try simp only [Act.put, List.getElem_toArray, List.getElem_cons_zero, List.getElem_cons_succ, List.setIfInBounds_toArray, List.set_cons_zero, List.set_cons_succ])
                refine wpAnyH_take (i := 21) (v := ?_) rfl (by decide +kernel) (by decide +kernel) (by decide +kernel) (fun _ _ _ h => h) (Or.inl ⟨by rfl, ?hy⟩) hcur ?_
                case hy =>
                  intro w1 hSw
                  replace hSw : Below W.heap.size W w1 := hSw
                  obtain ⟨x0, x1, x2, x3, x4⟩ := id (HQ.out.1.up hSw HQ.out.2.2.1)
                  obtain ⟨y0, y1, y2, y3, y4⟩ := id (HQ.out.2.1.up hSw HQ.out.2.2.2.1)
                  simp only [] at x0 x1 x2 x3 x4 y0 y1 y2 y3 y4
                  go_simp
                  (try with_reducible rfl)
                (try simp only [Act.put, List.getElem_toArray, List.getElem_cons_zero, List.getElem_cons_succ, List.setIfInBounds_toArray, List.set_cons_zero, List.set_cons_succ])
                refine wpAnyH_done (by decide +kernel) ?_ _
                go_wp2_with fail
                go_roundw
                case rel =>
                  refine ⟨j + 1, by go_num, by omega, ?_, below_of HQ.out.2.2.2.2.2 hcur⟩
                  rw [HR.out]
                  exact HQ.out.2.2.2.2.1.below hcur
                case measure => simp [intOf]; omega
              · rw [opRd_bad hB R] at HRD
                have HS0 := Lib.hid (fun W => Calls.to (HS.out W) (congrArg Value.bool hB))
                clear hB HS hok HP
                have hsz : (wr.alloc (.cells (opCells x) 58)).heap.size = wr.heap.size + 1 := by simp
                obtain ⟨kind, key, upto, val, limit⟩ := x
                simp only [opCells, opZero] at HRD HE1 HS0 hsz
                simp only [] at d0 d1 d2 d3 d4
                go_upto_region 17 with fail
                go_wp2_with fail
                refine HRD.out.mono ?_
                rintro e w6 ⟨rfl, hE, hO⟩
                have hox := HE1.out.1.off hO HE1.out.2.1 (fun e => by have := HE1.out.2.2.2; omega)
                have hb6 := hO.below HE1.out.2.2.1 HE1.out.2.2.1.size (fun q hq e => by omega)
                have hba := below_alloc w6 (.cells (opCells ⟨0, ⟨#[]⟩, ⟨#[]⟩, 0, 0⟩) 58)
                have hny := OpAt.new w6 ⟨0, ⟨#[]⟩, ⟨#[]⟩, 0, 0⟩ 58
                have hzy : w6.heap.size < (w6.alloc (.cells (opCells ⟨0, ⟨#[]⟩, ⟨#[]⟩, 0, 0⟩) 58)).heap.size := by simp
                have hz6 : wr.heap.size < w6.heap.size := Nat.lt_of_lt_of_le HE1.out.2.1 hO.size
                have HQ := Lib.hid (And.intro (hox.up hba hz6) (And.intro hny (And.intro (Nat.lt_trans hz6 hzy) (And.intro hzy (And.intro (hE.below hba) (below_of hb6 hba))))))
                simp only [opCells] at HQ
                clear hox hb6 hba hny hzy hz6 hE hO HRD
                go_upto_region 18 with fail
                generalize w6.alloc _ = W at HQ ⊢
                refine wp_region_held_drew (S := fun w' => Below W.heap.size W w') (by kernel_rfl) (Below.drew (Below.refl _ _)) (fun hcur => ?_)
                replace hcur : Below W.heap.size W W.drew := hcur
                refine wpAnyH_take (i := 0) (v := ?_) rfl (by decide +kernel) (by decide +kernel) (by decide +kernel) (fun _ _ _ h => h) (Or.inl ⟨by rfl, ?hy⟩) hcur ?_
                case hy =>
                  intro w1 hSw
                  replace hSw : Below W.heap.size W w1 := hSw
                  obtain ⟨x0, x1, x2, x3, x4⟩ := id (HQ.out.1.up hSw HQ.out.2.2.1)
                  obtain ⟨y0, y1, y2, y3, y4⟩ := id (HQ.out.2.1.up hSw HQ.out.2.2.2.1)
                  simp only [] at x0 x1 x2 x3 x4 y0 y1 y2 y3 y4
                  go_simp
                  (try with_reducible rfl)
                (try simp only [Act.put, List.getElem_toArray, List.getElem_cons_zero, List.getElem_cons_succ, List.setIfInBounds_toArray, List.set_cons_zero, List.set_cons_succ])
                refine wpAnyH_take (i := 1) (v := ?_) rfl (by decide +kernel) (by decide +kernel) (by decide +kernel) (fun _ _ _ h => h) (Or.inl ⟨by rfl, ?hy⟩) hcur ?_
                case hy =>
                  intro w1 hSw
                  replace hSw : Below W.heap.size W w1 := hSw
                  obtain ⟨x0, x1, x2, x3, x4⟩ := id (HQ.out.1.up hSw HQ.out.2.2.1)
                  obtain ⟨y0, y1, y2, y3, y4⟩ := id (HQ.out.2.1.up hSw HQ.out.2.2.2.1)
                  simp only [] at x0 x1 x2 x3 x4 y0 y1 y2 y3 y4
                  go_simp
                  (try with_reducible rfl)
                (try simp only [Act.put, List.getElem_toArray, List.getElem_cons_zero, List.getElem_cons_succ, List.setIfInBounds_toArray, List.set_cons_zero, List.set_cons_succ])
                refine wpAnyH_ready (rs := [2]) (by decide +kernel) (by simp) ?_
                refine AllReadyH.cons rfl (fun K hK => ?_) AllReadyH.nil
                go_simp
                refine (HS0.out _).mono ?_
                rintro e wn ⟨rfl, hbn⟩
                go_wp2_with fail
                refine hK.out _ _ (below_of hcur hbn) (fun _ => ?_)
                clear hK K
                replace hcur := below_of hcur hbn
                clear hbn
                (try simp only [Act.put, List.getElem_toArray, List.getElem_cons_zero, List.getElem_cons_succ, List.setIfInBounds_toArray, List.set_cons_zero, List.set_cons_succ])
                refine wpAnyH_take (i := 3) (v := ?_) rfl (by decide +kernel) (by decide +kernel) (by decide +kernel) (fun _ _ _ h => h) (Or.inl ⟨by rfl, ?hy⟩) hcur ?_
                case hy =>
                  intro w1 hSw
                  replace hSw : Below W.heap.size W w1 := hSw
                  obtain ⟨x0, x1, x2, x3, x4⟩ := id (HQ.out.1.up hSw HQ.out.2.2.1)
                  obtain ⟨y0, y1, y2, y3, y4⟩ := id (HQ.out.2.1.up hSw HQ.out.2.2.2.1)
                  simp only [] at x0 x1 x2 x3 x4 y0 y1 y2 y3 y4
                  go_simp
                  (try with_reducible rfl)
                (try simp only [Act.put, List.getElem_toArray, List.getElem_cons_zero, List.getElem_cons_succ, List.setIfInBounds_toArray, List.set_cons_zero, List.set_cons_succ])
                refine wpAnyH_take (i := 4) (v := ?_) rfl (by decide +kernel) (by decide +kernel) (by decide +kernel) (fun _ _ _ h => h) (Or.inl ⟨by rfl, ?hy⟩) hcur ?_
                case hy =>
                  intro w1 hSw
                  replace hSw : Below W.heap.size W w1 := hSw
                  obtain ⟨x0, x1, x2, x3, x4⟩ := id (HQ.out.1.up hSw HQ.out.2.2.1)
                  obtain ⟨y0, y1, y2, y3, y4⟩ := id (HQ.out.2.1.up hSw HQ.out.2.2.2.1)
                  simp only [] at x0 x1 x2 x3 x4 y0 y1 y2 y3 y4
                  go_simp
                  (try with_reducible rfl)
                (try simp only [Act.put, List.getElem_toArray, List.getElem_cons_zero, List.getElem_cons_succ, List.setIfInBounds_toArray, List.set_cons_zero, List.set_cons_succ])
                refine wpAnyH_take (i := 5) (v := ?_) rfl (by decide +kernel) (by decide +kernel) (by decide +kernel) (fun _ _ _ h => h) (Or.inl ⟨by rfl, ?hy⟩) hcur ?_
                case hy =>
                  intro w1 hSw
                  replace hSw : Below W.heap.size W w1 := hSw
                  obtain ⟨x0, x1, x2, x3, x4⟩ := id (HQ.out.1.up hSw HQ.out.2.2.1)
                  obtain ⟨y0, y1, y2, y3, y4⟩ := id (HQ.out.2.1.up hSw HQ.out.2.2.2.1)
                  simp only [] at x0 x1 x2 x3 x4 y0 y1 y2 y3 y4
                  go_simp
                  (try with_reducible rfl)
                (try simp only [Act.put, List.getElem_toArray, List.getElem_cons_zero, List.getElem_cons_succ, List.setIfInBounds_toArray, List.set_cons_zero, List.set_cons_succ])
                refine wpAnyH_take (i := 6) (v := ?_) rfl (by decide +kernel) (by decide +kernel) (by decide +kernel) (fun _ _ _ h => h) (Or.inl ⟨by rfl, ?hy⟩) hcur ?_
                case hy =>
                  intro w1 hSw
                  replace hSw : Below W.heap.size W w1 := hSw
                  obtain ⟨x0, x1, x2, x3, x4⟩ := id (HQ.out.1.up hSw HQ.out.2.2.1)
                  obtain ⟨y0, y1, y2, y3, y4⟩ := id (HQ.out.2.1.up hSw HQ.out.2.2.2.1)
                  simp only [] at x0 x1 x2 x3 x4 y0 y1 y2 y3 y4
                  go_simp
                  (try with_reducible rfl)
                (try simp only [Act.put, List.getElem_toArray, List.getElem_cons_zero, List.getElem_cons_succ, List.setIfInBounds_toArray, List.set_cons_zero, List.set_cons_succ])
                refine wpAnyH_take (i := 7) rfl (by decide +kernel) (by decide +kernel) (by decide +kernel) (fun _ _ _ h => h) (Or.inr ⟨by rfl, rfl⟩) hcur ?_
                (try simp only [Act.put, List.getElem_toArray, List.getElem_cons_zero, List.getElem_cons_succ, List.setIfInBounds_toArray, List.set_cons_zero, List.set_cons_succ])
                refine wpAnyH_take (i := 8) rfl (by decide +kernel) (by decide +kernel) (by decide +kernel) (fun _ _ _ h => h) (Or.inr ⟨by rfl, rfl⟩) hcur ?_
                (try simp only [Act.put, List.getElem_toArray, List.getElem_cons_zero, List.getElem_cons_succ, List.setIfInBounds_toArray, List.set_cons_zero, List.set_cons_succ])
                refine wpAnyH_take (i := 9) rfl (by decide +kernel) (by decide +kernel) (by decide +kernel) (fun _ _ _ h => h) (Or.inr ⟨by rfl, rfl⟩) hcur ?_
                (try simp only [Act.put, List.getElem_toArray, List.getElem_cons_zero, List.getElem_cons_succ, List.setIfInBounds_toArray, List.set_cons_zero, List.set_cons_succ])
                refine wpAnyH_take (i := 10) rfl (by decide +kernel) (by decide +kernel) (by decide +kernel) (fun _ _ _ h => h) (Or.inr ⟨by rfl, rfl⟩) hcur ?_
                (try simp only [Act.put, List.getElem_toArray, List.getElem_cons_zero, List.getElem_cons_succ, List.setIfInBounds_toArray, List.set_cons_zero, List.set_cons_succ])
                refine wpAnyH_take (i := 11) (v := ?_) rfl (by decide +kernel) (by decide +kernel) (by decide +kernel) (fun _ _ _ h => h) (Or.inl ⟨by rfl, ?hy⟩) hcur ?_
                case hy =>
                  intro w1 hSw
                  replace hSw : Below W.heap.size W w1 := hSw
                  obtain ⟨x0, x1, x2, x3, x4⟩ := id (HQ.out.1.up hSw HQ.out.2.2.1)
                  obtain ⟨y0, y1, y2, y3, y4⟩ := id (HQ.out.2.1.up hSw HQ.out.2.2.2.1)
                  simp only [] at x0 x1 x2 x3 x4 y0 y1 y2 y3 y4
                  go_simp
                  (try with_reducible rfl)
                (try simp only [Act.put, List.getElem_toArray, List.getElem_cons_zero, List.getElem_cons_succ, List.setIfInBounds_toArray, List.set_cons_zero, List.set_cons_succ])
                refine wpAnyH_take (i := 12) (v := ?_) rfl (by decide +kernel) (by decide +kernel) (by decide +kernel) (fun _ _ _ h => h) (Or.inl ⟨by rfl, ?hy⟩) hcur ?_
                case hy =>
                  intro w1 hSw
                  replace hSw : Below W.heap.size W w1 := hSw
                  obtain ⟨x0, x1, x2, x3, x4⟩ := id (HQ.out.1.up hSw HQ.out.2.2.1)
                  obtain ⟨y0, y1, y2, y3, y4⟩ := id (HQ.out.2.1.up hSw HQ.out.2.2.2.1)
                  simp only [] at x0 x1 x2 x3 x4 y0 y1 y2 y3 y4
                  go_simp
                  (try with_reducible rfl)
                (try simp only [Act.put, List.getElem_toArray, List.getElem_cons_zero, List.getElem_cons_succ, List.setIfInBounds_toArray, List.set_cons_zero, List.set_cons_succ])
                refine wpAnyH_take (i := 13) (v := ?_) rfl (by decide +kernel) (by decide +kernel) (by decide +kernel) (fun _ _ _ h => h) (Or.inl ⟨by rfl, ?hy⟩) hcur ?_
                case hy =>
                  intro w1 hSw
                  replace hSw : Below W.heap.size W w1 := hSw
                  obtain ⟨x0, x1, x2, x3, x4⟩ := id (HQ.out.1.up hSw HQ.out.2.2.1)
                  obtain ⟨y0, y1, y2, y3, y4⟩ := id (HQ.out.2.1.up hSw HQ.out.2.2.2.1)
                  simp only [] at x0 x1 x2 x3 x4 y0 y1 y2 y3 y4
                  go_simp
                  (try with_reducible rfl)
                (try simp only [Act.put, List.getElem_toArray, List.getElem_cons_zero, List.getElem_cons_succ, List.setIfInBounds_toArray, List.set_cons_zero, List.set_cons_succ])
                refine wpAnyH_take (i := 14) (v := ?_) rfl (by decide +kernel) (by decide +kernel) (by decide +kernel) (fun _ _ _ h => h) (Or.inl ⟨by rfl, ?hy⟩) hcur ?_
                case hy =>
                  intro w1 hSw
                  replace hSw : Below W.heap.size W w1 := hSw
                  obtain ⟨x0, x1, x2, x3, x4⟩ := id (HQ.out.1.up hSw HQ.out.2.2.1)
                  obtain ⟨y0, y1, y2, y3, y4⟩ := id (HQ.out.2.1.up hSw HQ.out.2.2.2.1)
                  simp only [] at x0 x1 x2 x3 x4 y0 y1 y2 y3 y4
                  go_simp
                  (try with_reducible rfl)
                (try simp only [Act.put, List.getElem_toArray, List.getElem_cons_zero, List.getElem_cons_succ, List.setIfInBounds_toArray, List.set_cons_zero, List.set_cons_succ])
                refine wpAnyH_take (i := 15) (v := ?_) rfl (by decide +kernel) (by decide +kernel) (by decide +kernel) (fun _ _ _ h => h) (Or.inl ⟨by rfl, ?hy⟩) hcur ?_
                case hy =>
                  intro w1 hSw
                  replace hSw : Below W.heap.size W w1 := hSw
                  obtain ⟨x0, x1, x2, x3, x4⟩ := id (HQ.out.1.up hSw HQ.out.2.2.1)
                  obtain ⟨y0, y1, y2, y3, y4⟩ := id (HQ.out.2.1.up hSw HQ.out.2.2.2.1)
                  simp only [] at x0 x1 x2 x3 x4 y0 y1 y2 y3 y4
                  go_simp
                  (try with_reducible rfl)
                (try simp only [Act.put, List.getElem_toArray, List.getElem_cons_zero, List.getElem_cons_succ, List.setIfInBounds_toArray, List.set_cons_zero, List.set_cons_succ])
                refine wpAnyH_take (i := 16) (v := ?_) rfl (by decide +kernel) (by decide +kernel) (by decide +kernel) (fun _ _ _ h => h) (Or.inl ⟨by rfl, ?hy⟩) hcur ?_
                case hy =>
                  intro w1 hSw
                  replace hSw : Below W.heap.size W w1 := hSw
                  obtain ⟨x0, x1, x2, x3, x4⟩ := id (HQ.out.1.up hSw HQ.out.2.2.1)
                  obtain ⟨y0, y1, y2, y3, y4⟩ := id (HQ.out.2.1.up hSw HQ.out.2.2.2.1)
                  simp only [] at x0 x1 x2 x3 x4 y0 y1 y2 y3 y4
                  go_simp
                  (try with_reducible rfl)
                (try simp only [Act.put, List.getElem_toArray, List.getElem_cons_zero, List.getElem_cons_succ, List.setIfInBounds_toArray, List.set_cons_zero, List.set_cons_succ])
                refine wpAnyH_take (i := 17) (v := ?_) rfl (by decide +kernel) (by decide +kernel) (by decide +kernel) (fun _ _ _ h => h) (Or.inl ⟨by rfl, ?hy⟩) hcur ?_
                case hy =>
                  intro w1 hSw
                  replace hSw : Below W.heap.size W w1 := hSw
                  obtain ⟨x0, x1, x2, x3, x4⟩ := id (HQ.out.1.up hSw HQ.out.2.2.1)
                  obtain ⟨y0, y1, y2, y3, y4⟩ := id (HQ.out.2.1.up hSw HQ.out.2.2.2.1)
                  simp only [] at x0 x1 x2 x3 x4 y0 y1 y2 y3 y4
                  go_simp
                  (try with_reducible rfl)
                (try simp only [Act.put, List.getElem_toArray, List.getElem_cons_zero, List.getElem_cons_succ, List.setIfInBounds_toArray, List.set_cons_zero, List.set_cons_succ])
                refine wpAnyH_take (i := 18) (v := ?_) rfl (by decide +kernel) (by decide +kernel) (by decide +kernel) (fun _ _ _ h => h) (Or.inl ⟨by rfl, ?hy⟩) hcur ?_
                case hy =>
                  intro w1 hSw
                  replace hSw : Below W.heap.size W w1 := hSw
                  obtain ⟨x0, x1, x2, x3, x4⟩ := id (HQ.out.1.up hSw HQ.out.2.2.1)
                  obtain ⟨y0, y1, y2, y3, y4⟩ := id (HQ.out.2.1.up hSw HQ.out.2.2.2.1)
                  simp only [] at x0 x1 x2 x3 x4 y0 y1 y2 y3 y4
                  go_simp
                  (try with_reducible rfl)
                (try simp only [Act.put, List.getElem_toArray, List.getElem_cons_zero, List.getElem_cons_succ, List.setIfInBounds_toArray, List.set_cons_zero, List.set_cons_succ])
                refine wpAnyH_take (i := 19) (v := ?_) rfl (by decide +kernel) (by decide +kernel) (by decide +kernel) (fun _ _ _ h => h) (Or.inl ⟨by rfl, ?hy⟩) hcur ?_
                case hy =>
                  intro w1 hSw
                  replace hSw : Below W.heap.size W w1 := hSw
                  obtain ⟨x0, x1, x2, x3, x4⟩ := id (HQ.out.1.up hSw HQ.out.2.2.1)
                  obtain ⟨y0, y1, y2, y3, y4⟩ := id (HQ.out.2.1.up hSw HQ.out.2.2.2.1)
                  simp only [] at x0 x1 x2 x3 x4 y0 y1 y2 y3 y4
                  go_simp
                  (try with_reducible rfl)
                (try simp only [Act.put, List.getElem_toArray, List.getElem_cons_zero, List.getElem_cons_succ, List.setIfInBounds_toArray, List.set_cons_zero, List.set_cons_succ])
                refine wpAnyH_take (i := 20) (v := ?_) rfl (by decide +kernel) (by decide +kernel) (by decide +kernel) (fun _ _ _ h => h) (Or.inl ⟨by rfl, ?hy⟩) hcur ?_
                case hy =>
                  intro w1 hSw
                  replace hSw : Below W.heap.size W w1 := hSw
                  obtain ⟨x0, x1, x2, x3, x4⟩ := id (HQ.out.1.up hSw HQ.out.2.2.1)
                  obtain ⟨y0, y1, y2, y3, y4⟩ := id (HQ.out.2.1.up hSw HQ.out.2.2.2.1)
                  simp only [] at x0 x1 x2 x3 x4 y0 y1 y2 y3 y4
                  go_simp
                  (try with_reducible rfl)
                (try simp only [Act.put, List.getElem_toArray, List.getElem_cons_zero, List.getElem_cons_succ, List.setIfInBounds_toArray, List.set_cons_zero, List.set_cons_succ])
                refine wpAnyH_take (i := 21) (v := ?_) rfl (by decide +kernel) (by decide +kernel) (by decide +kernel) (fun _ _ _ h => h) (Or.inl ⟨by rfl, ?hy⟩) hcur ?_
                case hy =>
                  intro w1 hSw
                  replace hSw : Below W.heap.size W w1 := hSw
                  obtain ⟨x0, x1, x2, x3, x4⟩ := id (HQ.out.1.up hSw HQ.out.2.2.1)
                  obtain ⟨y0, y1, y2, y3, y4⟩ := id (HQ.out.2.1.up hSw HQ.out.2.2.2.1)
                  simp only [] at x0 x1 x2 x3 x4 y0 y1 y2 y3 y4
                  go_simp
                  (try with_reducible rfl)
                (try simp only [Act.put, List.getElem_toArray, List.getElem_cons_zero, List.getElem_cons_succ, List.setIfInBounds_toArray, List.set_cons_zero, List.set_cons_succ])
                refine wpAnyH_done (by decide +kernel) ?_ _
                go_wp2_with fail
                refine (eyefault_any ep sb [] 10 _ (HQ.out.2.2.2.2.1.below hcur)).mono ?_
                rintro e w6 ⟨rfl, rfl⟩
                go_wp2_with fail
                refine (lives16_any _).mono ?_
                rintro e w7 ⟨rfl, hb7⟩
                go_wp2_with fail
                go_ret
                exact ⟨rfl, below_of (below_of HQ.out.2.2.2.2.2 hcur) hb7⟩
            · have hj2 : xs.drop j = [] := List.drop_eq_nil_of_le (by omega)
              have hH := H.out
              rw [hj2] at hH
              have H' := Lib.hid hH
              clear hH H hj2
              go_wp2_with fail
              refine (eyeclose_any ep sb [] 0 _ H'.out.2.1 (by decide)).mono ?_
              rintro e w6 ⟨rfl, rfl⟩
              have hcl : eyeClose [] 0 = 0 := by decide
              rw [hcl]
              go_wp2_with fail
              refine (lives16_any _).mono ?_
              rintro e w7 ⟨rfl, hb7⟩
              go_wp2_with fail
              go_ret
              exact ⟨rfl, below_of H'.out.2.2 hb7⟩

end Go.Proofs.Ythbafbgnclpbpaa
