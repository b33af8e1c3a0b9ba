/- Contract of bowerref39.Write. -/
import Derived.Test.YthbafbgnclpbpaaHWrA
import Derived.Test.YthbafbgnclpbpaaHistB
namespace Go.Proofs.Ythbafbgnclpbpaa
open Go.RowKit

/-- A row of bytes is laid behind an own row. -/
theorem Ow.app {B : Nat} {W0 W : World} {L : List (Nat × Obj)} {R : List RowT} (h : Ow B W0 W L R) (i : Nat) {n c c2 : Nat} {A A2 : Option Addr} {l m : List Nat} (hi : R[i]? = some ⟨5, 1, .slice A n c, n, u8s l⟩)
    (hr : Rd W W.heap.size 1 A2 m.length (u8s m)) (hm : 0 < m.length) (hl : n + m.length ≤ 1000000) :
    ∃ A' c' W1, (Builtin.append_ #[38, 38] 38 #[.slice A n c, .slice A2 m.length c2]).run Try.prog W = .ok (.slice A' (n + m.length) c') W1 ∧
      Ow B W0 W1 L (R.set i ⟨5, 1, .slice A' (n + m.length) c', n + m.length, u8s (l ++ m)⟩) := by
  obtain ⟨inf, hinf, hz, hs, hb⟩ := info_parts pen_info
  have hil : i < R.length := (List.getElem?_eq_some_iff.1 hi).1
  obtain ⟨ad, rfl, hc⟩ := hr.src (by rw [u8s_length]; exact hm)
  obtain ⟨v', W1, hrun, ho, hg, _, hor⟩ := run_append_own_at (P := Try.prog) W B 38 38 5 inf (.int .u8 0) 1 1 Try.underlying38 hinf hz hs hb rfl (by omega) (.slice A n c) n (u8s l) (h.own i _ hi)
    ad m.length c2 (u8s m) (by rw [u8s_length]; omega) hc (u8s_one m) (by unfold maxLen; omega) (by omega) h.sx.le
  obtain ⟨A', c', rfl, _⟩ := owns_slice ho
  have hO := Off.of_grown hg
  have hnew : ∀ k, (Value.slice A' (n + m.length) c').ownBlock = some k → (Value.slice A n c).ownBlock = some k ∨ W.heap.size ≤ k := by
    intro k hk
    rcases hor with e | e
    · exact .inl (by rw [← e]; exact hk)
    · rw [e] at hk
      injection hk with hk
      exact .inr (by omega)
  have key : ∀ (j : Nat) (r : RowT), (R.set i ⟨5, 1, .slice A' (n + m.length) c', n + m.length, u8s (l ++ m)⟩)[j]? = some r → (i = j ∧ r = ⟨5, 1, .slice A' (n + m.length) c', n + m.length, u8s (l ++ m)⟩) ∨ (i ≠ j ∧ R[j]? = some r) := by
    intro j r hj
    by_cases e : i = j
    · subst e
      rw [List.getElem?_set_self hil] at hj
      injection hj with hj
      exact .inl ⟨rfl, hj.symm⟩
    · rw [List.getElem?_set_ne e] at hj
      exact .inr ⟨e, hj⟩
  refine ⟨A', c', W1, hrun, ⟨⟨?_, ?_, fun q g o hq => ?_, h.sx.ne⟩, fun j r hj => ?_, fun j q k r r' hjq hj hq hk hk' => ?_, fun j q k r p hj hk hq => ?_⟩⟩
  · exact hO.below h.sx.below h.sx.le (fun q hq e => by have := (own_lt (h.own i _ hi) e.symm).1; omega)
  · exact Nat.le_trans h.sx.le hO.size
  · have h3 := h.sx.has q g o hq
    exact ⟨(hO.block g (h.sx.lt hq) (fun e => h.nl i q g _ _ hi e.symm hq rfl)).trans h3.1, h3.2⟩
  · rcases key j r hj with ⟨_, rfl⟩ | ⟨e, hj⟩
    · rw [u8s_append]; exact ho
    · exact own_off (h.own j r hj) hO (fun k hk e2 => h.ne j i k r _ (fun e3 => e e3.symm) hj hi hk e2.symm)
  · rcases key j r hj with ⟨e0, rfl⟩ | ⟨e, hj⟩ <;> rcases key q r' hq with ⟨e0', rfl⟩ | ⟨e', hq⟩
    · omega
    · rcases hnew k hk with g | g
      · exact h.ne i q k _ r' e' hi hq g hk'
      · have := (own_lt (h.own q r' hq) hk').2
        omega
    · rcases hnew k hk' with g | g
      · exact h.ne j i k r _ (fun e3 => e e3.symm) hj hi hk g
      · have := (own_lt (h.own j r hj) hk).2
        omega
    · exact h.ne j q k r r' hjq hj hq hk hk'
  · rcases key j r hj with ⟨_, rfl⟩ | ⟨_, hj⟩
    · rcases hnew k hk with g | g
      · exact h.nl i q k _ p hi g hq
      · have := h.sx.lt (i := q) (g := p.1) (o := p.2) hq
        omega
    · exact h.nl j q k r p hj hk hq
theorem Ow.bare {B : Nat} {W0 W : World} {L : List (Nat × Obj)} {R : List RowT} (h : Ow B W0 W L R) : Ow B W0 W [] R :=
  ⟨⟨h.sx.below, h.sx.le, fun i g o q => by simp at q, fun i j p q _ r => by simp at r⟩, h.own, h.ne, fun i j k r p _ _ q => by simp at q⟩
theorem dig_pos' (n : Nat) : 0 < (dig n).length := dig_pos n

theorem nums_at {W : World} {g : Nat} {ns : List Nat} {T : TypeId} (h : W.heap[g]? = some (.cells (u64n ns).toArray T (0, 0))) (k : Nat) (hk : k < ns.length) : W.cell? ⟨g, k, none⟩ = some (.int .u64 (ns[k] : Int)) := by
  rw [cell_of_row W g k _ _ _ h]
  simp [u64n, hk]
theorem opBytes_pos' (o : OpD) : 0 < (opBytes o).length := by
  unfold opBytes
  split
  · rw [List.length_append]
    have := dig_pos o.kind.toNat
    omega
  · simp
theorem ansBytes_pos (a : AnsD) : 0 < (ansBytes a).length := by
  unfold ansBytes ansHead
  split
  · rw [List.length_append, List.length_append]
    have := dig_pos a.code.toNat
    omega
  · simp
set_option maxRecDepth 100000 in
set_option maxHeartbeats 16000000 in
theorem refwrite_yes (A : Option Addr) (c : Nat) (xs : List CallD) (w : World) (h : Cls w A xs.length xs) (hx : ∀ x ∈ xs, CallOk x) (hli : ∀ x ∈ xs, lightC x = true) (hsm : ∀ x ∈ xs, Small x) (hl : xs.length ≤ 40) (hm : mayC xs = true) :
    Calls Try.prog 66 #[.slice A xs.length c] w (Made (histBytes xs) w) := by
  have HCh := Lib.hid (refmay_any A c xs w h hx (by omega))
  rw [hm] at HCh
  have HH := Lib.hid h
  have HXO := Lib.hid hx
  have HLi := Lib.hid hli
  have HSm := Lib.hid hsm
  have HMy := Lib.hid ((mayC_iff xs).1 hm)
  have HLB := Lib.hid (fun j => callsBytes_len (xs.take j) (fun x hx => hli x (List.mem_of_mem_take hx)))
  clear h hx hli hsm hm
  go_enter Try.func66, Try.ntmps66
  go_wp2_with fail
  refine HCh.out.mono ?_
  rintro e w0 ⟨rfl, hb0⟩
  have hwn : IntKind.u64.wrap (xs.length : Int) = (xs.length : Int) := by rw [IntKind.wrap_u64]; omega
  go_wp2_with fail
  refine (refnum_any xs.length _ (by omega)).mono ?_
  rintro e w2 ⟨A0, c0, rfl, hown, hbn⟩
  have hO := ((Ow.start (Sx.start0 w)).call hb0).row hbn hown
  simp only [List.nil_append] at hO
  obtain ⟨n0, hn0⟩ : ∃ n0, n0 = (dig xs.length).length := ⟨_, rfl⟩
  rw [← hn0] at hO ⊢
  have HO := Lib.hid (show Ow w.heap.size w w2 [] [⟨5, 1, .slice A0 n0 c0, n0, u8s (dig xs.length ++ callsBytes (xs.take 0))⟩] by simpa [callsBytes] using hO)
  have HD0 := Lib.hid (show n0 = (dig xs.length ++ callsBytes (xs.take 0)).length by simp [callsBytes, hn0])
  clear hO hown hbn hn0 HCh hb0
  go_wp2_with fail
  go_loopw [3, 4, 5, 6, 7] (fun v i _ _ _ wr => ∃ (j n : Nat) (A1 : Option Addr) (c1 : Nat), i = .int .i64 j ∧ v = .slice A1 n c1 ∧ Hid (j ≤ xs.length ∧ n = (dig xs.length ++ callsBytes (xs.take j)).length ∧ Ow w.heap.size w wr [] [⟨5, 1, .slice A1 n c1, n, u8s (dig xs.length ++ callsBytes (xs.take j))⟩])) (fun _ i _ _ _ _ => xs.length - (intOf i).toNat)
  case atStart => exact ⟨0, n0, A0, c0, rfl, rfl, Nat.zero_le _, HD0.out, HO.out⟩
  case round =>
    obtain ⟨j, n, A1, c1, rfl, rfl, H⟩ := hrel
    clear HO HD0
    have HO := Lib.hid H.out.2.2
    by_cases hlt : j < xs.length
    · obtain ⟨b, off, hjl, rfl, hbw, hca, hpr⟩ := (HH.out.up HO.out.below).at_ hlt
      have hmem := List.getElem_mem hjl
      have hok := HXO.out _ hmem
      have hlc := HLi.out _ hmem
      have hsmall := HSm.out _ hmem
      have hsnd := ((HMy.out j hjl).1)
      have hpr0 := HH.out.2.1 _ hmem
      have HT := Lib.hid (show dig xs.length ++ callsBytes (xs.take (j + 1)) = (dig xs.length ++ callsBytes (xs.take j)) ++ callBytes xs[j] by rw [callsBytes_take xs j hlt, List.append_assoc])
      have hlen : n ≤ 568100 := by
        have h0 := H.out.2.1
        have h1 := HLB.out j
        have h2 := dig_len xs.length
        rw [List.length_take, Nat.min_eq_left (by omega)] at h1
        rw [List.length_append] at h0
        omega
      have hnL := H.out.2.1
      generalize dig xs.length ++ callsBytes (xs.take j) = L at HO HT hnL
      clear H hbw hmem hpr
      generalize xs[j] = x at hca hok hlc hsmall hsnd hpr0 HT
      have HNL := Lib.hid hlen
      have HNE := Lib.hid hnL
      have hnn := sndC_nums hsnd
      unfold lightC at hlc
      rw [Bool.and_eq_true] at hlc
      have hol : x.op.key.size ≤ 200 ∧ x.op.upto.size ≤ 200 := of_decide_eq_true hlc.1
      have HSo := Lib.hid (fun W => refsound16_any x.op W hok.op)
      have HB16 := Lib.hid (fun W => refbytes16_any x.op W hok.op (by omega) (by omega))
      have HB17 := Lib.hid (fun W hW => refbytes17_any x.ans x.pa x.pc W hW hok.ans hlc.2)
      have HPR := Lib.hid hpr0
      have HOB := Lib.hid (show (opBytes x.op).length ≤ 522 by
        have h1 := opsBytes_len [x.op] (fun y hy => by rw [List.mem_singleton] at hy; subst hy; exact hol)
        simpa [opsBytes] using h1)
      have HAB := Lib.hid (ansBytes_le hlc.2)
      obtain ⟨tn, htn⟩ := Int.eq_ofNat_of_zero_le hnn.1.1
      obtain ⟨sn, hsn⟩ := Int.eq_ofNat_of_zero_le hnn.2.1
      obtain ⟨en, hen⟩ := Int.eq_ofNat_of_zero_le hnn.2.2.1
      obtain ⟨dn, hdn⟩ := Int.eq_ofNat_of_zero_le (show 0 ≤ x.done + 1 by have := hnn.2.2.2.1; omega)
      obtain ⟨un, hun⟩ := Int.eq_ofNat_of_zero_le (show 0 ≤ x.upto + 1 by have := hnn.2.2.2.2.1; omega)
      have hs1 := hsmall.since
      have hs2 := hsmall.done
      have hs3 := hsmall.upto
      have hs4 := hsmall.steps
      have hth := hnn.1.2
      obtain ⟨thread, op, since, done, upto, steps, short, ans, pa, pc⟩ := x
      simp only [] at htn hsn hen hdn hun hs1 hs2 hs3 hs4 hth HSo HB16 HB17 HPR HOB HAB
      subst htn hsn hen
      have hw1 : IntKind.u64.wrap (tn : Int) = (tn : Int) := by rw [IntKind.wrap_u64]; omega
      have hw2 : IntKind.u64.wrap (sn : Int) = (sn : Int) := by rw [IntKind.wrap_u64]; omega
      have hw3 : IntKind.u64.wrap (done + 1) = (dn : Int) := by rw [IntKind.wrap_u64]; omega
      have hw4 : IntKind.u64.wrap (upto + 1) = (un : Int) := by rw [IntKind.wrap_u64]; omega
      have hw5 : IntKind.u64.wrap (en : Int) = (en : Int) := by rw [IntKind.wrap_u64]; omega
      have hw6 : wrap64 (done + 1) = done + 1 := by unfold wrap64; omega
      have hw7 : wrap64 (upto + 1) = upto + 1 := by unfold wrap64; omega
      have HNB := Lib.hid (show ∀ b1 b2 : Bool, ∀ n ∈ [tn, sn, dn, un, en, bits1 b1, bits1 b2], n < 18446744073709551616 by
        intro b1 b2 n hn
        have h1 : bits1 b1 ≤ 1 := by cases b1 <;> decide
        have h2 : bits1 b2 ≤ 1 := by cases b2 <;> decide
        simp at hn
        omega)
      have HDN := Lib.hid (And.intro (show (done + 1).toNat = dn by omega) (show (upto + 1).toNat = un by omega))
      clear hdn hun hs1 hs2 hs3 hs4 hth hsnd hok hlc hsmall hpr0 hnn hlen hnL hol
      obtain ⟨d0, d1, d2, d3, d4, d5, d6, d7, d8, d9, d10, d11, d12, d13, d14⟩ := hca
      simp only [] at d0 d1 d2 d3 d4 d5 d6 d7 d8 d9 d10 d11 d12 d13 d14
      have hO := HO.out.alloc (.cells #[.int .i64 (tn : Int), .int .i64 op.kind, .string op.key, .string op.upto, .int .u64 (op.val : Int), .int .i64 op.limit, .int .i64 (sn : Int), .int .i64 done, .int .i64 upto, .int .i64 (en : Int), .bool short, .int .i64 ans.code, .string ans.key, .int .u64 (ans.val : Int), .slice pa ans.pairs.length pc] 71)
      simp only [List.nil_append] at hO
      go_upto_region 8 with fail
      clear d0 d1 d2 d3 d4 d5 d6 d7 d8 d9 d10 d11 d12 d13 d14
      generalize wr.alloc _ = W2 at hO ⊢
      generalize wr.heap.size = g5 at hO ⊢
      replace HO := Lib.hid hO
      clear hO
      obtain ⟨x0, x1, x2, x3, x4, x5, x6, x7, x8, x9, x10, x11, x12, x13, x14⟩ := call15 (HO.out.sx.has 0 _ _ rfl).1
      have hO := HO.out.alloc (.cells #[.int .u64 (tn : Int), .int .u64 (sn : Int), .int .u64 (dn : Int), .int .u64 (un : Int), .int .u64 (en : Int), .int .u64 0, .int .u64 0] 22)
      simp only [List.cons_append, List.nil_append] at hO
      go_upto_region 9 with fail
      clear x0 x1 x2 x3 x4 x5 x6 x7 x8 x9 x10 x11 x12 x13 x14
      generalize W2.alloc _ = W3 at hO ⊢
      generalize W2.heap.size = g6 at hO ⊢
      replace HO := Lib.hid hO
      clear hO
      obtain ⟨x0, x1, x2, x3, x4, x5, x6, x7, x8, x9, x10, x11, x12, x13, x14⟩ := call15 (HO.out.sx.has 0 _ _ rfl).1
      go_upto_if 44 with fail
      clear x0 x1 x2 x3 x4 x5 x6 x7 x8 x9 x10 x11 x12 x13 x14
      go_cut [] (fun wx => Hid (Ow w.heap.size w wx [(g5, .cells #[.int .i64 (tn : Int), .int .i64 op.kind, .string op.key, .string op.upto, .int .u64 (op.val : Int), .int .i64 op.limit, .int .i64 (sn : Int), .int .i64 done, .int .i64 upto, .int .i64 (en : Int), .bool short, .int .i64 ans.code, .string ans.key, .int .u64 (ans.val : Int), .slice pa ans.pairs.length pc] 71), (g6, .cells (u64n [tn, sn, dn, un, en, bits1 short, 0]).toArray 22)] [⟨5, 1, .slice A1 n c1, n, u8s L⟩]))
      case first =>
        cases short
        · go_wp2_with fail
          go_meet
          exact HO
        · have hN := (HO.out.sx.has 1 _ _ rfl).1
          have yk : W3.cell? ⟨g6, 5, none⟩ = some (.int .u64 0) := by rw [cell_of_row W3 g6 5 _ _ _ hN]; rfl
          have fk := heap_frozen hN 5
          clear hN
          have hO := HO.out.setc 1 rfl 5 (.int .u64 1)
          simp only [List.set_cons_zero, List.set_cons_succ] at hO
          have HO9 := Lib.hid hO
          clear hO
          go_wp2_with fail
          go_meet
          exact HO9
      case rest =>
        clear HO
        have HO := hcut
        clear hcut
        obtain ⟨x0, x1, x2, x3, x4, x5, x6, x7, x8, x9, x10, x11, x12, x13, x14⟩ := call15 (HO.out.sx.has 0 _ _ rfl).1
        go_wp2_with fail
        refine (HSo.out _).mono ?_
        rintro e wm ⟨rfl, hbn⟩
        clear x0 x1 x2 x3 x4 x5 x6 x7 x8 x9 x10 x11 x12 x13 x14
        replace HO := Lib.hid (HO.out.call hbn)
        clear hbn
        go_upto_if 49 with fail
        go_cut [] (fun wx => Hid (Ow w.heap.size w wx [(g5, .cells #[.int .i64 (tn : Int), .int .i64 op.kind, .string op.key, .string op.upto, .int .u64 (op.val : Int), .int .i64 op.limit, .int .i64 (sn : Int), .int .i64 done, .int .i64 upto, .int .i64 (en : Int), .bool short, .int .i64 ans.code, .string ans.key, .int .u64 (ans.val : Int), .slice pa ans.pairs.length pc] 71), (g6, .cells (u64n [tn, sn, dn, un, en, bits1 short, bits1 (opB op)]).toArray 22)] [⟨5, 1, .slice A1 n c1, n, u8s L⟩]))
        case first =>
          cases hob : opB op
          · have HOP := Lib.hid hob
            clear hob
            go_wp2_with fail
            go_meet
            exact Lib.hid (by have h := HO.out; rw [HOP.out]; simpa [u64n, bits1] using h)
          · have HOP := Lib.hid hob
            clear hob
            have hN := (HO.out.sx.has 1 _ _ rfl).1
            have yk : wm.cell? ⟨g6, 6, none⟩ = some (.int .u64 0) := by rw [cell_of_row wm g6 6 _ _ _ hN]; rfl
            have fk := heap_frozen hN 6
            clear hN
            have hO := HO.out.setc 1 rfl 6 (.int .u64 1)
            simp only [List.set_cons_zero, List.set_cons_succ] at hO
            have HO9 := Lib.hid hO
            clear hO
            go_wp2_with fail
            go_meet
            exact Lib.hid (by have h := HO9.out; rw [HOP.out]; simpa [u64n, bits1] using h)
        case rest =>
          clear HO
          obtain ⟨NS, hNS⟩ : ∃ NS, NS = [tn, sn, dn, un, en, bits1 short, bits1 (opB op)] := ⟨_, rfl⟩
          have hcc := hcut.out
          rw [← hNS] at hcc
          have HO := Lib.hid hcc
          have HN7 := Lib.hid (show NS.length = 7 by rw [hNS]; rfl)
          have HNQ := Lib.hid (show ∀ m ∈ NS, m < 18446744073709551616 by rw [hNS]; exact HNB.out short (opB op))
          have HN6 := Lib.hid (show NS[6]? = some (bits1 (opB op)) by rw [hNS]; rfl)
          have HCB := Lib.hid (show NS.flatMap dig = callHead ⟨(tn : Int), op, (sn : Int), done, upto, (en : Int), short, ans, pa, pc⟩ by
            have h1 : dig (bits1 short) = [bits1 short] := dig_small (by cases short <;> decide)
            have h2 : dig (bits1 (opB op)) = [bits1 (opB op)] := dig_small (by cases opB op <;> decide)
            rw [hNS]
            unfold callHead
            simp only [List.flatMap_cons, List.flatMap_nil, List.append_nil, Int.toNat_natCast, HDN.out.1, HDN.out.2, h1, h2]
            rfl)
          clear hcc hcut hNS HNB HDN
          have hO0 := HO.out
          rw [show L = L ++ (NS.take 0).flatMap dig from by simp] at hO0
          have HO0 := Lib.hid hO0
          clear hO0
          have HNE0 := Lib.hid (show n = (L ++ (NS.take 0).flatMap dig).length by simpa using HNE.out)
          clear HO
          go_wp2_with fail
          go_loopw [3, 7] (fun v k wr => ∃ (q n1 : Nat) (A2 : Option Addr) (c2 : Nat), k = .int .i64 q ∧ v = .slice A2 n1 c2 ∧ Hid (q ≤ 7 ∧ n1 = (L ++ (NS.take q).flatMap dig).length ∧ Ow w.heap.size w wr [(g5, .cells #[.int .i64 (tn : Int), .int .i64 op.kind, .string op.key, .string op.upto, .int .u64 (op.val : Int), .int .i64 op.limit, .int .i64 (sn : Int), .int .i64 done, .int .i64 upto, .int .i64 (en : Int), .bool short, .int .i64 ans.code, .string ans.key, .int .u64 (ans.val : Int), .slice pa ans.pairs.length pc] 71), (g6, .cells (u64n NS).toArray 22)] [⟨5, 1, .slice A2 n1 c2, n1, u8s (L ++ (NS.take q).flatMap dig)⟩])) (fun _ k _ => 7 - (intOf k).toNat)
          case atStart => exact ⟨0, n, A1, c1, rfl, rfl, by omega, HNE0.out, HO0.out⟩
          case round =>
            obtain ⟨q, n1, A2, c2, rfl, rfl, H⟩ := hrel
            clear HO0 HNE0
            have HO := Lib.hid H.out.2.2
            have hq7 := H.out.1
            have hn1 := H.out.2.1
            have hnb : n1 ≤ 568200 := by
              have h1 := flat_len (NS.take q)
              rw [List.length_take, Nat.min_eq_left (by have := HN7.out; omega)] at h1
              rw [List.length_append, ← HNE.out] at hn1
              have := HNL.out
              omega
            have HNL1 := Lib.hid hnb
            clear H hnb
            by_cases hlq : q < 7
            · have hqn : q < NS.length := by rw [HN7.out]; exact hlq
              have k0 := nums_at (HO.out.sx.has 1 _ _ rfl).1 q hqn
              have hm := HNQ.out _ (List.getElem_mem hqn)
              have HFT := Lib.hid (show L ++ (NS.take (q + 1)).flatMap dig = (L ++ (NS.take q).flatMap dig) ++ dig NS[q] by rw [flat_take dig NS q hqn, List.append_assoc])
              generalize L ++ (NS.take q).flatMap dig = L1 at HO HFT hn1
              generalize NS[q] = m at k0 hm HFT
              have HN1 := Lib.hid hn1
              have HMB := Lib.hid (dig_len m)
              clear hn1
              go_wp2_with fail
              refine (refnum_any m _ hm).mono ?_
              rintro e w5 ⟨A5, c5, rfl, hown, hbn⟩
              clear k0
              obtain ⟨A6, c6, w6, hrun, hO⟩ := (HO.out.call hbn).app 0 rfl (c2 := c5) (Rd.of_own hown) (dig_pos m) (by have := HNL1.out; have := HMB.out; omega)
              have Hrun := Lib.hid hrun
              simp only [List.set_cons_zero] at hO
              replace HO := Lib.hid hO
              clear hrun hO hown hbn
              go_wp2_with (at_builtin; refine wpList_append_run rfl (.tmp 56) (.tmp 61) 38 rfl rfl rfl Hrun.out ?_)
              go_roundw
              case rel => exact ⟨q + 1, _, A6, c6, by go_num, rfl, by omega, by rw [HFT.out, List.length_append, HN1.out], by rw [HFT.out]; exact HO.out⟩
              case measure => simp [intOf]; omega
            · obtain rfl : q = 7 := by omega
              have h6 : 6 < NS.length := by rw [HN7.out]; omega
              have k6 := nums_at (HO.out.sx.has 1 _ _ rfl).1 6 h6
              have e6 : NS[6] = bits1 (opB op) := by
                have := HN6.out
                rw [List.getElem?_eq_getElem h6] at this
                exact Option.some.inj this
              rw [e6] at k6
              rw [List.take_of_length_le (by rw [HN7.out]; omega), HCB.out] at hn1
              have hO := HO.out
              rw [List.take_of_length_le (by rw [HN7.out]; omega), HCB.out] at hO
              replace HO := Lib.hid hO
              have HN1 := Lib.hid hn1
              clear hO hn1 e6 h6 HCB HN6 HNQ HN7 hlq hq7
              generalize hL1 : L ++ callHead ⟨(tn : Int), op, (sn : Int), done, upto, (en : Int), short, ans, pa, pc⟩ = L1 at HO HN1
              have HL1 := Lib.hid hL1
              clear hL1
              cases hob : opB op
              · rw [hob] at k6
                have HOP := Lib.hid hob
                clear hob
                have k7 : wr.cell? ⟨g6, 6, none⟩ = some (.int .u64 0) := k6
                clear k6
                obtain ⟨x0, x1, x2, x3, x4, x5, x6, x7, x8, x9, x10, x11, x12, x13, x14⟩ := call15 (HO.out.sx.has 0 _ _ rfl).1
                have HNX := Lib.hid (show n1 ≤ 569000 by have := HNL1.out; omega)
                by_cases hu : upto = -1
                · have hub : (upto != (-1 : Int)) = false := by rw [hu]; rfl
                  have HU := Lib.hid hu
                  clear hu
                  go_wp2_with fail
                  go_roundw
                  case rel =>
                    refine ⟨j + 1, n1, A2, c2, by go_num, rfl, by omega, ?_, ?_⟩
                    · rw [HT.out, HN1.out, ← HL1.out]
                      unfold callBytes callOp callAns
                      simp only [HOP.out, Bool.false_eq_true, if_false, if_pos HU.out, List.append_nil]
                    · have h := HO.out.bare
                      rw [HT.out]
                      rw [← HL1.out] at h
                      unfold callBytes callOp callAns
                      simpa only [HOP.out, Bool.false_eq_true, if_false, if_pos HU.out, List.append_nil, List.append_assoc] using h
                  case measure => simp [intOf]; omega
                · have hub : (upto != (-1 : Int)) = true := by simp [hu]
                  have HU := Lib.hid hu
                  clear hu
                  go_wp2_with fail
                  refine (HB17.out _ (HPR.out.up HO.out.below)).mono ?_
                  rintro e w5 ⟨A7, c7, rfl, hown, hbn⟩
                  clear x0 x1 x2 x3 x4 x5 x6 x7 x8 x9 x10 x11 x12 x13 x14
                  obtain ⟨A8, c8, w8, hrun, hO⟩ := (HO.out.call hbn).app 0 rfl (c2 := c7) (Rd.of_own hown) (ansBytes_pos ans) (by have := HNX.out; have := HAB.out; omega)
                  have Hrun := Lib.hid hrun
                  simp only [List.set_cons_zero] at hO
                  replace HO := Lib.hid hO
                  clear hrun hO hown hbn
                  go_wp2_with (at_builtin; refine wpList_append_run rfl (.tmp 75) (.tmp 78) 38 rfl rfl rfl Hrun.out ?_)
                  go_roundw
                  case rel =>
                    refine ⟨j + 1, n1 + (ansBytes ans).length, A8, c8, by go_num, rfl, by omega, ?_, ?_⟩
                    · rw [HT.out, HN1.out, ← HL1.out]
                      unfold callBytes callOp callAns
                      simp only [HOP.out, Bool.false_eq_true, if_false, if_neg HU.out, List.nil_append, List.length_append]
                      omega
                    · have h := HO.out.bare
                      rw [HT.out]
                      rw [← HL1.out] at h
                      unfold callBytes callOp callAns
                      simpa only [HOP.out, Bool.false_eq_true, if_false, if_neg HU.out, List.nil_append, List.append_assoc] using h
                  case measure => simp [intOf]; omega
              · rw [hob] at k6
                have HOP := Lib.hid hob
                clear hob
                have k7 : wr.cell? ⟨g6, 6, none⟩ = some (.int .u64 1) := k6
                clear k6
                obtain ⟨x0, x1, x2, x3, x4, x5, x6, x7, x8, x9, x10, x11, x12, x13, x14⟩ := call15 (HO.out.sx.has 0 _ _ rfl).1
                go_wp2_with fail
                refine (HB16.out _).mono ?_
                rintro e w5 ⟨A5, c5, rfl, hown, hbn⟩
                clear x0 x1 x2 x3 x4 x5 x6 x7 x8 x9 x10 x11 x12 x13 x14
                clear k7
                obtain ⟨A6, c6, w6, hrun, hO⟩ := (HO.out.call hbn).app 0 rfl (c2 := c5) (Rd.of_own hown) (opBytes_pos' op) (by have := HNL1.out; have := HOB.out; omega)
                have Hrun := Lib.hid hrun
                simp only [List.set_cons_zero] at hO
                replace HO := Lib.hid hO
                have HN2 := Lib.hid (show n1 + (opBytes op).length = (L1 ++ opBytes op).length by rw [List.length_append, HN1.out])
                have HNX := Lib.hid (show n1 + (opBytes op).length ≤ 569000 by have := HNL1.out; have := HOB.out; omega)
                clear hrun hO hown hbn
                go_upto_region 19 with (at_builtin; refine wpList_append_run rfl (.tmp 67) (.tmp 70) 38 rfl rfl rfl Hrun.out ?_)
                clear Hrun
                generalize hn2 : n1 + (opBytes op).length = n2 at HO HN2 HNX ⊢
                clear hn2
                obtain ⟨x0, x1, x2, x3, x4, x5, x6, x7, x8, x9, x10, x11, x12, x13, x14⟩ := call15 (HO.out.sx.has 0 _ _ rfl).1
                by_cases hu : upto = -1
                · have hub : (upto != (-1 : Int)) = false := by rw [hu]; rfl
                  have HU := Lib.hid hu
                  clear hu
                  go_wp2_with fail
                  go_roundw
                  case rel =>
                    refine ⟨j + 1, n2, A6, c6, by go_num, rfl, by omega, ?_, ?_⟩
                    · rw [HT.out, HN2.out, ← HL1.out]
                      unfold callBytes callOp callAns
                      simp only [HOP.out, if_true, if_pos HU.out, List.append_nil, List.append_assoc]
                    · have h := HO.out.bare
                      rw [HT.out]
                      rw [← HL1.out] at h
                      unfold callBytes callOp callAns
                      simpa only [HOP.out, if_true, if_pos HU.out, List.append_nil, List.append_assoc] using h
                  case measure => simp [intOf]; omega
                · have hub : (upto != (-1 : Int)) = true := by simp [hu]
                  have HU := Lib.hid hu
                  clear hu
                  go_wp2_with fail
                  refine (HB17.out _ (HPR.out.up HO.out.below)).mono ?_
                  rintro e w5 ⟨A7, c7, rfl, hown, hbn⟩
                  clear x0 x1 x2 x3 x4 x5 x6 x7 x8 x9 x10 x11 x12 x13 x14
                  obtain ⟨A8, c8, w8, hrun, hO⟩ := (HO.out.call hbn).app 0 rfl (c2 := c7) (Rd.of_own hown) (ansBytes_pos ans) (by have := HNX.out; have := HAB.out; omega)
                  have Hrun := Lib.hid hrun
                  simp only [List.set_cons_zero] at hO
                  replace HO := Lib.hid hO
                  clear hrun hO hown hbn
                  go_wp2_with (at_builtin; refine wpList_append_run rfl (.tmp 75) (.tmp 78) 38 rfl rfl rfl Hrun.out ?_)
                  go_roundw
                  case rel =>
                    refine ⟨j + 1, n2 + (ansBytes ans).length, A8, c8, by go_num, rfl, by omega, ?_, ?_⟩
                    · rw [HT.out, HN2.out, ← HL1.out]
                      unfold callBytes callOp callAns
                      simp only [HOP.out, if_true, if_neg HU.out, List.append_assoc, List.length_append]
                      omega
                    · have h := HO.out.bare
                      rw [HT.out]
                      rw [← HL1.out] at h
                      unfold callBytes callOp callAns
                      simpa only [HOP.out, if_true, if_neg HU.out, List.nil_append, List.append_assoc] using h
                  case measure => simp [intOf]; omega
    · obtain rfl : j = xs.length := by have := H.out.1; omega
      have hO := HO.out
      have hn := H.out.2.1
      rw [List.take_length] at hO hn
      have HF := Lib.hid (And.intro (hO.own 0 _ rfl) (And.intro hO.below hn))
      clear hO hn H HO
      go_wp2_with fail
      go_ret
      refine ⟨A1, c1, ?_, ?_, HF.out.2.1⟩
      · have := HF.out.2.2
        unfold histBytes
        rw [← this]
        rfl
      · have h1 := HF.out.1
        have h2 := HF.out.2.2
        unfold histBytes
        rw [← h2]
        exact h1

set_option maxHeartbeats 1000000 in
theorem refwrite_no (A : Option Addr) (c : Nat) (xs : List CallD) (w : World) (h : Cls w A xs.length xs) (hx : ∀ x ∈ xs, CallOk x) (hl : xs.length ≤ 40) (hm : mayC xs = false) :
    Calls Try.prog 66 #[.slice A xs.length c] w (Made [] w) := by
  have HCh := Lib.hid (refmay_any A c xs w h hx (by omega))
  rw [hm] at HCh
  go_enter Try.func66, Try.ntmps66
  go_wp2_with fail
  refine HCh.out.mono ?_
  rintro e w0 ⟨rfl, hb0⟩
  go_wp2_with fail
  go_ret
  exact ⟨none, 0, rfl, World.ownsRow_nil _ _ _ _, hb0⟩

end Go.Proofs.Ythbafbgnclpbpaa
