/- A pen that writes truths, operations behind what it has. -/
import Derived.Test.YthbafbgnclpbpaaHistB
import Derived.Test.YthbafbgnclpbpaaOpB
import Derived.Test.YthbafbgnclpbpaaAnsWrites
namespace Go.Proofs.Ythbafbgnclpbpaa
open Go.RowKit

def truB (bs : List Bool) : List Value := bs.map Value.bool
theorem truB_at (bs : List Bool) (k : Nat) (h : k < bs.length) : (truB bs)[k]? = some (.bool bs[k]) := by simp [truB, h]
set_option maxRecDepth 100000 in
set_option maxHeartbeats 1000000 in
theorem pentruths_any (bp : Nat) (r : Option Nat) (l : List Nat) (bs : List Bool) (g c : Nat) (w : World) (hp : PenAt w bp r l) (ht : Told w bp r g (truB bs)) (hl : l.length + 11 * bs.length ≤ 900000) :
    Calls Try.prog 77 #[.pointer (some ⟨bp, 0, none⟩), .slice (some ⟨g, 0, none⟩) bs.length c] w (PenTo w bp r (l ++ bs.map bits1)) := by
  go_enter Try.func77, Try.ntmps77
  go_wp2_with fail
  go_loopw [5, 6, 9] (fun _ _ i wr => ∃ (j : Nat) (r' : Option Nat), j ≤ bs.length ∧ i = .int .i64 j ∧ PenRel w bp r wr r' (l ++ (bs.take j).map bits1)) (fun _ _ i _ => bs.length - (intOf i).toNat)
  case atStart => exact ⟨0, r, Nat.zero_le _, rfl, by simpa using PenRel.refl hp⟩
  case round =>
    obtain ⟨j, r1, hj, rfl, hrel1⟩ := hrel
    by_cases hlt : j < bs.length
    · have hcj := (ht.on hrel1).2.2.2 j _ (truB_at bs j hlt)
      have hft : (bs.take (j + 1)).map bits1 = (bs.take j).map bits1 ++ [bits1 bs[j]] := by
        rw [List.take_add_one, List.getElem?_eq_getElem hlt, Option.toList, List.map_append]; rfl
      have Hft := Lib.hid hft
      clear hft
      generalize bs[j] = x at hcj Hft
      have hlen : (l ++ (bs.take j).map bits1).length + 11 ≤ 900000 := by
        rw [List.length_append, List.length_map, List.length_take, Nat.min_eq_left (by omega)]
        omega
      generalize hl1 : (l ++ (bs.take j).map bits1) = l1 at hrel1 hlen
      have HL1 := Lib.hid hl1
      have Hlen := Lib.hid hlen
      have Hrel := Lib.hid hrel1
      have HD := Lib.hid (show dig (bits1 x) = [bits1 x] from dig_small (by cases x <;> decide))
      clear hl1 hlen hrel1
      cases x
      · go_wp2_with fail
        refine (pennum_any bp r1 l1 [0] wr.heap.size 1 _ (Hrel.out.1.below (below_alloc _ _)) (by intro n hn; simp at hn; subst hn; omega) (told_new Hrel.out.1 (u64n [0]) _) (by have := Hlen.out; simp; omega)).mono ?_
        rintro e w2 ⟨rfl, r2, hrel2⟩
        have hrel3 := Hrel.out.trans (PenRel.of_below (below_alloc _ _) hrel2)
        have hdn : dig 0 = [0] := HD.out
        rw [List.flatMap_cons, List.flatMap_nil, List.append_nil, hdn] at hrel3
        have Hrel3 := Lib.hid hrel3
        clear hrel2 hrel3 hdn
        go_wp2_with fail
        go_roundw
        case rel =>
          have h := Hrel3.out
          have hf := Hft.out
          refine ⟨j + 1, r2, by omega, by go_num, ?_⟩
          rw [hf, ← List.append_assoc, HL1.out]
          exact h
        case measure => simp [intOf]; omega
      · go_wp2_with fail
        refine (pennum_any bp r1 l1 [1] wr.heap.size 1 _ (Hrel.out.1.below (below_alloc _ _)) (by intro n hn; simp at hn; subst hn; omega) (told_new Hrel.out.1 (u64n [1]) _) (by have := Hlen.out; simp; omega)).mono ?_
        rintro e w2 ⟨rfl, r2, hrel2⟩
        have hrel3 := Hrel.out.trans (PenRel.of_below (below_alloc _ _) hrel2)
        have hdn : dig 1 = [1] := HD.out
        rw [List.flatMap_cons, List.flatMap_nil, List.append_nil, hdn] at hrel3
        have Hrel3 := Lib.hid hrel3
        clear hrel2 hrel3 hdn
        go_wp2_with fail
        go_roundw
        case rel =>
          have h := Hrel3.out
          have hf := Hft.out
          refine ⟨j + 1, r2, by omega, by go_num, ?_⟩
          rw [hf, ← List.append_assoc, HL1.out]
          exact h
        case measure => simp [intOf]; omega
    · have hj' : j = bs.length := by omega
      subst hj'
      rw [List.take_length] at hrel1
      go_wp2_with fail
      go_end0
      exact ⟨rfl, _, hrel1⟩

set_option maxRecDepth 100000 in
set_option maxHeartbeats 4000000 in
theorem opwriteL_any (bp : Nat) (r : Option Nat) (l : List Nat) (A : Option Addr) (c : Nat) (xs : List OpD) (w : World) (hp : PenAt w bp r l) (h : Opl w A xs) (hfar : ∀ a, A = some a → ¬ penS bp r a.block) (hx : ∀ x ∈ xs, OpOk x) (hs : ∀ x ∈ xs, x.key.size ≤ 200 ∧ x.upto.size ≤ 200) (hl : xs.length ≤ 40) (hll : l.length ≤ 750000) :
    Calls Try.prog 63 #[.pointer (some ⟨bp, 0, none⟩), .slice A xs.length c] w (PenTo w bp r (l ++ opsBytes xs)) := by
  go_enter Try.func63, Try.ntmps63
  go_wp2_with fail
  go_loopw [5, 8] (fun _ i wr => ∃ (j : Nat) (r' : Option Nat), i = .int .i64 j ∧ Hid (j ≤ xs.length ∧ PenRel w bp r wr r' (l ++ opsBytes (xs.take j)))) (fun _ i _ => xs.length - (intOf i).toNat)
  case atStart => exact ⟨0, r, rfl, Nat.zero_le _, by simpa [opsBytes] using PenRel.refl hp⟩
  case round =>
    obtain ⟨j, r1, rfl, H⟩ := hrel
    by_cases hlt : j < xs.length
    · obtain ⟨b, off, rfl, hbl, d0, d1, d2, d3, d4⟩ := h.at_ hlt
      have hf := hfar _ rfl
      have hn2 : ∀ i, wr.cell? ⟨b, i, none⟩ = w.cell? ⟨b, i, none⟩ := fun i => H.out.2.2.1.cell (p := ⟨b, i, none⟩) hbl hf
      replace d0 := (hn2 _).trans d0
      replace d1 := (hn2 _).trans d1
      replace d2 := (hn2 _).trans d2
      replace d3 := (hn2 _).trans d3
      replace d4 := (hn2 _).trans d4
      have hok := hx _ (List.getElem_mem hlt)
      have hsz := hs _ (List.getElem_mem hlt)
      have HT := Lib.hid (show l ++ opsBytes (xs.take (j + 1)) = (l ++ opsBytes (xs.take j)) ++ opBytes xs[j] by rw [opsBytes_take xs j hlt, List.append_assoc])
      have hlen := opsBytes_len (xs.take j) (fun x hxm => hs x (List.mem_of_mem_take hxm))
      rw [List.length_take] at hlen
      have hlen2 : (l ++ opsBytes (xs.take j)).length ≤ 780000 := by rw [List.length_append]; omega
      generalize l ++ opsBytes (xs.take j) = L at H HT hlen2 ⊢
      clear hlen hn2
      generalize hxj : xs[j] = x at d0 d1 d2 d3 d4 hok hsz HT
      clear hxj
      have HB := Lib.hid (below_alloc wr (.cells (opCells x) 58))
      have HW := Lib.hid (opwrite1_any bp r1 L x (wr.alloc (.cells (opCells x) 58)) (H.out.2.1.below HB.out) hok (by omega) (by omega) (by omega))
      obtain ⟨kind, key, upto, val, limit⟩ := x
      simp only [] at d0 d1 d2 d3 d4
      simp only [opCells] at HB HW
      clear hok hsz
      go_wp2_with fail
      refine HW.out.mono ?_
      rintro e w3 ⟨rfl, r2, hrel3⟩
      have HN := Lib.hid (H.out.2.trans (PenRel.of_below HB.out hrel3))
      clear hrel3 HW HB
      go_wp2_with fail
      go_roundw
      case rel =>
        refine ⟨j + 1, r2, by go_num, by omega, ?_⟩
        rw [HT.out]
        exact HN.out
      case measure => simp [intOf]; omega
    · have hj : j = xs.length := by have := H.out.1; omega
      subst hj
      have hH := H.out.2
      rw [List.take_length] at hH
      have H' := Lib.hid hH
      clear hH
      go_wp2_with fail
      go_end0
      exact ⟨rfl, r1, H'.out⟩

end Go.Proofs.Ythbafbgnclpbpaa

namespace Go.Proofs.Ythbafbgnclpbpaa
open Go.RowKit

def callHead (x : CallD) : List Nat := dig x.thread.toNat ++ (dig x.since.toNat ++ (dig (x.done + 1).toNat ++ (dig (x.upto + 1).toNat ++ (dig x.steps.toNat ++ [bits1 x.short, bits1 (opB x.op)]))))
def callOp (x : CallD) : List Nat := if opB x.op = true then opBytes x.op else []
def callAns (x : CallD) : List Nat := if x.upto = -1 then [] else ansBytes x.ans
def callBytes (x : CallD) : List Nat := callHead x ++ (callOp x ++ callAns x)
def callsBytes (xs : List CallD) : List Nat := xs.flatMap callBytes
def histBytes (xs : List CallD) : List Nat := dig xs.length ++ callsBytes xs
theorem callsBytes_take (xs : List CallD) (j : Nat) (h : j < xs.length) : callsBytes (xs.take (j + 1)) = callsBytes (xs.take j) ++ callBytes xs[j] := flat_take callBytes xs j h
theorem ansBytes_le {a : AnsD} (h : lightA a = true) : (ansBytes a).length ≤ 13600 := by
  have hl := lightA_spec h
  have h1 := prs_len a.pairs hl.1
  have h2 : 222 * a.pairs.length ≤ 222 * 60 := Nat.mul_le_mul_left _ hl.2.2
  have d1 := dig_len a.code.toNat
  have d2 := dig_len a.key.size
  have d3 := dig_len a.val
  have d4 := dig_len a.pairs.length
  have d5 := tb_length a.key
  have hk := hl.2.1
  unfold ansBytes ansHead
  split
  · simp only [List.length_append]
    omega
  · simp
theorem callBytes_len {x : CallD} (h : lightC x = true) : (callBytes x).length ≤ 14200 := by
  unfold lightC at h
  rw [Bool.and_eq_true] at h
  have ho : x.op.key.size ≤ 200 ∧ x.op.upto.size ≤ 200 := of_decide_eq_true h.1
  have h1 := opsBytes_len [x.op] (fun y hy => by rw [List.mem_singleton] at hy; subst hy; exact ho)
  have h2 := ansBytes_le h.2
  have d1 := dig_len x.thread.toNat
  have d2 := dig_len x.since.toNat
  have d3 := dig_len (x.done + 1).toNat
  have d4 := dig_len (x.upto + 1).toNat
  have d5 := dig_len x.steps.toNat
  have e1 : (callOp x).length ≤ 522 := by
    unfold callOp
    split
    · simpa [opsBytes] using h1
    · simp
  have e2 : (callAns x).length ≤ 13600 := by
    unfold callAns
    split
    · simp
    · exact h2
  unfold callBytes callHead
  simp only [List.length_append, List.length_cons, List.length_nil]
  omega
theorem callsBytes_len : ∀ xs : List CallD, (∀ x ∈ xs, lightC x = true) → (callsBytes xs).length ≤ 14200 * xs.length
  | [], _ => by simp [callsBytes]
  | x :: t, h => by
    have ih := callsBytes_len t (fun y hy => h y (List.mem_cons_of_mem _ hy))
    have h1 := callBytes_len (h x (List.mem_cons_self ..))
    unfold callsBytes at ih ⊢
    rw [List.flatMap_cons, List.length_append, List.length_cons]
    omega

/-- What a call's numbers may be, that they are read again. -/
structure Small (x : CallD) : Prop where
  since : x.since ≤ 1099511627776
  done : x.done ≤ 1099511627775
  upto : x.upto ≤ 1099511627775
  steps : x.steps ≤ 1099511627776
theorem sndC_nums {x : CallD} (h : sndC x = true) : (0 ≤ x.thread ∧ x.thread < 16) ∧ 0 ≤ x.since ∧ 0 ≤ x.steps ∧ -1 ≤ x.done ∧ -1 ≤ x.upto ∧ (x.upto = -1 → ansB x.ans ansZ = true) ∧ (x.upto ≠ -1 → sndA x.ans = true) := by
  have ht := snd_thread h
  unfold sndC sndF at h
  simp only [Bool.and_eq_true, Bool.not_eq_true', Bool.or_eq_false_iff, decide_eq_false_iff_not, Bool.and_eq_false_iff, bne_eq_false_iff_eq] at h
  obtain ⟨⟨h1, h2, h3, h4⟩, h5, h6, h7⟩ := h
  have hd : -1 ≤ x.done := by
    rcases h5 with e | e
    · omega
    · omega
  refine ⟨ht, by omega, by omega, hd, ?_⟩
  by_cases hu : x.upto = -1
  · rw [if_pos (by simpa using hu)] at h7
    exact ⟨by omega, fun _ => h7, fun q => absurd hu q⟩
  · rw [if_neg (by simpa using hu)] at h7
    simp only [Bool.and_eq_true, decide_eq_true_iff] at h7
    exact ⟨by have := h7.2.1; omega, fun q => absurd q hu, fun _ => h7.2.2⟩

end Go.Proofs.Ythbafbgnclpbpaa

namespace Go.Proofs.Ythbafbgnclpbpaa
open Go.RowKit

/-- A pen that writes a call that lies in a variable. -/
structure Hw (w1 X : World) (bp : Nat) (rX : Option Nat) (lX : List Nat) (g5 : Nat) (x : CallD) : Prop where
  rel : PenRel w1 bp none X rX lX
  box : Told X bp rX g5 (callCells x).toList
theorem Hw.adv {w1 X X1 wp : World} {bp g5 : Nat} {rX rq : Option Nat} {lX l' : List Nat} {x : CallD} (h : Hw w1 X bp rX lX g5 x) (hb : Below X.heap.size X X1) (k : PenRel X1 bp rX wp rq l') : Hw w1 wp bp rq l' g5 x :=
  ⟨h.rel.trans (PenRel.of_below hb k), (h.box.up_ hb).on k⟩
theorem Hw.up {w1 X X1 : World} {bp g5 : Nat} {rX : Option Nat} {lX : List Nat} {x : CallD} (h : Hw w1 X bp rX lX g5 x) (hb : Below X.heap.size X X1) : Hw w1 X1 bp rX lX g5 x :=
  ⟨h.rel.then_below hb, h.box.up_ hb⟩
set_option maxRecDepth 100000 in
set_option maxHeartbeats 16000000 in
theorem cwrite_yes (A : Option Addr) (c : Nat) (xs : List CallD) (w : World) (h : Cls w A xs.length xs) (hx : ∀ x ∈ xs, CallOk x) (hli : ∀ x ∈ xs, lightC x = true) (hsm : ∀ x ∈ xs, Small x) (hl : xs.length ≤ 40) (hm : mayC xs = true) :
    Calls Try.prog 65 #[.slice A xs.length c] w (Made (histBytes xs) w) := by
  have HCh := Lib.hid (ccheck_any A c xs w h hx (by omega))
  rw [if_pos hm] at HCh
  have HH := Lib.hid h
  have HXO := Lib.hid hx
  have HLi := Lib.hid hli
  have HSm := Lib.hid hsm
  have HMy := Lib.hid ((mayC_iff xs).1 hm)
  have HLB := Lib.hid (fun j => callsBytes_len (xs.take j) (fun x hx => hli x (List.mem_of_mem_take hx)))
  clear h hx hli hsm hm
  go_enter Try.func65, Try.ntmps65
  go_wp2_with fail
  refine HCh.out.mono ?_
  rintro e w0 ⟨rfl, hb0⟩
  have hp0 := pen_new w0
  have hb1 := below_alloc w0 (.cells #[.slice none 0 0] 40)
  have H0 := Lib.hid (And.intro hp0 (And.intro (below_of hb0 hb1) (And.intro hb0.size hb1.size)))
  clear hp0 hb1 hb0 HCh
  go_upto_region 4 with fail
  generalize w0.alloc (.cells #[.slice none 0 0] 40) = w1 at H0 ⊢
  generalize w0.heap.size = g at H0 ⊢
  have hwn : IntKind.u64.wrap (xs.length : Int) = (xs.length : Int) := by rw [IntKind.wrap_u64]; omega
  go_wp2_with fail
  refine (pennum_any g none [] [xs.length] w1.heap.size 1 _ (H0.out.1.below (below_alloc _ _)) (by intro n hn; simp at hn; omega) (told_new H0.out.1 (u64n [xs.length]) _) (by simp)).mono ?_
  rintro e w2 ⟨rfl, r2, hrel⟩
  have hrel2 := PenRel.of_below (below_alloc _ _) hrel
  have HR0 := Lib.hid (show PenRel w1 g none w2 r2 (dig xs.length ++ callsBytes (xs.take 0)) by simpa [callsBytes] using hrel2)
  clear hrel hrel2
  have HKP := Lib.hid (fun (X : World) (r : Option Nat) (l : List Nat) (k : PenRel w1 g none X r l) => PenRel.keeps H0.out.2.1 k (Nat.le_trans H0.out.2.2.1 H0.out.2.2.2) H0.out.2.2.1 (fun q hq => by cases hq))
  go_wp2_with fail
  go_loopw [5, 6, 17] (fun _ _ i wr => ∃ (j : Nat) (r' : Option Nat), i = .int .i64 j ∧ Hid (j ≤ xs.length ∧ PenRel w1 g none wr r' (dig xs.length ++ callsBytes (xs.take j)))) (fun _ _ i _ => xs.length - (intOf i).toNat)
  case atStart => exact ⟨0, r2, rfl, Nat.zero_le _, HR0.out⟩
  case round =>
    obtain ⟨j, r1, rfl, H⟩ := hrel
    clear HR0
    have HRel := Lib.hid H.out.2
    by_cases hlt : j < xs.length
    · have hbel := (HKP.out _ _ _ HRel.out).1
      obtain ⟨b, off, hjl, rfl, hbw, hca, -⟩ := (HH.out.up hbel).at_ hlt
      have hmem := List.getElem_mem hjl
      have hok := HXO.out _ hmem
      have hlc := HLi.out _ hmem
      have hsmall := HSm.out _ hmem
      have hsnd := ((HMy.out j hjl).1)
      have hpr := HH.out.2.1 _ hmem
      have HT := Lib.hid (show dig xs.length ++ callsBytes (xs.take (j + 1)) = (dig xs.length ++ callsBytes (xs.take j)) ++ callBytes xs[j] by rw [callsBytes_take xs j hlt, List.append_assoc])
      have hlen : (dig xs.length ++ callsBytes (xs.take j)).length ≤ 568100 := by
        have h1 := HLB.out j
        have h2 := dig_len xs.length
        rw [List.length_take, Nat.min_eq_left (by omega)] at h1
        rw [List.length_append]
        omega
      generalize dig xs.length ++ callsBytes (xs.take j) = L at HRel HT hlen
      clear H hbw hmem
      generalize xs[j] = x at hca hok hlc hsmall hsnd hpr HT
      have HLN := Lib.hid hlen
      have hnn := sndC_nums hsnd
      unfold lightC at hlc
      rw [Bool.and_eq_true] at hlc
      have HOL := Lib.hid (show x.op.key.size ≤ 200 ∧ x.op.upto.size ≤ 200 from of_decide_eq_true hlc.1)
      have HLA := Lib.hid hlc.2
      have HOO := Lib.hid hok.op
      have HAO := Lib.hid hok.ans
      have HPR := Lib.hid (fun (X : World) {r : Option Nat} {l : List Nat} (k : PenRel w1 g none X r l) => hpr.up (HKP.out _ _ _ k).1)
      have HFA := Lib.hid (fun (X : World) (r : Option Nat) (l : List Nat) (k : PenRel w1 g none X r l) (h0 : 0 < x.ans.pairs.length) (q : Addr) (e : x.pa = some q) => show ¬ penS g r q.block from fun hs => by
        obtain ⟨b9, o9, e9, hb9, _⟩ := hpr.2 h0
        rw [e] at e9
        injection e9 with e9
        subst e9
        rcases hs with hs | hs
        · have := H0.out.2.2.1; simp only [] at hs; omega
        · have := (HKP.out _ _ _ k).2 _ hs.symm; simp only [] at this; omega)
      have HCk := Lib.hid (fun W => opcheck_any x.op W hok.op)
      have HOB := Lib.hid (show (opBytes x.op).length ≤ 522 by
        have h1 := opsBytes_len [x.op] (fun y hy => by rw [List.mem_singleton] at hy; subst hy; exact HOL.out)
        simpa [opsBytes] using h1)
      obtain ⟨tn, htn⟩ := Int.eq_ofNat_of_zero_le hnn.1.1
      obtain ⟨sn, hsn⟩ := Int.eq_ofNat_of_zero_le hnn.2.1
      obtain ⟨en, hen⟩ := Int.eq_ofNat_of_zero_le hnn.2.2.1
      obtain ⟨dn, hdn⟩ := Int.eq_ofNat_of_zero_le (show 0 ≤ x.done + 1 by have := hnn.2.2.2.1; omega)
      obtain ⟨un, hun⟩ := Int.eq_ofNat_of_zero_le (show 0 ≤ x.upto + 1 by have := hnn.2.2.2.2.1; omega)
      have hs1 := hsmall.since
      have hs2 := hsmall.done
      have hs3 := hsmall.upto
      have hs4 := hsmall.steps
      have hth := hnn.1.2
      have hbox := told_new HRel.out.1 (callCells x).toList 71
      have hba := below_alloc wr (.cells (callCells x) 71)
      simp only [Array.toArray_toList] at hbox
      have HS := Lib.hid (show Hw w1 (wr.alloc (.cells (callCells x) 71)) g r1 L wr.heap.size x from ⟨HRel.out.then_below hba, hbox⟩)
      clear hbox hba hsnd hok hlc hsmall hpr hnn hlen hbel
      obtain ⟨thread, op, since, done, upto, steps, short, ans, pa, pc⟩ := x
      simp only [] at htn hsn hen hdn hun hs1 hs2 hs3 hs4 hth HOL HLA HOO HAO HPR HFA HCk HOB
      subst htn hsn hen
      have hw1 : IntKind.u64.wrap (tn : Int) = (tn : Int) := by rw [IntKind.wrap_u64]; omega
      have hw2 : IntKind.u64.wrap (sn : Int) = (sn : Int) := by rw [IntKind.wrap_u64]; omega
      have hw3 : IntKind.u64.wrap (done + 1) = (dn : Int) := by rw [IntKind.wrap_u64]; omega
      have hw4 : IntKind.u64.wrap (upto + 1) = (un : Int) := by rw [IntKind.wrap_u64]; omega
      have hw5 : IntKind.u64.wrap (en : Int) = (en : Int) := by rw [IntKind.wrap_u64]; omega
      have hw6 : wrap64 (done + 1) = done + 1 := by unfold wrap64; omega
      have hw7 : wrap64 (upto + 1) = upto + 1 := by unfold wrap64; omega
      have HNB := Lib.hid (show ∀ n ∈ [tn, sn, dn, un, en], n < 18446744073709551616 by intro n hn; simp at hn; omega)
      obtain ⟨d0, d1, d2, d3, d4, d5, d6, d7, d8, d9, d10, d11, d12, d13, d14⟩ := hca
      simp only [] at d0 d1 d2 d3 d4 d5 d6 d7 d8 d9 d10 d11 d12 d13 d14
      simp only [callCells] at HS
      go_upto_region 8 with fail
      clear d0 d1 d2 d3 d4 d5 d6 d7 d8 d9 d10 d11 d12 d13 d14
      have HDN := Lib.hid (And.intro (show (done + 1).toNat = dn by omega) (show (upto + 1).toNat = un by omega))
      clear hdn hun hs1 hs2 hs3 hs4 hth
      generalize wr.alloc _ = X at HS ⊢
      generalize wr.heap.size = g5 at HS ⊢
      simp only [opCells] at HCk
      cases hob : opB op
      · rw [hob] at HCk
        have HCk := Lib.hid (fun W => Calls.to (HCk.out W) (congrArg (Value.int .i64) (if_neg Bool.false_ne_true)))
        have HOP := Lib.hid hob
        clear hob
        have x0 := HS.out.box.2.2.2 0 _ rfl
        have x1 := HS.out.box.2.2.2 1 _ rfl
        have x2 := HS.out.box.2.2.2 2 _ rfl
        have x3 := HS.out.box.2.2.2 3 _ rfl
        have x4 := HS.out.box.2.2.2 4 _ rfl
        have x5 := HS.out.box.2.2.2 5 _ rfl
        have x6 := HS.out.box.2.2.2 6 _ rfl
        have x7 := HS.out.box.2.2.2 7 _ rfl
        have x8 := HS.out.box.2.2.2 8 _ rfl
        have x9 := HS.out.box.2.2.2 9 _ rfl
        have x10 := HS.out.box.2.2.2 10 _ rfl
        have x11 := HS.out.box.2.2.2 11 _ rfl
        have x12 := HS.out.box.2.2.2 12 _ rfl
        have x13 := HS.out.box.2.2.2 13 _ rfl
        have x14 := HS.out.box.2.2.2 14 _ rfl
        go_wp2_with fail
        refine (HCk.out _).mono ?_
        rintro e X ⟨rfl, hbn⟩
        clear x0 x1 x2 x3 x4 x5 x6 x7 x8 x9 x10 x11 x12 x13 x14
        replace HS := Lib.hid (HS.out.up hbn)
        clear hbn
        have x0 := HS.out.box.2.2.2 0 _ rfl
        have x1 := HS.out.box.2.2.2 1 _ rfl
        have x2 := HS.out.box.2.2.2 2 _ rfl
        have x3 := HS.out.box.2.2.2 3 _ rfl
        have x4 := HS.out.box.2.2.2 4 _ rfl
        have x5 := HS.out.box.2.2.2 5 _ rfl
        have x6 := HS.out.box.2.2.2 6 _ rfl
        have x7 := HS.out.box.2.2.2 7 _ rfl
        have x8 := HS.out.box.2.2.2 8 _ rfl
        have x9 := HS.out.box.2.2.2 9 _ rfl
        have x10 := HS.out.box.2.2.2 10 _ rfl
        have x11 := HS.out.box.2.2.2 11 _ rfl
        have x12 := HS.out.box.2.2.2 12 _ rfl
        have x13 := HS.out.box.2.2.2 13 _ rfl
        have x14 := HS.out.box.2.2.2 14 _ rfl
        go_wp2_with fail
        refine (pennum_any g _ _ [tn, sn, dn, un, en] X.heap.size 5 _ (HS.out.rel.1.below (below_alloc _ _)) HNB.out (told_new HS.out.rel.1 (u64n [tn, sn, dn, un, en]) _) (by have := HLN.out; show _ + 11 * 5 ≤ 900000; omega)).mono ?_
        rintro e X ⟨rfl, rq, hrel⟩
        clear x0 x1 x2 x3 x4 x5 x6 x7 x8 x9 x10 x11 x12 x13 x14
        replace HS := Lib.hid (HS.out.adv (below_alloc _ _) hrel)
        clear hrel
        have x0 := HS.out.box.2.2.2 0 _ rfl
        have x1 := HS.out.box.2.2.2 1 _ rfl
        have x2 := HS.out.box.2.2.2 2 _ rfl
        have x3 := HS.out.box.2.2.2 3 _ rfl
        have x4 := HS.out.box.2.2.2 4 _ rfl
        have x5 := HS.out.box.2.2.2 5 _ rfl
        have x6 := HS.out.box.2.2.2 6 _ rfl
        have x7 := HS.out.box.2.2.2 7 _ rfl
        have x8 := HS.out.box.2.2.2 8 _ rfl
        have x9 := HS.out.box.2.2.2 9 _ rfl
        have x10 := HS.out.box.2.2.2 10 _ rfl
        have x11 := HS.out.box.2.2.2 11 _ rfl
        have x12 := HS.out.box.2.2.2 12 _ rfl
        have x13 := HS.out.box.2.2.2 13 _ rfl
        have x14 := HS.out.box.2.2.2 14 _ rfl
        go_wp2_with fail
        refine (pentruths_any g _ _ [short, false] X.heap.size 2 _ (HS.out.rel.1.below (below_alloc _ _)) (told_new HS.out.rel.1 (truB [short, false]) _) (by
          have := HLN.out
          have h51 := dig_len tn
          have h52 := dig_len sn
          have h53 := dig_len dn
          have h54 := dig_len un
          have h55 := dig_len en
          have hob := HOB.out
          simp only [List.length_append, List.length_map, List.length_cons, List.length_nil, opsBytes, List.flatMap_cons, List.flatMap_nil, List.append_nil]
          omega
          )).mono ?_
        rintro e X ⟨rfl, rq, hrel⟩
        clear x0 x1 x2 x3 x4 x5 x6 x7 x8 x9 x10 x11 x12 x13 x14
        replace HS := Lib.hid (HS.out.adv (below_alloc _ _) hrel)
        clear hrel
        have x0 := HS.out.box.2.2.2 0 _ rfl
        have x1 := HS.out.box.2.2.2 1 _ rfl
        have x2 := HS.out.box.2.2.2 2 _ rfl
        have x3 := HS.out.box.2.2.2 3 _ rfl
        have x4 := HS.out.box.2.2.2 4 _ rfl
        have x5 := HS.out.box.2.2.2 5 _ rfl
        have x6 := HS.out.box.2.2.2 6 _ rfl
        have x7 := HS.out.box.2.2.2 7 _ rfl
        have x8 := HS.out.box.2.2.2 8 _ rfl
        have x9 := HS.out.box.2.2.2 9 _ rfl
        have x10 := HS.out.box.2.2.2 10 _ rfl
        have x11 := HS.out.box.2.2.2 11 _ rfl
        have x12 := HS.out.box.2.2.2 12 _ rfl
        have x13 := HS.out.box.2.2.2 13 _ rfl
        have x14 := HS.out.box.2.2.2 14 _ rfl
        by_cases hu : upto = -1
        · have hub : (upto != (-1 : Int)) = false := by rw [hu]; rfl
          have HU := Lib.hid hu
          clear hu
          go_wp2_with fail
          clear x0 x1 x2 x3 x4 x5 x6 x7 x8 x9 x10 x11 x12 x13 x14
          go_roundw
          case rel =>
            refine ⟨j + 1, rq, by go_num, by omega, ?_⟩
            have h := HS.out.rel
            have hdn2 := HDN.out.1
            have hun2 := HDN.out.2
            rw [HT.out]
            unfold callBytes callHead callOp callAns
            simp only [Int.toNat_natCast, hdn2, hun2, HOP.out, Bool.false_eq_true, if_false, if_pos HU.out]
            simpa [opsBytes, List.append_assoc] using h
          case measure => simp [intOf]; omega
        · have hub : (upto != (-1 : Int)) = true := by simp [hu]
          have HU := Lib.hid hu
          clear hu
          go_wp2_with fail
          refine (answrite_any g _ _ ans pa pc _ HS.out.rel.1 (HPR.out _ HS.out.rel) (HFA.out _ _ _ HS.out.rel) HAO.out HLA.out (by
            have := HLN.out
            have h51 := dig_len tn
            have h52 := dig_len sn
            have h53 := dig_len dn
            have h54 := dig_len un
            have h55 := dig_len en
            have hob := HOB.out
            simp only [List.length_append, List.length_map, List.length_cons, List.length_nil, opsBytes, List.flatMap_cons, List.flatMap_nil, List.append_nil]
            omega
            )).mono ?_
          rintro e X ⟨rfl, rq, hrel⟩
          clear x0 x1 x2 x3 x4 x5 x6 x7 x8 x9 x10 x11 x12 x13 x14
          replace HS := Lib.hid (HS.out.adv (Below.refl _ _) hrel)
          clear hrel
          go_wp2_with fail
          go_roundw
          case rel =>
            refine ⟨j + 1, rq, by go_num, by omega, ?_⟩
            have h := HS.out.rel
            have hdn2 := HDN.out.1
            have hun2 := HDN.out.2
            rw [HT.out]
            unfold callBytes callHead callOp callAns
            simp only [Int.toNat_natCast, hdn2, hun2, HOP.out, Bool.false_eq_true, if_false, if_neg HU.out]
            simpa [opsBytes, List.append_assoc] using h
          case measure => simp [intOf]; omega
      · rw [hob] at HCk
        have HCk := Lib.hid (fun W => Calls.to (HCk.out W) (congrArg (Value.int .i64) (if_pos rfl)))
        have HOP := Lib.hid hob
        clear hob
        have x0 := HS.out.box.2.2.2 0 _ rfl
        have x1 := HS.out.box.2.2.2 1 _ rfl
        have x2 := HS.out.box.2.2.2 2 _ rfl
        have x3 := HS.out.box.2.2.2 3 _ rfl
        have x4 := HS.out.box.2.2.2 4 _ rfl
        have x5 := HS.out.box.2.2.2 5 _ rfl
        have x6 := HS.out.box.2.2.2 6 _ rfl
        have x7 := HS.out.box.2.2.2 7 _ rfl
        have x8 := HS.out.box.2.2.2 8 _ rfl
        have x9 := HS.out.box.2.2.2 9 _ rfl
        have x10 := HS.out.box.2.2.2 10 _ rfl
        have x11 := HS.out.box.2.2.2 11 _ rfl
        have x12 := HS.out.box.2.2.2 12 _ rfl
        have x13 := HS.out.box.2.2.2 13 _ rfl
        have x14 := HS.out.box.2.2.2 14 _ rfl
        go_wp2_with fail
        refine (HCk.out _).mono ?_
        rintro e X ⟨rfl, hbn⟩
        clear x0 x1 x2 x3 x4 x5 x6 x7 x8 x9 x10 x11 x12 x13 x14
        replace HS := Lib.hid (HS.out.up hbn)
        clear hbn
        have x0 := HS.out.box.2.2.2 0 _ rfl
        have x1 := HS.out.box.2.2.2 1 _ rfl
        have x2 := HS.out.box.2.2.2 2 _ rfl
        have x3 := HS.out.box.2.2.2 3 _ rfl
        have x4 := HS.out.box.2.2.2 4 _ rfl
        have x5 := HS.out.box.2.2.2 5 _ rfl
        have x6 := HS.out.box.2.2.2 6 _ rfl
        have x7 := HS.out.box.2.2.2 7 _ rfl
        have x8 := HS.out.box.2.2.2 8 _ rfl
        have x9 := HS.out.box.2.2.2 9 _ rfl
        have x10 := HS.out.box.2.2.2 10 _ rfl
        have x11 := HS.out.box.2.2.2 11 _ rfl
        have x12 := HS.out.box.2.2.2 12 _ rfl
        have x13 := HS.out.box.2.2.2 13 _ rfl
        have x14 := HS.out.box.2.2.2 14 _ rfl
        go_wp2_with fail
        refine (pennum_any g _ _ [tn, sn, dn, un, en] X.heap.size 5 _ (HS.out.rel.1.below (below_alloc _ _)) HNB.out (told_new HS.out.rel.1 (u64n [tn, sn, dn, un, en]) _) (by have := HLN.out; show _ + 11 * 5 ≤ 900000; omega)).mono ?_
        rintro e X ⟨rfl, rq, hrel⟩
        clear x0 x1 x2 x3 x4 x5 x6 x7 x8 x9 x10 x11 x12 x13 x14
        replace HS := Lib.hid (HS.out.adv (below_alloc _ _) hrel)
        clear hrel
        have x0 := HS.out.box.2.2.2 0 _ rfl
        have x1 := HS.out.box.2.2.2 1 _ rfl
        have x2 := HS.out.box.2.2.2 2 _ rfl
        have x3 := HS.out.box.2.2.2 3 _ rfl
        have x4 := HS.out.box.2.2.2 4 _ rfl
        have x5 := HS.out.box.2.2.2 5 _ rfl
        have x6 := HS.out.box.2.2.2 6 _ rfl
        have x7 := HS.out.box.2.2.2 7 _ rfl
        have x8 := HS.out.box.2.2.2 8 _ rfl
        have x9 := HS.out.box.2.2.2 9 _ rfl
        have x10 := HS.out.box.2.2.2 10 _ rfl
        have x11 := HS.out.box.2.2.2 11 _ rfl
        have x12 := HS.out.box.2.2.2 12 _ rfl
        have x13 := HS.out.box.2.2.2 13 _ rfl
        have x14 := HS.out.box.2.2.2 14 _ rfl
        go_wp2_with fail
        refine (pentruths_any g _ _ [short, true] X.heap.size 2 _ (HS.out.rel.1.below (below_alloc _ _)) (told_new HS.out.rel.1 (truB [short, true]) _) (by
          have := HLN.out
          have h51 := dig_len tn
          have h52 := dig_len sn
          have h53 := dig_len dn
          have h54 := dig_len un
          have h55 := dig_len en
          have hob := HOB.out
          simp only [List.length_append, List.length_map, List.length_cons, List.length_nil, opsBytes, List.flatMap_cons, List.flatMap_nil, List.append_nil]
          omega
          )).mono ?_
        rintro e X ⟨rfl, rq, hrel⟩
        clear x0 x1 x2 x3 x4 x5 x6 x7 x8 x9 x10 x11 x12 x13 x14
        replace HS := Lib.hid (HS.out.adv (below_alloc _ _) hrel)
        clear hrel
        have x0 := HS.out.box.2.2.2 0 _ rfl
        have x1 := HS.out.box.2.2.2 1 _ rfl
        have x2 := HS.out.box.2.2.2 2 _ rfl
        have x3 := HS.out.box.2.2.2 3 _ rfl
        have x4 := HS.out.box.2.2.2 4 _ rfl
        have x5 := HS.out.box.2.2.2 5 _ rfl
        have x6 := HS.out.box.2.2.2 6 _ rfl
        have x7 := HS.out.box.2.2.2 7 _ rfl
        have x8 := HS.out.box.2.2.2 8 _ rfl
        have x9 := HS.out.box.2.2.2 9 _ rfl
        have x10 := HS.out.box.2.2.2 10 _ rfl
        have x11 := HS.out.box.2.2.2 11 _ rfl
        have x12 := HS.out.box.2.2.2 12 _ rfl
        have x13 := HS.out.box.2.2.2 13 _ rfl
        have x14 := HS.out.box.2.2.2 14 _ rfl
        go_wp2_with fail
        refine (opwriteL_any g _ _ (some ⟨X.heap.size, 0, none⟩) 1 [op] _ (HS.out.rel.1.below (below_alloc _ _)) (opl_one X op _) (fun a e => by injection e with e; subst e; exact pen_far HS.out.rel.1) (fun y hy => by rw [List.mem_singleton] at hy; subst hy; exact HOO.out) (fun y hy => by rw [List.mem_singleton] at hy; subst hy; exact HOL.out) (by simp) (by
          have := HLN.out
          have h51 := dig_len tn
          have h52 := dig_len sn
          have h53 := dig_len dn
          have h54 := dig_len un
          have h55 := dig_len en
          have hob := HOB.out
          simp only [List.length_append, List.length_map, List.length_cons, List.length_nil, opsBytes, List.flatMap_cons, List.flatMap_nil, List.append_nil]
          omega
          )).mono ?_
        rintro e X ⟨rfl, rq, hrel⟩
        clear x0 x1 x2 x3 x4 x5 x6 x7 x8 x9 x10 x11 x12 x13 x14
        replace HS := Lib.hid (HS.out.adv (below_alloc _ _) hrel)
        clear hrel
        have x0 := HS.out.box.2.2.2 0 _ rfl
        have x1 := HS.out.box.2.2.2 1 _ rfl
        have x2 := HS.out.box.2.2.2 2 _ rfl
        have x3 := HS.out.box.2.2.2 3 _ rfl
        have x4 := HS.out.box.2.2.2 4 _ rfl
        have x5 := HS.out.box.2.2.2 5 _ rfl
        have x6 := HS.out.box.2.2.2 6 _ rfl
        have x7 := HS.out.box.2.2.2 7 _ rfl
        have x8 := HS.out.box.2.2.2 8 _ rfl
        have x9 := HS.out.box.2.2.2 9 _ rfl
        have x10 := HS.out.box.2.2.2 10 _ rfl
        have x11 := HS.out.box.2.2.2 11 _ rfl
        have x12 := HS.out.box.2.2.2 12 _ rfl
        have x13 := HS.out.box.2.2.2 13 _ rfl
        have x14 := HS.out.box.2.2.2 14 _ rfl
        by_cases hu : upto = -1
        · have hub : (upto != (-1 : Int)) = false := by rw [hu]; rfl
          have HU := Lib.hid hu
          clear hu
          go_wp2_with fail
          clear x0 x1 x2 x3 x4 x5 x6 x7 x8 x9 x10 x11 x12 x13 x14
          go_roundw
          case rel =>
            refine ⟨j + 1, rq, by go_num, by omega, ?_⟩
            have h := HS.out.rel
            have hdn2 := HDN.out.1
            have hun2 := HDN.out.2
            rw [HT.out]
            unfold callBytes callHead callOp callAns
            simp only [Int.toNat_natCast, hdn2, hun2, HOP.out, if_true, if_pos HU.out]
            simpa [opsBytes, List.append_assoc] using h
          case measure => simp [intOf]; omega
        · have hub : (upto != (-1 : Int)) = true := by simp [hu]
          have HU := Lib.hid hu
          clear hu
          go_wp2_with fail
          refine (answrite_any g _ _ ans pa pc _ HS.out.rel.1 (HPR.out _ HS.out.rel) (HFA.out _ _ _ HS.out.rel) HAO.out HLA.out (by
            have := HLN.out
            have h51 := dig_len tn
            have h52 := dig_len sn
            have h53 := dig_len dn
            have h54 := dig_len un
            have h55 := dig_len en
            have hob := HOB.out
            simp only [List.length_append, List.length_map, List.length_cons, List.length_nil, opsBytes, List.flatMap_cons, List.flatMap_nil, List.append_nil]
            omega
            )).mono ?_
          rintro e X ⟨rfl, rq, hrel⟩
          clear x0 x1 x2 x3 x4 x5 x6 x7 x8 x9 x10 x11 x12 x13 x14
          replace HS := Lib.hid (HS.out.adv (Below.refl _ _) hrel)
          clear hrel
          go_wp2_with fail
          go_roundw
          case rel =>
            refine ⟨j + 1, rq, by go_num, by omega, ?_⟩
            have h := HS.out.rel
            have hdn2 := HDN.out.1
            have hun2 := HDN.out.2
            rw [HT.out]
            unfold callBytes callHead callOp callAns
            simp only [Int.toNat_natCast, hdn2, hun2, HOP.out, if_true, if_neg HU.out]
            simpa [opsBytes, List.append_assoc] using h
          case measure => simp [intOf]; omega
    · obtain rfl : j = xs.length := by have := H.out.1; omega
      have hr := HRel.out
      rw [List.take_length] at hr
      have HR := Lib.hid (show PenRel w1 g none wr r1 (histBytes xs) from hr)
      have HKK := Lib.hid (HKP.out _ _ _ hr)
      have hlb := HLB.out xs.length
      rw [List.take_length] at hlb
      have hdl := dig_len xs.length
      clear hr H HRel hlt
      go_wp2_with fail
      refine (penbytes_any g r1 (histBytes xs) _ HR.out.1 (by unfold histBytes; rw [List.length_append]; omega)).mono ?_
      rintro e w6 ⟨A6, c6, rfl, ho, hb6⟩
      have H6 := Lib.hid (And.intro ho (below_of HKK.out.1 hb6))
      have HZ := Lib.hid HKK.out.1.size
      clear ho hb6 hlb hdl
      go_wp2_with fail
      go_ret
      exact ⟨A6, c6, rfl, own_less H6.out.1 HZ.out, H6.out.2⟩

set_option maxHeartbeats 1000000 in
theorem cwrite_no (A : Option Addr) (c : Nat) (xs : List CallD) (w : World) (h : Cls w A xs.length xs) (hx : ∀ x ∈ xs, CallOk x) (hl : xs.length ≤ 40) (hm : mayC xs = false) :
    Calls Try.prog 65 #[.slice A xs.length c] w (Made [] w) := by
  have HCh := Lib.hid (ccheck_any A c xs w h hx (by omega))
  rw [if_neg (by rw [hm]; exact Bool.false_ne_true)] at HCh
  go_enter Try.func65, Try.ntmps65
  go_wp2_with fail
  refine HCh.out.mono ?_
  rintro e w0 ⟨rfl, hb0⟩
  go_wp2_with fail
  go_ret
  exact ⟨none, 0, rfl, World.ownsRow_nil _ _ _ _, hb0⟩

end Go.Proofs.Ythbafbgnclpbpaa
