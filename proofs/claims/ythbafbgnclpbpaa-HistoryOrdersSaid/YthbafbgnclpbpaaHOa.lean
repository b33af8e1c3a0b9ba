/- Rows of ints that are made beside others; contract of bowerref39.Order. -/
import Derived.Test.YthbafbgnclpbpaaOwC
import Derived.Test.YthbafbgnclpbpaaClone
import Derived.Test.YthbafbgnclpbpaaStB
import Derived.Test.YthbafbgnclpbpaaStPlA
import Derived.Test.YthbafbgnclpbpaaStEf
namespace Go.Proofs.Ythbafbgnclpbpaa
open Go.RowKit

/-- A row told by its places. -/
def tab {α : Type} (n : Nat) (f : Nat → α) : List α := (List.range n).map f
theorem tab_length {α : Type} (n : Nat) (f : Nat → α) : (tab n f).length = n := by simp [tab]
theorem tab_get {α : Type} {n k : Nat} (f : Nat → α) (h : k < n) : (tab n f)[k]? = some (f k) := by simp [tab, h]
theorem tab_elem {α : Type} {n k : Nat} (f : Nat → α) (h : k < (tab n f).length) : (tab n f)[k] = f k := by simp [tab]
theorem tab_succ {α : Type} (n : Nat) (f : Nat → α) : tab (n + 1) f = tab n f ++ [f n] := by simp [tab, List.range_succ]
theorem int_info0 : (Try.prog.info? 3).map (fun i => (i.zero, i.size, i.bytes)) = some (some (.int .i64 0), 1, 8) := by kernel_rfl
theorem i64s_app (a b : List Int) : i64s (a ++ b) = i64s a ++ i64s b := by simp [i64s]
theorem Ow.pushI {B : Nat} {W0 W : World} {L : List (Nat × Obj)} {R : List RowT} (h : Ow B W0 W L R) (i : Nat) {n : Nat} {v : Value} {xs : List Int} (hi : R[i]? = some ⟨3, 1, v, n, i64s xs⟩) (x : Int) (hl : n ≤ 10000) :
    ∃ A' c' W1, (Builtin.append_ #[90, 90] 90 #[v, .slice (some ⟨W.heap.size, 0, none⟩) 1 1]).run Try.prog (W.alloc (.cells #[.int .i64 x] 3)) = .ok (.slice A' (n + 1) c') W1 ∧ n + 1 ≤ c' ∧
      Ow B W0 W1 L (R.set i ⟨3, 1, .slice A' (n + 1) c', n + 1, i64s (xs ++ [x])⟩) := by
  have := h.push (P := Try.prog) i hi 90 90 (.int .i64 0) 8 (by kernel_rfl) int_info0 rfl (by omega) [.int .i64 x] rfl (fun u hu => by simp at hu; rw [hu]; rfl) hl (by omega)
  rw [i64s_app]
  exact this
theorem Ow.rdI {B : Nat} {W0 W : World} {L : List (Nat × Obj)} {R : List RowT} (h : Ow B W0 W L R) (i : Nat) {n c : Nat} {A : Option Addr} {xs : List Int} (hi : R[i]? = some ⟨3, 1, .slice A n c, n, i64s xs⟩) : RdI W A n xs := Rd.of_own (h.own i _ hi)

def lenV : Value → Nat
  | .slice _ m _ => m
  | _ => 0
theorem lenV_slice (A : Option Addr) (m c : Nat) : lenV (.slice A m c) = m := rfl

/-- Is x among the first k? -/
def takB (p : Nat → Nat) (k x : Nat) : Bool := (List.range k).any fun q => p q == x
theorem takB_succ (p : Nat → Nat) (k x : Nat) : takB p (k + 1) x = (takB p k x || (p k == x)) := by simp [takB, List.range_succ]
theorem takB_iff (p : Nat → Nat) (k x : Nat) : takB p k x = true ↔ Taken p k x := by
  simp [takB, Taken]

set_option maxRecDepth 100000 in
set_option maxHeartbeats 4000000 in
theorem reforder_any (A : Option Addr) (n c : Nat) (l : List Int) (p : Nat → Nat) (w : World) (h : RdI w A n l) (hn : n ≤ 1000) (hp : PermOn 0 n (fun k => k) p) (hs : Srt (fun x => l.getD x 0) p 0 n) :
    Calls Try.prog 70 #[.slice A n c] w (fun e w' => ∃ A' c', e = .returned (.slice A' n c') ∧ RdI w' A' n (tab n (fun k => (p k : Int))) ∧ Below w.heap.size w w') := by
  have HH := Lib.hid h
  have HLN := Lib.hid h.len
  have HP := Lib.hid hp
  have HS := Lib.hid hs
  have hO := (Ow.start (Sx.start0 w)).nil 3 1
  simp only [List.nil_append] at hO
  have HO0 := Lib.hid hO
  have HPN := Lib.hid (permOn_id_lt hp)
  clear h hO hp hs
  go_enter Try.func70, Try.ntmps70
  go_wp2_with fail
  go_loopw [3, 4, 5, 6, 7] (fun v3 _ _ _ _ wr => ∃ (m : Nat) (A1 : Option Addr) (c1 : Nat), v3 = .slice A1 m c1 ∧ Hid (m ≤ n) ∧ Hid (Ow w.heap.size w wr [] [⟨3, 1, .slice A1 m c1, m, i64s (tab m (fun k => (p k : Int)))⟩])) (fun v3 _ _ _ _ _ => n - lenV v3)
  case atStart => exact ⟨0, none, 0, rfl, Nat.zero_le _, HO0.out⟩
  case round =>
    obtain ⟨m, A1, c1, rfl, HM, HO⟩ := hrel
    clear HO0
    have hmn := HM.out
    by_cases hlt : m < n
    · go_wp2_with fail
      go_loopw [4, 5, 6, 7] (fun v4 v5 _ _ wr2 => ∃ (i : Nat) (b : Int), v4 = .int .i64 b ∧ v5 = .int .i64 i ∧ Hid (i ≤ n) ∧ Hid (Best (fun x => l.getD x 0) p m i b) ∧ Hid (Ow w.heap.size w wr2 [] [⟨3, 1, .slice A1 m c1, m, i64s (tab m (fun k => (p k : Int)))⟩])) (fun _ v5 _ _ _ => n - (intOf v5).toNat)
      case atStart => exact ⟨0, -1, rfl, rfl, Nat.zero_le _, Best.start _ _ _, HO.out⟩
      case round =>
        obtain ⟨i, b, rfl, rfl, HI, HBE, HO2⟩ := hrel
        clear HO
        have hin := HI.out
        by_cases hlt2 : i < n
        · generalize wr = W at HO2 ⊢
          go_wp2_with fail
          go_loopw [6, 7] (fun v6 v7 wr3 => ∃ k : Nat, v6 = .bool (takB p k i) ∧ v7 = .int .i64 k ∧ Hid (k ≤ m) ∧ W = wr3) (fun _ v7 _ => m - (intOf v7).toNat)
          case atStart => exact ⟨0, rfl, rfl, Nat.zero_le _, rfl⟩
          case round =>
            obtain ⟨k, rfl, rfl, HK, rfl⟩ := hrel
            have hkm := HK.out
            by_cases hlt3 : k < m
            · obtain ⟨ob, oo, hA1, hol, hoc⟩ := (HO2.out.rdI 0 rfl).spot (by omega)
              subst hA1
              have y1 := hoc k (by rw [tab_length]; exact hlt3)
              rw [tab_elem] at y1
              have HTS := Lib.hid (takB_succ p k i)
              clear hoc
              by_cases e : p k = i
              · have e1 : (((p k : Nat) : Int) == (i : Int)) = true := by simp [e]
                have HE := Lib.hid e
                clear e
                go_wp2_with fail
                go_roundw
                case rel => exact ⟨k + 1, by rw [HTS.out, HE.out]; simp, by go_num, hlt3, trivial⟩
                case measure => simp [intOf]; omega
              · have e1 : (((p k : Nat) : Int) == (i : Int)) = false := by simp; omega
                have HE := Lib.hid e
                clear e
                go_wp2_with fail
                go_roundw
                case rel => exact ⟨k + 1, by rw [HTS.out]; simp [HE.out], by go_num, hlt3, trivial⟩
                case measure => simp [intOf]; omega
            · obtain rfl : k = m := by omega
              have HT := Lib.hid (takB_iff p k i)
              have HDONE := Lib.hid (fun (b' : Int) (hb : Best (fun x => l.getD x 0) p k (i + 1) b') => hb)
              cases htk : takB p k i
              · have HNT := Lib.hid (show ¬ Taken p k i from fun q => by rw [← HT.out, htk] at q; cases q)
                clear htk HT
                obtain ⟨ab, ao, hA, hal, hac⟩ := HH.out.spot (by omega)
                subst hA
                have HAB := Lib.hid hal
                have HXC := Lib.hid hac
                clear hal hac
                have HXI := Lib.hid (show w.cell? ⟨ab, ao + i, none⟩ = some (.int .i64 (l.getD i 0)) by
                  have hil : i < l.length := by rw [HLN.out]; exact hlt2
                  rw [HXC.out i hil, List.getD_eq_getElem?_getD, List.getElem?_eq_getElem hil]
                  rfl)
                by_cases hb : b < 0
                · have hbb : decide (b < 0) = true := decide_eq_true hb
                  have HBN := Lib.hid (HBE.out.first hb HNT.out)
                  go_upto_region 13 with fail
                  refine wp_region_held_drew (S := fun w' => Below W.heap.size W w') (by kernel_rfl) (Below.drew (Below.refl _ _)) (fun hcur => ?_)
                  replace hcur : Below W.heap.size W W.drew := hcur
                  refine wpAnyH_take (i := 0) (v := ?_) rfl (by decide +kernel) (by decide +kernel) (by decide +kernel) (fun _ _ _ h => h) (Or.inl ⟨by rfl, ?hy⟩) hcur ?_
                  case hy =>
                    intro w1 hSw
                    go_simp
                    (try with_reducible rfl)
                  (try simp only [Act.put, List.getElem_toArray, List.getElem_cons_zero, List.getElem_cons_succ, List.setIfInBounds_toArray, List.set_cons_zero, List.set_cons_succ])
                  refine wpAnyH_take (i := 1) (v := ?_) rfl (by decide +kernel) (by decide +kernel) (by decide +kernel) (fun _ _ _ h => h) (Or.inl ⟨by rfl, ?hy⟩) hcur ?_
                  case hy =>
                    intro w1 hSw
                    go_simp
                    (try with_reducible rfl)
                  (try simp only [Act.put, List.getElem_toArray, List.getElem_cons_zero, List.getElem_cons_succ, List.setIfInBounds_toArray, List.set_cons_zero, List.set_cons_succ])
                  refine wpAnyH_take (i := 2) (v := ?_) rfl (by decide +kernel) (by decide +kernel) (by decide +kernel) (fun _ _ _ h => h) (Or.inl ⟨by rfl, ?hy⟩) hcur ?_
                  case hy =>
                    intro w1 hSw
                    go_simp
                    (try with_reducible rfl)
                  (try simp only [Act.put, List.getElem_toArray, List.getElem_cons_zero, List.getElem_cons_succ, List.setIfInBounds_toArray, List.set_cons_zero, List.set_cons_succ])
                  refine wpAnyH_take (i := 3) (v := ?_) rfl (by decide +kernel) (by decide +kernel) (by decide +kernel) (fun _ _ _ h => h) (Or.inl ⟨by rfl, ?hy⟩) hcur ?_
                  case hy =>
                    intro w1 hSw
                    go_simp
                    (try with_reducible rfl)
                  (try simp only [Act.put, List.getElem_toArray, List.getElem_cons_zero, List.getElem_cons_succ, List.setIfInBounds_toArray, List.set_cons_zero, List.set_cons_succ])
                  refine wpAnyH_take (i := 4) (v := ?_) rfl (by decide +kernel) (by decide +kernel) (by decide +kernel) (fun _ _ _ h => h) (Or.inl ⟨by rfl, ?hy⟩) hcur ?_
                  case hy =>
                    intro w1 hSw
                    go_simp
                    (try with_reducible rfl)
                  (try simp only [Act.put, List.getElem_toArray, List.getElem_cons_zero, List.getElem_cons_succ, List.setIfInBounds_toArray, List.set_cons_zero, List.set_cons_succ])
                  refine wpAnyH_take (i := 5) (v := ?_) rfl (by decide +kernel) (by decide +kernel) (by decide +kernel) (fun _ _ _ h => h) (Or.inl ⟨by rfl, ?hy⟩) hcur ?_
                  case hy =>
                    intro w1 hSw
                    go_simp
                    (try with_reducible rfl)
                  (try simp only [Act.put, List.getElem_toArray, List.getElem_cons_zero, List.getElem_cons_succ, List.setIfInBounds_toArray, List.set_cons_zero, List.set_cons_succ])
                  refine wpAnyH_take (i := 6) rfl (by decide +kernel) (by decide +kernel) (by decide +kernel) (fun _ _ _ h => h) (Or.inr ⟨by rfl, rfl⟩) hcur ?_
                  (try simp only [Act.put, List.getElem_toArray, List.getElem_cons_zero, List.getElem_cons_succ, List.setIfInBounds_toArray, List.set_cons_zero, List.set_cons_succ])
                  refine wpAnyH_take (i := 7) rfl (by decide +kernel) (by decide +kernel) (by decide +kernel) (fun _ _ _ h => h) (Or.inr ⟨by rfl, rfl⟩) hcur ?_
                  (try simp only [Act.put, List.getElem_toArray, List.getElem_cons_zero, List.getElem_cons_succ, List.setIfInBounds_toArray, List.set_cons_zero, List.set_cons_succ])
                  refine wpAnyH_take (i := 8) rfl (by decide +kernel) (by decide +kernel) (by decide +kernel) (fun _ _ _ h => h) (Or.inr ⟨by rfl, rfl⟩) hcur ?_
                  (try simp only [Act.put, List.getElem_toArray, List.getElem_cons_zero, List.getElem_cons_succ, List.setIfInBounds_toArray, List.set_cons_zero, List.set_cons_succ])
                  refine wpAnyH_take (i := 9) rfl (by decide +kernel) (by decide +kernel) (by decide +kernel) (fun _ _ _ h => h) (Or.inr ⟨by rfl, rfl⟩) hcur ?_
                  (try simp only [Act.put, List.getElem_toArray, List.getElem_cons_zero, List.getElem_cons_succ, List.setIfInBounds_toArray, List.set_cons_zero, List.set_cons_succ])
                  refine wpAnyH_take (i := 10) rfl (by decide +kernel) (by decide +kernel) (by decide +kernel) (fun _ _ _ h => h) (Or.inr ⟨by rfl, rfl⟩) hcur ?_
                  (try simp only [Act.put, List.getElem_toArray, List.getElem_cons_zero, List.getElem_cons_succ, List.setIfInBounds_toArray, List.set_cons_zero, List.set_cons_succ])
                  refine wpAnyH_take (i := 11) rfl (by decide +kernel) (by decide +kernel) (by decide +kernel) (fun _ _ _ h => h) (Or.inr ⟨by rfl, rfl⟩) hcur ?_
                  (try simp only [Act.put, List.getElem_toArray, List.getElem_cons_zero, List.getElem_cons_succ, List.setIfInBounds_toArray, List.set_cons_zero, List.set_cons_succ])
                  refine wpAnyH_take (i := 12) rfl (by decide +kernel) (by decide +kernel) (by decide +kernel) (fun _ _ _ h => h) (Or.inr ⟨by rfl, rfl⟩) hcur ?_
                  (try simp only [Act.put, List.getElem_toArray, List.getElem_cons_zero, List.getElem_cons_succ, List.setIfInBounds_toArray, List.set_cons_zero, List.set_cons_succ])
                  refine wpAnyH_take (i := 13) rfl (by decide +kernel) (by decide +kernel) (by decide +kernel) (fun _ _ _ h => h) (Or.inr ⟨by rfl, rfl⟩) hcur ?_
                  (try simp only [Act.put, List.getElem_toArray, List.getElem_cons_zero, List.getElem_cons_succ, List.setIfInBounds_toArray, List.set_cons_zero, List.set_cons_succ])
                  refine wpAnyH_take (i := 14) rfl (by decide +kernel) (by decide +kernel) (by decide +kernel) (fun _ _ _ h => h) (Or.inr ⟨by rfl, rfl⟩) hcur ?_
                  (try simp only [Act.put, List.getElem_toArray, List.getElem_cons_zero, List.getElem_cons_succ, List.setIfInBounds_toArray, List.set_cons_zero, List.set_cons_succ])
                  refine wpAnyH_take (i := 15) (v := ?_) rfl (by decide +kernel) (by decide +kernel) (by decide +kernel) (fun _ _ _ h => h) (Or.inl ⟨by rfl, ?hy⟩) hcur ?_
                  case hy =>
                    intro w1 hSw
                    go_simp
                    (try with_reducible rfl)
                  (try simp only [Act.put, List.getElem_toArray, List.getElem_cons_zero, List.getElem_cons_succ, List.setIfInBounds_toArray, List.set_cons_zero, List.set_cons_succ])
                  refine wpAnyH_take (i := 16) (v := ?_) rfl (by decide +kernel) (by decide +kernel) (by decide +kernel) (fun _ _ _ h => h) (Or.inl ⟨by rfl, ?hy⟩) hcur ?_
                  case hy =>
                    intro w1 hSw
                    go_simp
                    (try with_reducible rfl)
                  (try simp only [Act.put, List.getElem_toArray, List.getElem_cons_zero, List.getElem_cons_succ, List.setIfInBounds_toArray, List.set_cons_zero, List.set_cons_succ])
                  refine wpAnyH_done (by decide +kernel) ?_ _
                  have HO3 := Lib.hid (HO2.out.call hcur)
                  clear hcur hbb
                  go_wp2_with fail
                  go_roundw
                  case rel => exact ⟨i + 1, i, by go_num, by go_num, hlt2, HBN.out, HO3.out⟩
                  case measure => simp [intOf]; omega
                · obtain ⟨y, hy, rfl⟩ := HBE.out.at_ hb
                  have hbb : decide ((y : Int) < 0) = false := decide_eq_false hb
                  have hyn : y < n := by omega
                  have HYI := Lib.hid (show w.cell? ⟨ab, ao + y, none⟩ = some (.int .i64 (l.getD y 0)) by
                    have hil : y < l.length := by rw [HLN.out]; exact hyn
                    rw [HXC.out y hil, List.getD_eq_getElem?_getD, List.getElem?_eq_getElem hil]
                    rfl)
                  have HBL := Lib.hid HO2.out.below
                  have HBK := Lib.hid (show ¬ l.getD i 0 < l.getD y 0 → Best (fun x => l.getD x 0) p k (i + 1) (y : Int) from fun q => HBE.out.keep q)
                  have HBS := Lib.hid (show l.getD i 0 < l.getD y 0 → Best (fun x => l.getD x 0) p k (i + 1) (i : Int) from fun q => HBE.out.less HNT.out q)
                  generalize l.getD i 0 = ei at HXI HBK HBS
                  generalize l.getD y 0 = ey at HYI HBK HBS
                  go_upto_region 13 with fail
                  refine wp_region_held_drew (S := fun w' => Below W.heap.size W w') (by kernel_rfl) (Below.drew (Below.refl _ _)) (fun hcur => ?_)
                  replace hcur : Below W.heap.size W W.drew := hcur
                  refine wpAnyH_take (i := 0) (v := ?_) rfl (by decide +kernel) (by decide +kernel) (by decide +kernel) (fun _ _ _ h => h) (Or.inl ⟨by rfl, ?hy⟩) hcur ?_
                  case hy =>
                    intro w1 hSw
                    go_simp
                    (try with_reducible rfl)
                  (try simp only [Act.put, List.getElem_toArray, List.getElem_cons_zero, List.getElem_cons_succ, List.setIfInBounds_toArray, List.set_cons_zero, List.set_cons_succ])
                  refine wpAnyH_take (i := 1) (v := ?_) rfl (by decide +kernel) (by decide +kernel) (by decide +kernel) (fun _ _ _ h => h) (Or.inl ⟨by rfl, ?hy⟩) hcur ?_
                  case hy =>
                    intro w1 hSw
                    go_simp
                    (try with_reducible rfl)
                  (try simp only [Act.put, List.getElem_toArray, List.getElem_cons_zero, List.getElem_cons_succ, List.setIfInBounds_toArray, List.set_cons_zero, List.set_cons_succ])
                  refine wpAnyH_take (i := 2) (v := ?_) rfl (by decide +kernel) (by decide +kernel) (by decide +kernel) (fun _ _ _ h => h) (Or.inl ⟨by rfl, ?hy⟩) hcur ?_
                  case hy =>
                    intro w1 hSw
                    go_simp
                    (try with_reducible rfl)
                  (try simp only [Act.put, List.getElem_toArray, List.getElem_cons_zero, List.getElem_cons_succ, List.setIfInBounds_toArray, List.set_cons_zero, List.set_cons_succ])
                  refine wpAnyH_take (i := 3) (v := ?_) rfl (by decide +kernel) (by decide +kernel) (by decide +kernel) (fun _ _ _ h => h) (Or.inl ⟨by rfl, ?hy⟩) hcur ?_
                  case hy =>
                    intro w1 hSw
                    go_simp
                    (try with_reducible rfl)
                  (try simp only [Act.put, List.getElem_toArray, List.getElem_cons_zero, List.getElem_cons_succ, List.setIfInBounds_toArray, List.set_cons_zero, List.set_cons_succ])
                  refine wpAnyH_take (i := 4) (v := ?_) rfl (by decide +kernel) (by decide +kernel) (by decide +kernel) (fun _ _ _ h => h) (Or.inl ⟨by rfl, ?hy⟩) hcur ?_
                  case hy =>
                    intro w1 hSw
                    go_simp
                    (try with_reducible rfl)
                  (try simp only [Act.put, List.getElem_toArray, List.getElem_cons_zero, List.getElem_cons_succ, List.setIfInBounds_toArray, List.set_cons_zero, List.set_cons_succ])
                  refine wpAnyH_take (i := 5) (v := ?_) rfl (by decide +kernel) (by decide +kernel) (by decide +kernel) (fun _ _ _ h => h) (Or.inl ⟨by rfl, ?hy⟩) hcur ?_
                  case hy =>
                    intro w1 hSw
                    go_simp
                    (try with_reducible rfl)
                  (try simp only [Act.put, List.getElem_toArray, List.getElem_cons_zero, List.getElem_cons_succ, List.setIfInBounds_toArray, List.set_cons_zero, List.set_cons_succ])
                  refine wpAnyH_take (i := 6) (v := ?_) rfl (by decide +kernel) (by decide +kernel) (by decide +kernel) (fun _ _ _ h => h) (Or.inl ⟨by rfl, ?hy⟩) hcur ?_
                  case hy =>
                    intro w1 hSw
                    go_simp
                    (try with_reducible rfl)
                  (try simp only [Act.put, List.getElem_toArray, List.getElem_cons_zero, List.getElem_cons_succ, List.setIfInBounds_toArray, List.set_cons_zero, List.set_cons_succ])
                  refine wpAnyH_take (i := 7) (v := ?_) rfl (by decide +kernel) (by decide +kernel) (by decide +kernel) (fun _ _ _ h => h) (Or.inl ⟨by rfl, ?hy⟩) hcur ?_
                  case hy =>
                    intro w1 hSw
                    go_simp
                    (try with_reducible rfl)
                  (try simp only [Act.put, List.getElem_toArray, List.getElem_cons_zero, List.getElem_cons_succ, List.setIfInBounds_toArray, List.set_cons_zero, List.set_cons_succ])
                  refine wpAnyH_take (i := 8) (v := ?_) rfl (by decide +kernel) (by decide +kernel) (by decide +kernel) (fun _ _ _ h => h) (Or.inl ⟨by rfl, ?hy⟩) hcur ?_
                  case hy =>
                    intro w1 hSw
                    go_simp
                    (try with_reducible rfl)
                  (try simp only [Act.put, List.getElem_toArray, List.getElem_cons_zero, List.getElem_cons_succ, List.setIfInBounds_toArray, List.set_cons_zero, List.set_cons_succ])
                  refine wpAnyH_take (i := 9) (v := ?_) rfl (by decide +kernel) (by decide +kernel) (by decide +kernel) (fun _ _ _ h => h) (Or.inl ⟨by rfl, ?hy⟩) hcur ?_
                  case hy =>
                    intro w1 hSw
                    replace hSw : Below W.heap.size W w1 := hSw
                    have x1 := ((below_of HBL.out hSw).cell (p := ⟨ab, ao + i, none⟩) HAB.out).trans HXI.out
                    have x2 := ((below_of HBL.out hSw).cell (p := ⟨ab, ao + y, none⟩) HAB.out).trans HYI.out
                    go_simp
                    (try with_reducible rfl)
                  (try simp only [Act.put, List.getElem_toArray, List.getElem_cons_zero, List.getElem_cons_succ, List.setIfInBounds_toArray, List.set_cons_zero, List.set_cons_succ])
                  refine wpAnyH_take (i := 10) (v := ?_) rfl (by decide +kernel) (by decide +kernel) (by decide +kernel) (fun _ _ _ h => h) (Or.inl ⟨by rfl, ?hy⟩) hcur ?_
                  case hy =>
                    intro w1 hSw
                    go_simp
                    (try with_reducible rfl)
                  (try simp only [Act.put, List.getElem_toArray, List.getElem_cons_zero, List.getElem_cons_succ, List.setIfInBounds_toArray, List.set_cons_zero, List.set_cons_succ])
                  refine wpAnyH_take (i := 11) (v := ?_) rfl (by decide +kernel) (by decide +kernel) (by decide +kernel) (fun _ _ _ h => h) (Or.inl ⟨by rfl, ?hy⟩) hcur ?_
                  case hy =>
                    intro w1 hSw
                    go_simp
                    (try with_reducible rfl)
                  (try simp only [Act.put, List.getElem_toArray, List.getElem_cons_zero, List.getElem_cons_succ, List.setIfInBounds_toArray, List.set_cons_zero, List.set_cons_succ])
                  refine wpAnyH_take (i := 12) (v := ?_) rfl (by decide +kernel) (by decide +kernel) (by decide +kernel) (fun _ _ _ h => h) (Or.inl ⟨by rfl, ?hy⟩) hcur ?_
                  case hy =>
                    intro w1 hSw
                    go_simp
                    (try with_reducible rfl)
                  (try simp only [Act.put, List.getElem_toArray, List.getElem_cons_zero, List.getElem_cons_succ, List.setIfInBounds_toArray, List.set_cons_zero, List.set_cons_succ])
                  refine wpAnyH_take (i := 13) (v := ?_) rfl (by decide +kernel) (by decide +kernel) (by decide +kernel) (fun _ _ _ h => h) (Or.inl ⟨by rfl, ?hy⟩) hcur ?_
                  case hy =>
                    intro w1 hSw
                    replace hSw : Below W.heap.size W w1 := hSw
                    have x1 := ((below_of HBL.out hSw).cell (p := ⟨ab, ao + i, none⟩) HAB.out).trans HXI.out
                    have x2 := ((below_of HBL.out hSw).cell (p := ⟨ab, ao + y, none⟩) HAB.out).trans HYI.out
                    go_simp
                    (try with_reducible rfl)
                  (try simp only [Act.put, List.getElem_toArray, List.getElem_cons_zero, List.getElem_cons_succ, List.setIfInBounds_toArray, List.set_cons_zero, List.set_cons_succ])
                  by_cases he : ei < ey
                  · have heb : decide (ei < ey) = true := decide_eq_true he
                    refine wpAnyH_take (i := 14) (v := ?_) rfl (by decide +kernel) (by decide +kernel) (by decide +kernel) (fun _ _ _ h => h) (Or.inl ⟨by rfl, ?hy⟩) hcur ?_
                    case hy =>
                      intro w1 hSw
                      go_simp
                      (try with_reducible rfl)
                    (try simp only [Act.put, List.getElem_toArray, List.getElem_cons_zero, List.getElem_cons_succ, List.setIfInBounds_toArray, List.set_cons_zero, List.set_cons_succ])
                    refine wpAnyH_take (i := 15) (v := ?_) rfl (by decide +kernel) (by decide +kernel) (by decide +kernel) (fun _ _ _ h => h) (Or.inl ⟨by rfl, ?hy⟩) hcur ?_
                    case hy =>
                      intro w1 hSw
                      go_simp
                      (try with_reducible rfl)
                    (try simp only [Act.put, List.getElem_toArray, List.getElem_cons_zero, List.getElem_cons_succ, List.setIfInBounds_toArray, List.set_cons_zero, List.set_cons_succ])
                    refine wpAnyH_take (i := 16) (v := ?_) rfl (by decide +kernel) (by decide +kernel) (by decide +kernel) (fun _ _ _ h => h) (Or.inl ⟨by rfl, ?hy⟩) hcur ?_
                    case hy =>
                      intro w1 hSw
                      go_simp
                      (try with_reducible rfl)
                    (try simp only [Act.put, List.getElem_toArray, List.getElem_cons_zero, List.getElem_cons_succ, List.setIfInBounds_toArray, List.set_cons_zero, List.set_cons_succ])
                    refine wpAnyH_done (by decide +kernel) ?_ _
                    have HO3 := Lib.hid (HO2.out.call hcur)
                    have HBN := Lib.hid (HBS.out he)
                    clear hcur hbb he heb
                    go_wp2_with fail
                    go_roundw
                    case rel => exact ⟨i + 1, i, by go_num, by go_num, hlt2, HBN.out, HO3.out⟩
                    case measure => simp [intOf]; omega
                  · have heb : decide (ei < ey) = false := decide_eq_false he
                    refine wpAnyH_take (i := 14) (v := ?_) rfl (by decide +kernel) (by decide +kernel) (by decide +kernel) (fun _ _ _ h => h) (Or.inl ⟨by rfl, ?hy⟩) hcur ?_
                    case hy =>
                      intro w1 hSw
                      go_simp
                      (try with_reducible rfl)
                    (try simp only [Act.put, List.getElem_toArray, List.getElem_cons_zero, List.getElem_cons_succ, List.setIfInBounds_toArray, List.set_cons_zero, List.set_cons_succ])
                    refine wpAnyH_take (i := 15) (v := ?_) rfl (by decide +kernel) (by decide +kernel) (by decide +kernel) (fun _ _ _ h => h) (Or.inl ⟨by rfl, ?hy⟩) hcur ?_
                    case hy =>
                      intro w1 hSw
                      go_simp
                      (try with_reducible rfl)
                    (try simp only [Act.put, List.getElem_toArray, List.getElem_cons_zero, List.getElem_cons_succ, List.setIfInBounds_toArray, List.set_cons_zero, List.set_cons_succ])
                    refine wpAnyH_take (i := 16) (v := ?_) rfl (by decide +kernel) (by decide +kernel) (by decide +kernel) (fun _ _ _ h => h) (Or.inl ⟨by rfl, ?hy⟩) hcur ?_
                    case hy =>
                      intro w1 hSw
                      go_simp
                      (try with_reducible rfl)
                    (try simp only [Act.put, List.getElem_toArray, List.getElem_cons_zero, List.getElem_cons_succ, List.setIfInBounds_toArray, List.set_cons_zero, List.set_cons_succ])
                    refine wpAnyH_done (by decide +kernel) ?_ _
                    have HO3 := Lib.hid (HO2.out.call hcur)
                    have HBN := Lib.hid (HBK.out he)
                    clear hcur hbb he heb
                    go_wp2_with fail
                    go_roundw
                    case rel => exact ⟨i + 1, y, by go_num, by go_num, hlt2, HBN.out, HO3.out⟩
                    case measure => simp [intOf]; omega
              · have HBN := Lib.hid (HBE.out.skip (HT.out.1 htk))
                clear htk HT
                go_upto_region 13 with fail
                refine wp_region_held_drew (S := fun w' => Below W.heap.size W w') (by kernel_rfl) (Below.drew (Below.refl _ _)) (fun hcur => ?_)
                replace hcur : Below W.heap.size W W.drew := hcur
                refine wpAnyH_take (i := 0) (v := ?_) rfl (by decide +kernel) (by decide +kernel) (by decide +kernel) (fun _ _ _ h => h) (Or.inl ⟨by rfl, ?hy⟩) hcur ?_
                case hy =>
                  intro w1 hSw
                  go_simp
                  (try with_reducible rfl)
                (try simp only [Act.put, List.getElem_toArray, List.getElem_cons_zero, List.getElem_cons_succ, List.setIfInBounds_toArray, List.set_cons_zero, List.set_cons_succ])
                refine wpAnyH_take (i := 1) (v := ?_) rfl (by decide +kernel) (by decide +kernel) (by decide +kernel) (fun _ _ _ h => h) (Or.inl ⟨by rfl, ?hy⟩) hcur ?_
                case hy =>
                  intro w1 hSw
                  go_simp
                  (try with_reducible rfl)
                (try simp only [Act.put, List.getElem_toArray, List.getElem_cons_zero, List.getElem_cons_succ, List.setIfInBounds_toArray, List.set_cons_zero, List.set_cons_succ])
                refine wpAnyH_take (i := 2) (v := ?_) rfl (by decide +kernel) (by decide +kernel) (by decide +kernel) (fun _ _ _ h => h) (Or.inl ⟨by rfl, ?hy⟩) hcur ?_
                case hy =>
                  intro w1 hSw
                  go_simp
                  (try with_reducible rfl)
                (try simp only [Act.put, List.getElem_toArray, List.getElem_cons_zero, List.getElem_cons_succ, List.setIfInBounds_toArray, List.set_cons_zero, List.set_cons_succ])
                refine wpAnyH_take (i := 3) rfl (by decide +kernel) (by decide +kernel) (by decide +kernel) (fun _ _ _ h => h) (Or.inr ⟨by rfl, rfl⟩) hcur ?_
                (try simp only [Act.put, List.getElem_toArray, List.getElem_cons_zero, List.getElem_cons_succ, List.setIfInBounds_toArray, List.set_cons_zero, List.set_cons_succ])
                refine wpAnyH_take (i := 4) rfl (by decide +kernel) (by decide +kernel) (by decide +kernel) (fun _ _ _ h => h) (Or.inr ⟨by rfl, rfl⟩) hcur ?_
                (try simp only [Act.put, List.getElem_toArray, List.getElem_cons_zero, List.getElem_cons_succ, List.setIfInBounds_toArray, List.set_cons_zero, List.set_cons_succ])
                refine wpAnyH_take (i := 5) rfl (by decide +kernel) (by decide +kernel) (by decide +kernel) (fun _ _ _ h => h) (Or.inr ⟨by rfl, rfl⟩) hcur ?_
                (try simp only [Act.put, List.getElem_toArray, List.getElem_cons_zero, List.getElem_cons_succ, List.setIfInBounds_toArray, List.set_cons_zero, List.set_cons_succ])
                refine wpAnyH_take (i := 6) rfl (by decide +kernel) (by decide +kernel) (by decide +kernel) (fun _ _ _ h => h) (Or.inr ⟨by rfl, rfl⟩) hcur ?_
                (try simp only [Act.put, List.getElem_toArray, List.getElem_cons_zero, List.getElem_cons_succ, List.setIfInBounds_toArray, List.set_cons_zero, List.set_cons_succ])
                refine wpAnyH_take (i := 7) rfl (by decide +kernel) (by decide +kernel) (by decide +kernel) (fun _ _ _ h => h) (Or.inr ⟨by rfl, rfl⟩) hcur ?_
                (try simp only [Act.put, List.getElem_toArray, List.getElem_cons_zero, List.getElem_cons_succ, List.setIfInBounds_toArray, List.set_cons_zero, List.set_cons_succ])
                refine wpAnyH_take (i := 8) rfl (by decide +kernel) (by decide +kernel) (by decide +kernel) (fun _ _ _ h => h) (Or.inr ⟨by rfl, rfl⟩) hcur ?_
                (try simp only [Act.put, List.getElem_toArray, List.getElem_cons_zero, List.getElem_cons_succ, List.setIfInBounds_toArray, List.set_cons_zero, List.set_cons_succ])
                refine wpAnyH_take (i := 9) rfl (by decide +kernel) (by decide +kernel) (by decide +kernel) (fun _ _ _ h => h) (Or.inr ⟨by rfl, rfl⟩) hcur ?_
                (try simp only [Act.put, List.getElem_toArray, List.getElem_cons_zero, List.getElem_cons_succ, List.setIfInBounds_toArray, List.set_cons_zero, List.set_cons_succ])
                refine wpAnyH_take (i := 10) rfl (by decide +kernel) (by decide +kernel) (by decide +kernel) (fun _ _ _ h => h) (Or.inr ⟨by rfl, rfl⟩) hcur ?_
                (try simp only [Act.put, List.getElem_toArray, List.getElem_cons_zero, List.getElem_cons_succ, List.setIfInBounds_toArray, List.set_cons_zero, List.set_cons_succ])
                refine wpAnyH_take (i := 11) rfl (by decide +kernel) (by decide +kernel) (by decide +kernel) (fun _ _ _ h => h) (Or.inr ⟨by rfl, rfl⟩) hcur ?_
                (try simp only [Act.put, List.getElem_toArray, List.getElem_cons_zero, List.getElem_cons_succ, List.setIfInBounds_toArray, List.set_cons_zero, List.set_cons_succ])
                refine wpAnyH_take (i := 12) rfl (by decide +kernel) (by decide +kernel) (by decide +kernel) (fun _ _ _ h => h) (Or.inr ⟨by rfl, rfl⟩) hcur ?_
                (try simp only [Act.put, List.getElem_toArray, List.getElem_cons_zero, List.getElem_cons_succ, List.setIfInBounds_toArray, List.set_cons_zero, List.set_cons_succ])
                refine wpAnyH_take (i := 13) rfl (by decide +kernel) (by decide +kernel) (by decide +kernel) (fun _ _ _ h => h) (Or.inr ⟨by rfl, rfl⟩) hcur ?_
                (try simp only [Act.put, List.getElem_toArray, List.getElem_cons_zero, List.getElem_cons_succ, List.setIfInBounds_toArray, List.set_cons_zero, List.set_cons_succ])
                refine wpAnyH_take (i := 14) rfl (by decide +kernel) (by decide +kernel) (by decide +kernel) (fun _ _ _ h => h) (Or.inr ⟨by rfl, rfl⟩) hcur ?_
                (try simp only [Act.put, List.getElem_toArray, List.getElem_cons_zero, List.getElem_cons_succ, List.setIfInBounds_toArray, List.set_cons_zero, List.set_cons_succ])
                refine wpAnyH_take (i := 15) rfl (by decide +kernel) (by decide +kernel) (by decide +kernel) (fun _ _ _ h => h) (Or.inr ⟨by rfl, rfl⟩) hcur ?_
                (try simp only [Act.put, List.getElem_toArray, List.getElem_cons_zero, List.getElem_cons_succ, List.setIfInBounds_toArray, List.set_cons_zero, List.set_cons_succ])
                refine wpAnyH_take (i := 16) (v := ?_) rfl (by decide +kernel) (by decide +kernel) (by decide +kernel) (fun _ _ _ h => h) (Or.inl ⟨by rfl, ?hy⟩) hcur ?_
                case hy =>
                  intro w1 hSw
                  go_simp
                  (try with_reducible rfl)
                (try simp only [Act.put, List.getElem_toArray, List.getElem_cons_zero, List.getElem_cons_succ, List.setIfInBounds_toArray, List.set_cons_zero, List.set_cons_succ])
                refine wpAnyH_done (by decide +kernel) ?_ _
                have HO3 := Lib.hid (HO2.out.call hcur)
                clear hcur
                go_wp2_with fail
                go_roundw
                case rel => exact ⟨i + 1, b, rfl, by go_num, hlt2, HBN.out, HO3.out⟩
                case measure => simp [intOf]; omega
        · obtain rfl : i = n := by omega
          have hbp : b = (p m : Int) := HBE.out.done HP.out HS.out hlt
          subst hbp
          clear HBE
          obtain ⟨A2, c2, W3, hrun, _, hO3⟩ := HO2.out.pushI 0 rfl (p m : Int) (by omega)
          simp only [List.set_cons_zero] at hO3
          have Hrun := Lib.hid hrun
          have HO3 := Lib.hid hO3
          have HTS := Lib.hid (tab_succ m (fun k => (p k : Int)))
          clear hrun hO3 HO2
          go_wp2_with (at_builtin; refine wpList_append_run rfl (.tmp 49) (.tmp 51) 90 rfl rfl rfl Hrun.out ?_)
          go_roundw
          case rel => exact ⟨m + 1, A2, c2, rfl, hlt, by rw [HTS.out]; exact HO3.out⟩
          case measure => simp [lenV]; omega
    · obtain rfl : m = n := by omega
      have HR := Lib.hid (And.intro (HO.out.rdI 0 rfl) HO.out.below)
      go_wp2_with fail
      go_ret
      exact ⟨A1, c1, rfl, HR.out⟩

end Go.Proofs.Ythbafbgnclpbpaa

namespace Go.Proofs.Ythbafbgnclpbpaa
open Go.RowKit

def evRow (xs : List EvD) : List Value := xs.flatMap evCells
theorem evRow_append (xs ys : List EvD) : evRow (xs ++ ys) = evRow xs ++ evRow ys := by simp [evRow]
theorem evCells_one (x : EvD) : ∀ u ∈ evCells x, u.oneCell' = true := by
  intro u hu
  simp only [evCells, List.mem_cons, List.not_mem_nil, or_false] at hu
  rcases hu with rfl | rfl | rfl | rfl | rfl | rfl | rfl | rfl | rfl | rfl | rfl | rfl <;> rfl
theorem evRow_one (xs : List EvD) : ∀ u ∈ evRow xs, u.oneCell' = true := by
  intro u hu
  unfold evRow at hu
  rw [List.mem_flatMap] at hu
  obtain ⟨x, _, hx⟩ := hu
  exact evCells_one x u hx
theorem evRow_length (xs : List EvD) : (evRow xs).length = xs.length * 12 := by
  induction xs with
  | nil => rfl
  | cons x t ih =>
    have e : evRow (x :: t) = evCells x ++ evRow t := rfl
    rw [e, List.length_append, ih, List.length_cons, show (evCells x).length = 12 from rfl]
    omega
theorem evRow_at (xs : List EvD) : ∀ (j : Nat) (hj : j < xs.length) (k : Nat) (v : Value), (evCells xs[j])[k]? = some v → (evRow xs)[j * 12 + k]? = some v := by
  induction xs with
  | nil => intro j hj; simp at hj
  | cons x t ih =>
    intro j hj k v hv
    have hs : (evCells x).length = 12 := rfl
    have e : evRow (x :: t) = evCells x ++ evRow t := rfl
    rw [e]
    rcases j with _ | j
    · have hk : k < 12 := (List.getElem?_eq_some_iff.1 hv).1
      rw [Nat.zero_mul, Nat.zero_add, List.getElem?_append_left (by omega)]
      exact hv
    · rw [List.getElem?_append_right (by omega), hs, show (j + 1) * 12 + k - 12 = j * 12 + k by omega]
      exact ih j (by simpa using hj) k v hv
def evZ : EvD := ⟨0, 0, 0, 0, ⟨#[]⟩, ⟨#[]⟩, 0, 0, 0, ⟨#[]⟩, 0, none, 0, 0⟩
theorem ev_info : (Try.prog.info? 93).map (fun i => (i.zero, i.size, i.bytes)) = some (some (.agg (evCells evZ).toArray), 12, 136) := by kernel_rfl

/-- An event at a place. -/
def EvAt (w : World) (b o : Nat) (x : EvD) : Prop := ∀ (k : Nat) (v : Value), (evCells x)[k]? = some v → w.cell? ⟨b, o + k, none⟩ = some v
theorem EvAt.new (w : World) (x : EvD) (T : TypeId) : EvAt (w.alloc (.cells (evCells x).toArray T)) w.heap.size 0 x := fun k v hk => by
  rw [Nat.zero_add]
  exact new_cell w _ T k v (by simpa using hk)
theorem EvAt.up {w w' : World} {b o : Nat} {x : EvD} (h : EvAt w b o x) (hb : Below w.heap.size w w') (hg : b < w.heap.size) : EvAt w' b o x := fun k v hk => (hb.cell (p := ⟨b, o + k, none⟩) hg).trans (h k v hk)
/-- A slice of events. -/
def RdE (w : World) (A : Option Addr) (n : Nat) (xs : List EvD) : Prop := Rd w w.heap.size 12 A n (evRow xs)
theorem RdE.len {w : World} {A : Option Addr} {n : Nat} {xs : List EvD} (h : RdE w A n xs) : xs.length = n := by
  have := h.1
  rw [evRow_length] at this
  omega
theorem RdE.up {w w' : World} {A : Option Addr} {n : Nat} {xs : List EvD} (h : RdE w A n xs) (hb : Below w.heap.size w w') : RdE w' A n xs := Rd.up h hb
theorem RdE.spot {w : World} {A : Option Addr} {n : Nat} {xs : List EvD} (h : RdE w A n xs) (hn : 0 < n) : ∃ b off, A = some ⟨b, off, none⟩ ∧ b < w.heap.size ∧ ∀ (j : Nat) (hj : j < xs.length), EvAt w b (off + j * 12) xs[j] := by
  obtain ⟨b, off, e, hb, hc⟩ := h.2 hn
  exact ⟨b, off, e, hb, fun j hj k v hv => by
    rw [Nat.add_assoc]
    exact hc _ v (evRow_at xs j hj k v hv)⟩
theorem RdE.of_own {w : World} {B n c : Nat} {A : Option Addr} {xs : List EvD} {T : TypeId} (h : w.ownsRow B T 12 (.slice A n c) n (evRow xs)) : RdE w A n xs := Rd.of_own h

set_option maxRecDepth 100000 in
set_option maxHeartbeats 1000000 in
theorem evcmp_any (x y : EvD) (w : World) (hk : 1 ≤ y.kind ∧ y.kind ≤ x.kind ∧ x.kind ≤ 2) :
    Calls Try.prog 103 #[.agg (evCells x).toArray, .agg (evCells y).toArray] w (fun e w' => ∃ v : Int, e = .returned (.int .i64 v) ∧ (v < 0 ↔ x.step < y.step) ∧ Below w.heap.size w w') := by
  have h1 := EvAt.new w x 93
  have h2 := EvAt.new (w.alloc (.cells (evCells x).toArray 93)) y 93
  have hba := below_alloc w (.cells (evCells x).toArray 93)
  have hbb := below_alloc (w.alloc (.cells (evCells x).toArray 93)) (.cells (evCells y).toArray 93)
  have hsz : (w.alloc (.cells (evCells x).toArray 93)).heap.size = w.heap.size + 1 := by simp
  have h1' := h1.up hbb (by rw [hsz]; omega)
  rw [hsz] at h2
  have x0 := h1' 0 _ rfl
  have x2 := h1' 2 _ rfl
  have y0 := h2 0 _ rfl
  have y2 := h2 2 _ rfl
  have HB := Lib.hid (below_of hba hbb)
  have hk1 := hk.1
  have hk2 := hk.2.1
  have hk3 := hk.2.2
  clear h1 h2 h1' hba hbb hsz hk
  simp only [Nat.zero_add] at x0 x2 y0 y2
  obtain ⟨xs, xt, xk, x3, x4, x5, x6, x7, x8, x9, x10, x11, x12, x13⟩ := x
  obtain ⟨ys, yt, yk, y3, y4, y5, y6, y7, y8, y9, y10, y11, y12, y13⟩ := y
  simp only [evCells] at x0 x2 y0 y2 HB hk1 hk2 hk3 ⊢
  go_enter Try.func103, Try.ntmps103
  go_upto_region 1 with fail
  generalize (w.alloc _).alloc _ = W at x0 x2 y0 y2 HB ⊢
  by_cases c1 : xs < ys
  · go_wp2_with fail
    go_ret
    exact ⟨-1, rfl, ⟨fun _ => c1, fun _ => by decide⟩, HB.out⟩
  · by_cases c2 : ys < xs
    · go_wp2_with fail
      go_ret
      exact ⟨1, rfl, ⟨fun q => absurd q (by decide), fun q => absurd q (by omega)⟩, HB.out⟩
    · have hd : 0 ≤ xk - yk := by omega
      go_wp2_with fail
      go_ret
      exact ⟨_, rfl, ⟨fun q => by omega, fun q => absurd q (by omega)⟩, HB.out⟩

theorem cmpE_any (W0 : World) (g N : Nat) (E : Nat → EvD) (hk : ∀ x y, y < x → x < N → 1 ≤ (E y).kind ∧ (E y).kind ≤ (E x).kind ∧ (E x).kind ≤ 2) : CmpE W0 g N 0 E (fun x => (E x).step) := fun x y W hyx hx _ => by
  refine (evcmp_any (E x) (E y) W (hk x y hyx hx)).mono ?_
  rintro e w' ⟨v, rfl, hv, hb⟩
  exact ⟨v, rfl, by rw [hv, lx_right (key := fun x => (E x).step) hyx], hb⟩

theorem Ow.pushE {B : Nat} {W0 W : World} {L : List (Nat × Obj)} {R : List RowT} (h : Ow B W0 W L R) (i : Nat) {n : Nat} {v : Value} {xs : List EvD} (hi : R[i]? = some ⟨93, 12, v, n, evRow xs⟩) (x : EvD) (hl : n ≤ 10000) :
    ∃ A' c' W1, (Builtin.append_ #[91, 91] 91 #[v, .slice (some ⟨W.heap.size, 0, none⟩) 1 1]).run Try.prog (W.alloc (.cells (evCells x).toArray 93)) = .ok (.slice A' (n + 1) c') W1 ∧ n + 1 ≤ c' ∧
      Ow B W0 W1 L (R.set i ⟨93, 12, .slice A' (n + 1) c', n + 1, evRow (xs ++ [x])⟩) := by
  have := h.push (P := Try.prog) i hi 91 91 (.agg (evCells evZ).toArray) 136 (by kernel_rfl) ev_info rfl (by omega) (evCells x) rfl (evCells_one x) hl (by omega)
  rw [evRow_append, show evRow [x] = evCells x by simp [evRow]]
  exact this

set_option maxRecDepth 100000 in
/-- A row of events is laid behind an own row. -/
theorem run_append_evs {w : World} (base : Nat) (v : Value) (n : Nat) (xs : List EvD) (hown : w.ownsRow base 93 12 v n (evRow xs)) (A : Option Addr) (m c : Nat) (ys : List EvD) (hr : RdE w A m ys) (hl : n + m ≤ 10000) (hbase : base ≤ w.heap.size) :
    ∃ A' c' w', (Builtin.append_ #[91, 91] 91 #[v, .slice A m c]).run Try.prog w = .ok (.slice A' (n + m) c') w' ∧ w'.ownsRow base 93 12 (.slice A' (n + m) c') (n + m) (evRow (xs ++ ys)) ∧ w.grownBy w' v.ownBlock := by
  obtain ⟨i, hi, hz, hs, hb⟩ := info_parts ev_info
  have hnl := hr.len
  have hform : ∀ (v' : Value) (w' : World), w'.ownsRow base 93 12 v' (n + m) (evRow (xs ++ ys)) → ∃ A' c', v' = .slice A' (n + m) c' := fun v' w' h2 => by
    rcases h2.2 with ⟨rfl, h0⟩ | ⟨g, cap, cur, rfl, _⟩
    · rw [h0]; exact ⟨none, 0, rfl⟩
    · exact ⟨_, cap, rfl⟩
  rcases A with _ | ad
  · have hm : m = 0 := by
      rcases Nat.eq_zero_or_pos m with h0 | h0
      · exact h0
      · obtain ⟨_, _, h, _⟩ := hr.2 h0; cases h
    subst hm
    have hn : ys = [] := List.eq_nil_of_length_eq_zero hnl
    subst hn
    have h2 : w.ownsRow base 93 12 v (n + 0) (evRow (xs ++ [])) := by simpa using hown
    obtain ⟨A', c', rfl⟩ := hform v w h2
    refine ⟨A', c', w, ?_, h2, World.grownBy.refl w _⟩
    rcases hown.2 with ⟨e, rfl⟩ | ⟨g, cap, cur, e, _, _, hnc, _⟩
    · injection e with e1 e2 e3
      subst e1; subst e3
      simp [Builtin.append_, run_underlying Try.underlying91, sizeOf, typeInfo, hi, Builtin.lenOf, Builtin.firstCells]
    · injection e with e1 e2 e3
      subst e1; subst e3
      simp [Builtin.append_, run_underlying Try.underlying91, sizeOf, typeInfo, hi, Builtin.lenOf, Builtin.firstCells, hnc, storeCells]
  · have hcells : ∀ (j : Nat) (u : Value), (evRow ys)[j]? = some u → w.cell? (ad.add j) = some u := by
      intro j u hu
      by_cases h0 : 0 < m
      · obtain ⟨b, off, e, _, hc⟩ := hr.2 h0
        injection e with e
        subst e
        rw [Addr.add_lit]
        exact hc j u hu
      · have hn : ys = [] := List.eq_nil_of_length_eq_zero (by omega)
        subst hn
        simp [evRow] at hu
    obtain ⟨v', w', hrun, h2, h3, _⟩ := run_append_own (P := Try.prog) w base 91 91 93 i (.agg (evCells evZ).toArray) 12 136 Try.underlying91 hi hz hs hb rfl (by omega) v n (evRow xs) hown ad m c (evRow ys) (by rw [evRow_length, hnl]) hcells (evRow_one ys) (by unfold maxLen; omega) (by omega) hbase
    rw [← evRow_append] at h2
    obtain ⟨A', c', rfl⟩ := hform v' w' h2
    exact ⟨A', c', w', hrun, h2, h3⟩

set_option maxRecDepth 100000 in
set_option maxHeartbeats 1000000 in
theorem join_any (vb : Nat) (A1 A2 : Option Addr) (n1 c1 n2 c2 cc : Nat) (xs ys : List EvD) (w : World) (h0 : w.cell? ⟨vb, 0, none⟩ = some (.slice A1 n1 c1)) (h1 : w.cell? ⟨vb, 1, none⟩ = some (.slice A2 n2 c2)) (hvb : vb < w.heap.size) (hx : RdE w A1 n1 xs) (hy : RdE w A2 n2 ys) (hl : n1 + n2 ≤ 10000) :
    Calls Try.prog 102 #[.slice (some ⟨vb, 0, none⟩) 2 cc] w (fun e w' => ∃ A' c', e = .returned (.slice A' (n1 + n2) c') ∧ w'.ownsRow w.heap.size 93 12 (.slice A' (n1 + n2) c') (n1 + n2) (evRow (xs ++ ys)) ∧ Below w.heap.size w w') := by
  have HX := Lib.hid hx
  have HY := Lib.hid hy
  have HC := Lib.hid (And.intro h0 (And.intro h1 hvb))
  have hW0 : w.ownsRow w.heap.size 93 12 (.slice none 0 0) 0 (evRow []) := World.ownsRow_nil _ _ _ _
  obtain ⟨B1, d1, w1, hrun1, ho1, hg1⟩ := run_append_evs (w := w) w.heap.size (.slice none 0 0) 0 [] hW0 A1 n1 c1 xs hx (by omega) (Nat.le_refl _)
  rw [Nat.zero_add, List.nil_append] at ho1
  rw [Nat.zero_add] at hrun1
  have hb1 : Below w.heap.size w w1 := (Below.refl _ _).grown hg1 (Nat.le_refl _) (fun k hk => by cases hk)
  obtain ⟨B2, d2, w2, hrun2, ho2, hg2⟩ := run_append_evs (w := w1) w.heap.size (.slice B1 n1 d1) n1 xs ho1 A2 n2 c2 ys (hy.up hb1) hl hb1.size
  have hb2 : Below w.heap.size w w2 := hb1.grown hg2 hb1.size (fun k hk => (own_lt ho1 hk).1)
  have e1 := (hb1.cell (p := ⟨vb, 1, none⟩) hvb).trans h1
  have HR1 := Lib.hid hrun1
  have HR2 := Lib.hid hrun2
  have HF := Lib.hid (And.intro ho2 hb2)
  have HE1 := Lib.hid e1
  clear hx hy h0 h1 hvb hW0 hrun1 ho1 hg1 hb1 hrun2 ho2 hg2 hb2 e1
  go_enter Try.func102, Try.ntmps102
  go_wp2_with fail
  go_loopw [2, 4, 7] (fun v _ i wr => (i = .int .i64 0 ∧ v = .slice none 0 0 ∧ w = wr) ∨ (i = .int .i64 1 ∧ v = .slice B1 n1 d1 ∧ w1 = wr) ∨ (i = .int .i64 2 ∧ v = .slice B2 (n1 + n2) d2 ∧ w2 = wr)) (fun _ _ i _ => 2 - (intOf i).toNat)
  case atStart => exact .inl ⟨rfl, rfl, rfl⟩
  case round =>
    rcases hrel with ⟨rfl, rfl, rfl⟩ | ⟨rfl, rfl, rfl⟩ | ⟨rfl, rfl, rfl⟩
    · have y0 := HC.out.1
      go_wp2_with (at_builtin; refine wpList_append_run rfl (.tmp 11) (.tmp 12) 91 rfl rfl rfl HR1.out ?_)
      go_roundw
      case rel => exact .inr (.inl ⟨rfl, rfl, trivial⟩)
      case measure => simp [intOf]
    · have y1 := HE1.out
      go_wp2_with (at_builtin; refine wpList_append_run rfl (.tmp 11) (.tmp 12) 91 rfl rfl rfl HR2.out ?_)
      go_roundw
      case rel => exact .inr (.inr ⟨rfl, rfl, trivial⟩)
      case measure => simp [intOf]
    · go_wp2_with fail
      go_ret
      exact ⟨B2, d2, rfl, HF.out⟩

end Go.Proofs.Ythbafbgnclpbpaa
