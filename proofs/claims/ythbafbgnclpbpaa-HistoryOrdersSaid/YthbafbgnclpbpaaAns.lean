/- Contracts of package answer: one. -/
import Derived.Test.YthbafbgnclpbpaaLives01
namespace Go.Proofs.Ythbafbgnclpbpaa
open Go.RowKit

structure PairD where
  key : ByteArray
  val : Nat
deriving DecidableEq
def prCells (p : PairD) : Array Value := #[.string p.key, .int .u64 (p.val : Int)]
/-- A slice of pairs. -/
def Prs (w : World) (A : Option Addr) (n : Nat) (ps : List PairD) : Prop :=
  ps.length = n ∧ (0 < n → ∃ b off, A = some ⟨b, off, none⟩ ∧ b < w.heap.size ∧ ∀ (j : Nat) (hj : j < ps.length) (k : Nat) (v : Value), (prCells ps[j])[k]? = some v → w.cell? ⟨b, off + j * 2 + k, none⟩ = some v)
theorem Prs.up {w w' : World} {A : Option Addr} {n : Nat} {ps : List PairD} (h : Prs w A n ps) (hb : Below w.heap.size w w') : Prs w' A n ps := ⟨h.1, fun h0 => by
  obtain ⟨b, off, e, hbl, hc⟩ := h.2 h0
  exact ⟨b, off, e, Nat.lt_of_lt_of_le hbl hb.size, fun j hj k v hv => (hb.cell (p := ⟨b, off + j * 2 + k, none⟩) hbl).trans (hc j hj k v hv)⟩⟩
theorem Prs.at_ {w : World} {A : Option Addr} {n : Nat} {ps : List PairD} (h : Prs w A n ps) {j : Nat} (hj : j < n) : ∃ b off, ∃ hjl : j < ps.length, A = some ⟨b, off, none⟩ ∧ b < w.heap.size ∧ w.cell? ⟨b, off + j * 2, none⟩ = some (.string ps[j].key) ∧ w.cell? ⟨b, off + j * 2 + 1, none⟩ = some (.int .u64 (ps[j].val : Int)) := by
  obtain ⟨b, off, e, hbl, hc⟩ := h.2 (by omega)
  have hjl : j < ps.length := by rw [h.1]; exact hj
  exact ⟨b, off, hjl, e, hbl, hc j hjl 0 _ rfl, hc j hjl 1 _ rfl⟩

structure AnsD where
  code : Int
  key : ByteArray
  val : Nat
  pairs : List PairD
def ansCells (a : AnsD) (A : Option Addr) (c : Nat) : Array Value := #[.int .i64 a.code, .string a.key, .int .u64 (a.val : Int), .slice A a.pairs.length c]
structure AnsOk (a : AnsD) : Prop where
  code : -9223372036854775808 ≤ a.code ∧ a.code ≤ 9223372036854775807
  key : a.key.size ≤ maxLen
  val : a.val < 18446744073709551616
  pairs : ∀ p ∈ a.pairs, p.key.size ≤ maxLen ∧ p.val < 18446744073709551616
  len : a.pairs.length ≤ 9223372036854775807

theorem pair_eq {p q : PairD} (h : p = q) : (p.key.toList == q.key.toList) = true ∧ ((p.val : Int) == (q.val : Int)) = true := by subst h; simp
theorem txt_ne {a b : ByteArray} (h : a ≠ b) : (a.toList == b.toList) = false := by
  rw [beq_eq_false_iff_ne]
  intro e
  rw [ByteArray.toList_eq, ByteArray.toList_eq] at e
  exact h (ByteArray.ext (Array.toList_inj.1 e))
theorem pair_ne {p q : PairD} (h : p ≠ q) : (p.key.toList == q.key.toList) = false ∨ ((p.key.toList == q.key.toList) = true ∧ ((p.val : Int) == (q.val : Int)) = false) := by
  by_cases hk : p.key = q.key
  · right
    refine ⟨by rw [hk]; simp, ?_⟩
    rw [beq_eq_false_iff_ne]
    intro hv
    exact h (by cases p; cases q; simp at *; exact ⟨hk, by omega⟩)
  · exact .inl (txt_ne hk)

set_option maxRecDepth 100000 in
set_option maxHeartbeats 1000000 in
theorem equalP_any (A B : Option Addr) (n c m d : Nat) (ss ts : List PairD) (w : World) (h : Prs w A n ss) (k : Prs w B m ts) (hn : n ≤ 9223372036854775807) :
    Calls Try.prog 73 #[.slice A n c, .slice B m d] w (Ret (.bool (decide (ss = ts))) w) := by
  have hlen := Lib.hid h.1
  have klen := Lib.hid k.1
  by_cases hnm : n = m
  · subst hnm
    have t0 : ((n : Int) != (n : Int)) = false := by simp
    go_enter Try.func73, Try.ntmps73
    go_wp2_with fail
    go_loopw [5, 13] (fun _ i wr => ∃ j : Nat, j ≤ n ∧ i = .int .i64 j ∧ Hid (∀ q (hq : q < ss.length) (hq' : q < ts.length), q < j → ss[q] = ts[q]) ∧ Below w.heap.size w wr) (fun _ i _ => n - (intOf i).toNat)
    case atStart => exact ⟨0, Nat.zero_le _, rfl, fun q _ _ hq => absurd hq (Nat.not_lt_zero _), Below.refl _ _⟩
    case round =>
      obtain ⟨j, hj, rfl, hpre, hbel⟩ := hrel
      by_cases hlt : j < n
      · obtain ⟨b, off, hjl, rfl, hb, c0, c1⟩ := (h.up hbel).at_ hlt
        obtain ⟨b', off', hjk, rfl, hb', e0, e1⟩ := (k.up hbel).at_ hlt
        by_cases he : ss[j] = ts[j]
        · have Ht := Lib.hid he
          rw [he] at c0 c1
          clear he
          go_wp2_with fail
          go_quiet (fail)
          go_wp2_with fail
          go_roundw
          case rel =>
            refine ⟨j + 1, by omega, by go_num, fun q hq hq' hqj => ?_, below_drewN hbel _⟩
            rcases Nat.lt_succ_iff_lt_or_eq.1 hqj with g | rfl
            · exact hpre.out q hq hq' g
            · exact Ht.out
          case measure => simp [intOf]; omega
        · have Ht := Lib.hid he
          rcases pair_ne he with ht | ⟨ht, ht'⟩
          all_goals
            clear he
            go_wp2_with fail
            go_quiet (fail)
            go_wp2_with fail
            go_ret
            refine ⟨ret_bool ?_, below_drewN hbel _⟩
            symm
            apply decide_eq_false
            rintro rfl
            exact Ht.out rfl
      · go_wp2_with fail
        go_ret
        refine ⟨ret_bool ?_, hbel⟩
        symm
        apply decide_eq_true
        apply List.ext_getElem (by rw [hlen.out, klen.out])
        intro q hq hq'
        exact hpre.out q hq hq' (by rw [hlen.out] at hq; omega)
  · have t0 : ((n : Int) != (m : Int)) = true := by simp; omega
    go_enter Try.func73, Try.ntmps73
    go_wp2_with fail
    go_ret
    refine ⟨ret_bool ?_, Below.refl _ _⟩
    symm
    apply decide_eq_false
    rintro rfl
    exact hnm (by rw [← hlen.out, klen.out])

set_option maxRecDepth 100000 in
set_option maxHeartbeats 1000000 in
theorem same06_any (A B : Option Addr) (n c m d : Nat) (ss ts : List PairD) (w : World) (h : Prs w A n ss) (k : Prs w B m ts) (hn : n ≤ 9223372036854775807) :
    Calls Try.prog 72 #[.slice A n c, .slice B m d] w (Ret (.bool (decide (ss = ts))) w) := by
  have hlen := Lib.hid h.1
  have klen := Lib.hid k.1
  by_cases hnm : n = m
  · subst hnm
    have t0 : ((n : Int) != (n : Int)) = false := by simp
    go_enter Try.func72, Try.ntmps72
    go_wp2_with fail
    go_loopw [5] (fun i wr => ∃ j : Nat, j ≤ n ∧ i = .int .i64 j ∧ Hid (∀ q (hq : q < ss.length) (hq' : q < ts.length), q < j → ss[q] = ts[q]) ∧ Below w.heap.size w wr) (fun  i _ => n - (intOf i).toNat)
    case atStart => exact ⟨0, Nat.zero_le _, rfl, fun q _ _ hq => absurd hq (Nat.not_lt_zero _), Below.refl _ _⟩
    case round =>
      obtain ⟨j, hj, rfl, hpre, hbel⟩ := hrel
      by_cases hlt : j < n
      · obtain ⟨b, off, hjl, rfl, hb, c0, c1⟩ := (h.up hbel).at_ hlt
        obtain ⟨b', off', hjk, rfl, hb', e0, e1⟩ := (k.up hbel).at_ hlt
        by_cases he : ss[j] = ts[j]
        · have Ht := Lib.hid he
          rw [he] at c0 c1
          clear he
          go_wp2_with fail
          go_quiet (fail)
          go_wp2_with fail
          go_roundw
          case rel =>
            refine ⟨j + 1, by omega, by go_num, fun q hq hq' hqj => ?_, below_drewN hbel _⟩
            rcases Nat.lt_succ_iff_lt_or_eq.1 hqj with g | rfl
            · exact hpre.out q hq hq' g
            · exact Ht.out
          case measure => simp [intOf]; omega
        · have Ht := Lib.hid he
          rcases pair_ne he with ht | ⟨ht, ht'⟩
          all_goals
            clear he
            go_wp2_with fail
            go_quiet (fail)
            go_wp2_with fail
            go_ret
            refine ⟨ret_bool ?_, below_drewN hbel _⟩
            symm
            apply decide_eq_false
            rintro rfl
            exact Ht.out rfl
      · go_wp2_with fail
        go_ret
        refine ⟨ret_bool ?_, hbel⟩
        symm
        apply decide_eq_true
        apply List.ext_getElem (by rw [hlen.out, klen.out])
        intro q hq hq'
        exact hpre.out q hq hq' (by rw [hlen.out] at hq; omega)
  · have t0 : ((n : Int) != (m : Int)) = true := by simp; omega
    go_enter Try.func72, Try.ntmps72
    go_wp2_with fail
    go_ret
    refine ⟨ret_bool ?_, Below.refl _ _⟩
    symm
    apply decide_eq_false
    rintro rfl
    exact hnm (by rw [← hlen.out, klen.out])


end Go.Proofs.Ythbafbgnclpbpaa
