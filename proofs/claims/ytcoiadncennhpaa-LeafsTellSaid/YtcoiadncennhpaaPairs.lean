/- Rows of pairs: where they lie, how they are made; bowerref06: Same. -/
import Derived.Test.YtcoiadncennhpaaMapPl
import Derived.Test.YtcoiadncennhpaaOw
namespace Go.Proofs.Ytcoiadncennhpaa
open Go.RowKit

def prCells (p : PairD) : Array Value := #[.string p.key, .int .u64 p.val]
/-- A slice of pairs. -/
def Prs (w : World) (A : Option Addr) (n : Nat) (ps : List PairD) : Prop :=
  ps.length = n ∧ (0 < n → ∃ b off, A = some ⟨b, off, none⟩ ∧ b < w.heap.size ∧ ∀ (j : Nat) (hj : j < ps.length) (k : Nat) (v : Value), (prCells ps[j])[k]? = some v → w.cell? ⟨b, off + j * 2 + k, none⟩ = some v)
theorem Prs.up {w w' : World} {A : Option Addr} {n : Nat} {ps : List PairD} (h : Prs w A n ps) (hb : Below w.heap.size w w') : Prs w' A n ps := ⟨h.1, fun h0 => by
  obtain ⟨b, off, e, hbl, hc⟩ := h.2 h0
  exact ⟨b, off, e, Nat.lt_of_lt_of_le hbl hb.size, fun j hj k v hv => (hb.cell (p := ⟨b, off + j * 2 + k, none⟩) hbl).trans (hc j hj k v hv)⟩⟩
theorem Prs.at_ {w : World} {A : Option Addr} {n : Nat} {ps : List PairD} (h : Prs w A n ps) {j : Nat} (hj : j < n) : ∃ b off, ∃ hjl : j < ps.length, A = some ⟨b, off, none⟩ ∧ b < w.heap.size ∧ w.cell? ⟨b, off + j * 2, none⟩ = some (.string ps[j].key) ∧ w.cell? ⟨b, off + j * 2 + 1, none⟩ = some (.int .u64 ps[j].val) := by
  obtain ⟨b, off, e, hbl, hc⟩ := h.2 (by omega)
  have hjl : j < ps.length := by rw [h.1]; exact hj
  exact ⟨b, off, hjl, e, hbl, hc j hjl 0 _ rfl, hc j hjl 1 _ rfl⟩
/-- All texts of a row of pairs are as long as a text may be. -/
def FitP (ps : List PairD) : Prop := ∀ p ∈ ps, p.key.size ≤ maxLen

theorem txt_ne {a b : ByteArray} (h : a ≠ b) : (a.toList == b.toList) = false := by
  rw [beq_eq_false_iff_ne]
  intro e
  rw [ByteArray.toList_eq, ByteArray.toList_eq] at e
  exact h (ByteArray.ext (Array.toList_inj.1 e))
theorem txt_is {a b : ByteArray} (h : a = b) : (a.toList == b.toList) = true := by subst h; simp
theorem pair_eq {p q : PairD} (h : p = q) : (p.key.toList == q.key.toList) = true ∧ (p.val == q.val) = true := by subst h; simp
theorem pair_ne {p q : PairD} (h : p ≠ q) : (p.key.toList == q.key.toList) = false ∨ ((p.key.toList == q.key.toList) = true ∧ (p.val == q.val) = false) := by
  by_cases hk : p.key = q.key
  · right
    refine ⟨by rw [hk]; simp, ?_⟩
    rw [beq_eq_false_iff_ne]
    intro hv
    exact h (by cases p; cases q; simp at *; exact ⟨hk, hv⟩)
  · exact .inl (txt_ne hk)

set_option maxRecDepth 100000 in
set_option maxHeartbeats 1000000 in
theorem same06_any (A B : Option Addr) (n c m d : Nat) (ss ts : List PairD) (w : World) (h : Prs w A n ss) (k : Prs w B m ts) (hn : n ≤ 9223372036854775807) :
    Calls Try.prog 46 #[.slice A n c, .slice B m d] w (Ret (.bool (decide (ss = ts))) w) := by
  have hlen := Lib.hid h.1
  have klen := Lib.hid k.1
  by_cases hnm : n = m
  · subst hnm
    have t0 : ((n : Int) != (n : Int)) = false := by simp
    go_enter Try.func46, Try.ntmps46
    go_wp2_with fail
    go_loopw [5] (fun i wr => ∃ j : Nat, j ≤ n ∧ i = .int .i64 j ∧ Hid (∀ q (hq : q < ss.length) (hq' : q < ts.length), q < j → ss[q] = ts[q]) ∧ Below w.heap.size w wr) (fun  i _ => n - (intOf i).toNat)
    case atStart => exact ⟨0, Nat.zero_le _, rfl, fun q _ _ hq => absurd hq (Nat.not_lt_zero _), Below.refl _ _⟩
    case round =>
      obtain ⟨j, hj, rfl, hpre, hbel⟩ := hrel
      by_cases hlt : j < n
      · obtain ⟨b, off, hjl, rfl, hb, c0, c1⟩ := (h.up hbel).at_ hlt
        obtain ⟨b', off', hjk, rfl, hb', e0, e1⟩ := (k.up hbel).at_ hlt
        by_cases he : ss[j] = ts[j]
        · have Ht := Lib.hid he
          rw [he] at c0 c1
          clear he
          go_wp2_with fail
          go_quiet (fail)
          go_wp2_with fail
          go_roundw
          case rel =>
            refine ⟨j + 1, by omega, by go_num, fun q hq hq' hqj => ?_, below_drewN hbel _⟩
            rcases Nat.lt_succ_iff_lt_or_eq.1 hqj with g | rfl
            · exact hpre.out q hq hq' g
            · exact Ht.out
          case measure => simp [intOf]; omega
        · have Ht := Lib.hid he
          rcases pair_ne he with ht | ⟨ht, ht'⟩
          all_goals
            clear he
            go_wp2_with fail
            go_quiet (fail)
            go_wp2_with fail
            go_ret
            refine ⟨ret_bool ?_, below_drewN hbel _⟩
            symm
            apply decide_eq_false
            rintro rfl
            exact Ht.out rfl
      · go_wp2_with fail
        go_ret
        refine ⟨ret_bool ?_, hbel⟩
        symm
        apply decide_eq_true
        apply List.ext_getElem (by rw [hlen.out, klen.out])
        intro q hq hq'
        exact hpre.out q hq hq' (by rw [hlen.out] at hq; omega)
  · have t0 : ((n : Int) != (m : Int)) = true := by simp; omega
    go_enter Try.func46, Try.ntmps46
    go_wp2_with fail
    go_ret
    refine ⟨ret_bool ?_, Below.refl _ _⟩
    symm
    apply decide_eq_false
    rintro rfl
    exact hnm (by rw [← hlen.out, klen.out])


def prRow (ps : List PairD) : List Value := ps.flatMap fun p => (prCells p).toList
theorem prRow_append (xs ys : List PairD) : prRow (xs ++ ys) = prRow xs ++ prRow ys := by simp [prRow]
theorem prRow_one (xs : List PairD) : ∀ u ∈ prRow xs, u.oneCell' = true := by
  intro u hu
  unfold prRow at hu
  rw [List.mem_flatMap] at hu
  obtain ⟨x, _, hx⟩ := hu
  simp only [prCells, List.mem_cons, List.not_mem_nil, or_false] at hx
  rcases hx with rfl | rfl <;> rfl
theorem prRow_at (xs : List PairD) : ∀ (j : Nat) (hj : j < xs.length) (k : Nat) (v : Value), (prCells xs[j])[k]? = some v → (prRow xs)[j * 2 + k]? = some v := by
  induction xs with
  | nil => intro j hj; simp at hj
  | cons x t ih =>
    intro j hj k v hv
    have hs : (prCells x).toList.length = 2 := rfl
    have e : prRow (x :: t) = (prCells x).toList ++ prRow t := rfl
    rw [e]
    rcases j with _ | j
    · have hk : k < 2 := (Array.getElem?_eq_some_iff.1 hv).1
      rw [Nat.zero_mul, Nat.zero_add, List.getElem?_append_left (by omega)]
      simpa using hv
    · rw [List.getElem?_append_right (by omega), hs, show (j + 1) * 2 + k - 2 = j * 2 + k by omega]
      exact ih j (by simpa using hj) k v hv
theorem prs_of_own {w : World} {B n : Nat} {A : Option Addr} {c : Nat} {xs : List PairD} (h : w.ownsRow B 48 2 (.slice A n c) n (prRow xs)) (hn : xs.length = n) : Prs w A n xs := by
  subst hn
  refine ⟨rfl, fun h0 => ?_⟩
  rcases h.2 with ⟨_, h1⟩ | ⟨g, cap, cur, e, _, hg, hnc, _, hcs, htk⟩
  · omega
  · injection e with e1 e2 e3
    subst e1
    refine ⟨g, 0, rfl, (Array.getElem?_eq_some_iff.1 hg).1, fun j hj k v hk => ?_⟩
    have h2 := prRow_at xs j hj k v hk
    rw [← htk, List.getElem?_take] at h2
    split at h2
    · rw [Nat.zero_add, cell_of_row w g (j * 2 + k) cur _ _ hg]
      simpa using h2
    · cases h2
theorem pair_info : (Try.prog.info? 48).map (fun i => (i.zero, i.size, i.bytes)) = some (some (.agg (prCells Pl.zeroP)), 2, 24) := by kernel_rfl
theorem Ow.pushP {B : Nat} {W0 W : World} {L : List (Nat × Obj)} {R : List RowT} (h : Ow B W0 W L R) (T : TypeId) (hu : Try.prog.underlying T = some (.slice 48)) (i : Nat) {n : Nat} {v : Value} {xs : List PairD} (hi : R[i]? = some ⟨48, 2, v, n, prRow xs⟩) (x : PairD) (hl : n ≤ 10000) :
    ∃ A' c' W1, (Builtin.append_ #[T, T] T #[v, .slice (some ⟨W.heap.size, 0, none⟩) 1 1]).run Try.prog (W.alloc (.cells (prCells x) 48)) = .ok (.slice A' (n + 1) c') W1 ∧ n + 1 ≤ c' ∧
      Ow B W0 W1 L (R.set i ⟨48, 2, .slice A' (n + 1) c', n + 1, prRow (xs ++ [x])⟩) := by
  have := h.push (P := Try.prog) i hi T T (.agg (prCells Pl.zeroP)) 24 hu pair_info rfl (by omega) (prCells x).toList rfl (fun u hu => prRow_one [x] u (by simpa [prRow] using hu)) (by omega) (by omega)
  rw [prRow_append, show prRow [x] = (prCells x).toList by simp [prRow]]
  exact this
/-- A row of pairs that is made. -/
def PrsRet (l : List PairD) (w : World) (e : Ending) (w' : World) : Prop :=
  ∃ A c, e = .returned (.slice A l.length c) ∧ w'.ownsRow w.heap.size 48 2 (.slice A l.length c) l.length (prRow l) ∧ Below w.heap.size w w'

end Go.Proofs.Ytcoiadncennhpaa
