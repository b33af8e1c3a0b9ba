/- What is read as an answer: plain. -/
import Derived.Test.YthbafbgnclpbpaaZAns4
import Derived.Test.YthbafbgnclpbpaaZFine
import Derived.Test.YthbafbgnclpbpaaSipA
namespace Go.Proofs.Ythbafbgnclpbpaa
open Go.RowKit

/-- What is read of a pair, of pairs. -/
def prRd (l : List Nat) (f : Int) : PairD × List Nat × Int :=
  (⟨(eyeTxt 64 l f).1, (eyeUp 18446744073709551615 (eyeTxt 64 l f).2.1 (eyeTxt 64 l f).2.2).1⟩, (eyeUp 18446744073709551615 (eyeTxt 64 l f).2.1 (eyeTxt 64 l f).2.2).2)
def prsRd : Nat → List Nat → Int → List PairD × List Nat × Int
  | 0, l, f => ([], l, f)
  | n + 1, l, f => if f = 0 then ((prRd l f).1 :: (prsRd n (prRd l f).2.1 (prRd l f).2.2).1, (prsRd n (prRd l f).2.1 (prRd l f).2.2).2) else ([], l, f)
def ansZ : AnsD := ⟨0, ⟨#[]⟩, 0, []⟩
/-- What stands when all was read; b: the pairs. -/
def ansFin (r : AnsD × List Nat × Int) : Bool × AnsD × List Nat × Int :=
  if r.2.2 = 0 then (if r.1.code = 0 then (false, ansZ, [], 10) else (true, r.1, r.2.1, 0)) else (false, ansZ, r.2.1, r.2.2)
def ansRaw4 (c : Nat) (k : ByteArray) (v : Nat) (r : List PairD × List Nat × Int) : AnsD × List Nat × Int := (⟨c, k, v, r.1⟩, r.2)
def ansRaw3 (c : Nat) (k : ByteArray) (v : Nat) (r : Nat × List Nat × Int) : AnsD × List Nat × Int := ansRaw4 c k v (prsRd r.1 r.2.1 r.2.2)
def ansRaw2 (c : Nat) (k : ByteArray) (r : Nat × List Nat × Int) : AnsD × List Nat × Int := ansRaw3 c k r.1 (eyeUp 4096 r.2.1 r.2.2)
def ansRaw1 (c : Nat) (r : ByteArray × List Nat × Int) : AnsD × List Nat × Int := ansRaw2 c r.1 (eyeUp 18446744073709551615 r.2.1 r.2.2)
def ansRaw0 (r : Nat × List Nat × Int) : AnsD × List Nat × Int := ansRaw1 r.1 (eyeTxt 64 r.2.1 r.2.2)
/-- What is read as an answer: whether it is one, it, what is left, the fault. -/
def ansRd (l : List Nat) (f : Int) : Bool × AnsD × List Nat × Int := ansFin (ansRaw0 (eyeUp 6 l f))

theorem ansFin_fault {a : AnsD} {l : List Nat} {f : Int} (h : f ≠ 0) : ansFin (a, l, f) = (false, ansZ, l, f) := if_neg h
theorem ansFin_bad {a : AnsD} {l : List Nat} (h : a.code = 0) : ansFin (a, l, 0) = (false, ansZ, [], 10) := (if_pos rfl).trans (if_pos h)
theorem ansFin_good {a : AnsD} {l : List Nat} (h : a.code ≠ 0) : ansFin (a, l, 0) = (true, a, l, 0) := (if_pos rfl).trans (if_neg h)

theorem eyeTxt_upto {s : ByteArray} {top : Int} (h : s.size ≤ 100000) (ht : (s.size : Int) ≤ top) (r : List Nat) : eyeTxt top (dig s.size ++ tb s ++ r) 0 = (s, r, 0) := by
  have e : eyeUp top.toNat (dig s.size ++ tb s ++ r) 0 = (s.size, tb s ++ r, 0) := by
    rw [List.append_assoc]
    exact eyeUp_dig (by omega) (by omega) _
  have h1 : (tb s).length = s.size := tb_length s
  unfold eyeTxt
  rw [e, if_neg (by omega), if_neg (by simp only [List.length_append]; omega)]
  simp only []
  rw [← h1, List.take_left, List.drop_left, bstr_tb]
theorem prRd_bytes {p : PairD} (hk : p.key.size ≤ 64) (hv : p.val < 18446744073709551616) (r : List Nat) : prRd (prBytes p ++ r) 0 = (p, r, 0) := by
  unfold prRd prBytes
  rw [List.append_assoc (dig p.key.size ++ tb p.key), eyeTxt_upto (by omega) (by omega)]
  simp only []
  rw [eyeUp_dig hv (by omega)]
theorem prsRd_bytes : ∀ (ps : List PairD) (r : List Nat), (∀ p ∈ ps, p.key.size ≤ 64 ∧ p.val < 18446744073709551616) → prsRd ps.length (ps.flatMap prBytes ++ r) 0 = (ps, r, 0) := by
  intro ps
  induction ps with
  | nil => intro r _; rfl
  | cons p ps ih =>
    intro r h
    have hp := h p (by simp)
    rw [List.flatMap_cons, List.append_assoc, List.length_cons]
    show (if (0 : Int) = 0 then _ else _) = _
    rw [if_pos rfl, prRd_bytes hp.1 hp.2]
    simp only []
    rw [ih r (fun q hq => h q (by simp [hq]))]
theorem ansRd_good {a : AnsD} (h : sndA a = true) (ha : AnsOk a) (R : List Nat) : ansRd (ansBytes a ++ R) 0 = (true, a, R, 0) := by
  have hs : 1 ≤ a.code ∧ a.code ≤ 6 ∧ a.key.size ≤ 64 ∧ a.pairs.length ≤ 4096 ∧ ∀ p ∈ a.pairs, p.key.size ≤ 64 := of_decide_eq_true h
  unfold ansBytes
  rw [if_pos h]
  unfold ansHead
  have hv := ha.val
  have hps := ha.pairs
  clear h ha
  obtain ⟨code, key, val, pairs⟩ := a
  simp only [] at hs hv hps ⊢
  obtain ⟨cn, rfl⟩ := Int.eq_ofNat_of_zero_le (show 0 ≤ code by omega)
  rw [Int.toNat_natCast]
  have e : dig cn ++ ((dig key.size ++ tb key) ++ (dig val ++ dig pairs.length)) ++ pairs.flatMap prBytes ++ R = dig cn ++ (dig key.size ++ tb key ++ (dig val ++ (dig pairs.length ++ (pairs.flatMap prBytes ++ R)))) := by simp [List.append_assoc]
  rw [e]
  unfold ansRd
  rw [eyeUp_dig (by omega) (by omega)]
  show ansFin (ansRaw1 cn (eyeTxt 64 (dig key.size ++ tb key ++ (dig val ++ (dig pairs.length ++ (pairs.flatMap prBytes ++ R)))) 0)) = _
  rw [eyeTxt_upto (by omega) (by omega)]
  show ansFin (ansRaw2 cn key (eyeUp 18446744073709551615 (dig val ++ (dig pairs.length ++ (pairs.flatMap prBytes ++ R))) 0)) = _
  rw [eyeUp_dig hv (by omega)]
  show ansFin (ansRaw3 cn key val (eyeUp 4096 (dig pairs.length ++ (pairs.flatMap prBytes ++ R)) 0)) = _
  rw [eyeUp_dig (by omega) (by omega)]
  show ansFin (ansRaw4 cn key val (prsRd pairs.length (pairs.flatMap prBytes ++ R) 0)) = _
  rw [prsRd_bytes _ _ (fun p hp => ⟨hs.2.2.2.2 p hp, (hps p hp).2⟩)]
  exact ansFin_good (by simp only []; omega)
/-- Of a zero alone nothing is read. -/
theorem ansRd_zero : (ansRd [0] 0).1 = false := by decide +kernel
theorem ansRd_bad {a : AnsD} (h : sndA a = false) : (ansRd (ansBytes a) 0).1 = false := by
  have e : ansBytes a = [0] := by
    unfold ansBytes
    rw [if_neg (by rw [h]; exact Bool.false_ne_true)]
  rw [e]
  exact ansRd_zero

/-- A row of pairs as cells. -/
def prRow (ps : List PairD) : List Value := ps.flatMap fun p => [.string p.key, .int .u64 (p.val : Int)]
theorem prRow_length (ps : List PairD) : (prRow ps).length = ps.length * 2 := by
  unfold prRow
  induction ps with
  | nil => rfl
  | cons p ps ih => rw [List.flatMap_cons, List.length_append, ih, List.length_cons]; simp; omega
theorem prRow_append (ps qs : List PairD) : prRow (ps ++ qs) = prRow ps ++ prRow qs := by unfold prRow; rw [List.flatMap_append]
theorem prRow_one (ps : List PairD) : ∀ u ∈ prRow ps, u.oneCell' = true := by
  intro u hu
  unfold prRow at hu
  rw [List.mem_flatMap] at hu
  obtain ⟨p, _, hu⟩ := hu
  simp at hu
  rcases hu with rfl | rfl <;> rfl
theorem prRow_at (ps : List PairD) (j : Nat) (hj : j < ps.length) (k : Nat) (v : Value) (h : (prCells ps[j])[k]? = some v) : (prRow ps)[j * 2 + k]? = some v := by
  unfold prRow
  induction ps generalizing j with
  | nil => simp at hj
  | cons p ps ih =>
    rw [List.flatMap_cons]
    match j, hj with
    | 0, _ =>
      match k, h with
      | 0, h => simpa [prCells] using h
      | 1, h => simpa [prCells] using h
      | k + 2, h => simp [prCells] at h
    | j + 1, hj =>
      rw [List.getElem?_append_right (by simp; omega)]
      have := ih j (by simpa using hj) (by simpa using h)
      rw [show (j + 1) * 2 + k - [Value.string p.key, Value.int .u64 (p.val : Int)].length = j * 2 + k from by simp; omega]
      exact this
theorem prs_of_own {w : World} {B : Nat} {A : Option Addr} {c : Nat} {ps : List PairD} (h : w.ownsRow B 32 2 (.slice A ps.length c) ps.length (prRow ps)) : Prs w A ps.length ps := by
  refine ⟨rfl, fun h0 => ?_⟩
  rcases h.2 with ⟨_, h1⟩ | ⟨g, cap, cur, e, _, hg, hnc, _, hcs, htk⟩
  · omega
  · injection e with e1 e2 e3
    subst e1
    refine ⟨g, 0, rfl, (Array.getElem?_eq_some_iff.1 hg).1, fun j hj k v hk => ?_⟩
    have h2 := prRow_at ps j hj k v hk
    rw [← htk, List.getElem?_take] at h2
    split at h2
    · rw [Nat.zero_add, cell_of_row w g (j * 2 + k) cur _ _ hg]
      simpa using h2
    · cases h2
theorem pair_info : (Try.prog.info? 32).map (fun i => (i.zero, i.size, i.bytes)) = some (some (.agg #[.string ⟨#[]⟩, .int .u64 0]), 2, 24) := by kernel_rfl
theorem pair_push {B : Nat} {w : World} {A : Option Addr} {c : Nat} {ps : List PairD} (p : PairD) (ho : w.ownsRow B 32 2 (.slice A ps.length c) ps.length (prRow ps)) (hB : B ≤ w.heap.size) (hl : ps.length ≤ 10000) (ty : TypeId) :
    ∃ A' c' w1, (Builtin.append_ #[23, 23] ty #[.slice A ps.length c, .slice (some ⟨w.heap.size, 0, none⟩) 1 1]).run Try.prog (w.alloc (.cells #[.string p.key, .int .u64 (p.val : Int)] 32)) = .ok (.slice A' (ps.length + 1) c') w1 ∧
      w1.ownsRow B 32 2 (.slice A' (ps ++ [p]).length c') (ps ++ [p]).length (prRow (ps ++ [p])) ∧ (w.alloc (.cells #[.string p.key, .int .u64 (p.val : Int)] 32)).grownBy w1 (Value.slice A ps.length c).ownBlock ∧
      ((Value.slice A' (ps ++ [p]).length c').ownBlock = (Value.slice A ps.length c).ownBlock ∨ (Value.slice A' (ps ++ [p]).length c').ownBlock = some (w.heap.size + 1)) := by
  obtain ⟨i, hi, hz, hs, hb⟩ := info_parts pair_info
  have hsz : (w.alloc (.cells #[.string p.key, .int .u64 (p.val : Int)] 32)).heap.size = w.heap.size + 1 := by simp
  obtain ⟨v', w1, hrun, h2, h3, _, h5⟩ := run_append_own_at (P := Try.prog) (w.alloc (.cells #[.string p.key, .int .u64 (p.val : Int)] 32)) B 23 ty 32 i (.agg #[.string ⟨#[]⟩, .int .u64 0]) 2 24 Try.underlying23 hi hz hs hb rfl (by omega) (.slice A ps.length c) ps.length (prRow ps)
    (owns_off ho (Off.of_below (below_alloc w _) (fun _ => False)) (fun _ _ q => q)) ⟨w.heap.size, 0, none⟩ 1 1 [.string p.key, .int .u64 (p.val : Int)] rfl (fun j u hu => by rw [Addr.add_lit, Nat.zero_add]; exact new_cell w _ _ j u (by simpa using hu)) (prRow_one [p]) (by unfold maxLen; omega) (by omega) (by omega)
  have h2' : w1.ownsRow B 32 2 v' (ps ++ [p]).length (prRow (ps ++ [p])) := by rw [prRow_append, List.length_append]; exact h2
  have hv : ∃ A' c', v' = .slice A' (ps ++ [p]).length c' := by
    rcases h2'.2 with ⟨rfl, hn⟩ | ⟨g, cap, cur, rfl, _⟩
    · rw [hn]; exact ⟨none, 0, rfl⟩
    · exact ⟨_, cap, rfl⟩
  obtain ⟨A', c', rfl⟩ := hv
  rw [hsz] at h5
  exact ⟨A', c', w1, by rw [List.length_append] at hrun; exact hrun, h2', h3, h5⟩

end Go.Proofs.Ythbafbgnclpbpaa
