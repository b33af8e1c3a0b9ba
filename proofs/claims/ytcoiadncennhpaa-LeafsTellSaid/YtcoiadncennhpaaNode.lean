/- Nodes as data; contracts of package node and of its reference: part one. -/
import Derived.Test.YtcoiadncennhpaaRef04
import Derived.Test.YtcoiadncennhpaaClone
namespace Go.Proofs.Ytcoiadncennhpaa
open Go.RowKit

/-- A node as data. -/
structure Nd where
  level : Int
  low : ByteArray
  high : ByteArray
  last : Bool
  next : Int
  keys : List ByteArray
  vals : List Int
  kids : List Int

/-- A node's cells. -/
def ndCells (d : Nd) (A B C : Option Addr) (ca cb cc : Nat) : Array Value :=
  #[.int .i64 d.level, .string d.low, .string d.high, .bool d.last, .int .i64 d.next, .slice A d.keys.length ca, .slice B d.vals.length cb, .slice C d.kids.length cc]

/-- What a walk is told of a node that comes in: where its rows lie. -/
structure Lies (w : World) (d : Nd) (A B C : Option Addr) (ca cb cc : Nat) : Prop where
  keys : RdS w A d.keys.length d.keys
  vals : RdU w B d.vals.length d.vals
  kids : RdI w C d.kids.length d.kids
  ka : d.keys.length ≤ ca
  kb : d.vals.length ≤ cb
  kc : d.kids.length ≤ cc
  la : d.keys.length ≤ 9223372036854775807
  lb : d.vals.length ≤ 9223372036854775807
  lc : d.kids.length ≤ 9223372036854775807
  low : d.low.size ≤ maxLen
  high : d.high.size ≤ maxLen
  fit : Fits d.keys
theorem Lies.up {w w' : World} {d : Nd} {A B C : Option Addr} {ca cb cc : Nat} (h : Lies w d A B C ca cb cc) (hb : Below w.heap.size w w') : Lies w' d A B C ca cb cc :=
  { h with keys := h.keys.up hb, vals := h.vals.up hb, kids := h.kids.up hb }

/-- A node in a variable. -/
def Boxed (w : World) (g : Nat) (d : Nd) (A B C : Option Addr) (ca cb cc : Nat) : Prop :=
  w.cell? ⟨g, 0, none⟩ = some (.int .i64 d.level) ∧ w.cell? ⟨g, 1, none⟩ = some (.string d.low) ∧ w.cell? ⟨g, 2, none⟩ = some (.string d.high) ∧ w.cell? ⟨g, 3, none⟩ = some (.bool d.last) ∧ w.cell? ⟨g, 4, none⟩ = some (.int .i64 d.next) ∧
  w.cell? ⟨g, 5, none⟩ = some (.slice A d.keys.length ca) ∧ w.cell? ⟨g, 6, none⟩ = some (.slice B d.vals.length cb) ∧ w.cell? ⟨g, 7, none⟩ = some (.slice C d.kids.length cc)

theorem Boxed.new (w : World) (d : Nd) (A B C : Option Addr) (ca cb cc : Nat) (T : TypeId) : Boxed (w.alloc (.cells (ndCells d A B C ca cb cc) T)) w.heap.size d A B C ca cb cc :=
  ⟨new_cell w _ T 0 _ rfl, new_cell w _ T 1 _ rfl, new_cell w _ T 2 _ rfl, new_cell w _ T 3 _ rfl, new_cell w _ T 4 _ rfl, new_cell w _ T 5 _ rfl, new_cell w _ T 6 _ rfl, new_cell w _ T 7 _ rfl⟩
theorem Boxed.up {w w' : World} {g B0 : Nat} {d : Nd} {A B C : Option Addr} {ca cb cc : Nat} (h : Boxed w g d A B C ca cb cc) (hb : Below B0 w w') (hg : g < B0) : Boxed w' g d A B C ca cb cc := by
  obtain ⟨h0, h1, h2, h3, h4, h5, h6, h7⟩ := h
  have k := fun (i : Nat) => hb.cell (p := ⟨g, i, none⟩) hg
  exact ⟨(k 0).trans h0, (k 1).trans h1, (k 2).trans h2, (k 3).trans h3, (k 4).trans h4, (k 5).trans h5, (k 6).trans h6, (k 7).trans h7⟩

/-- Is a node small? -/
def lightN (d : Nd) : Bool := d.keys.all (fun s => decide (s.size ≤ 100)) && (decide (d.keys.length ≤ 80) && (decide (d.vals.length ≤ 80) && (decide (d.kids.length ≤ 80) && (decide (d.low.size ≤ 100) && decide (d.high.size ≤ 100)))))
theorem lightN_spec {d : Nd} (h : lightN d = true) : (∀ (j : Nat) (hj : j < d.keys.length), d.keys[j].size ≤ 100) ∧ d.keys.length ≤ 80 ∧ d.vals.length ≤ 80 ∧ d.kids.length ≤ 80 ∧ d.low.size ≤ 100 ∧ d.high.size ≤ 100 := by
  unfold lightN at h
  simp only [Bool.and_eq_true, List.all_eq_true, decide_eq_true_iff] at h
  exact ⟨fun j hj => h.1 _ (List.getElem_mem hj), h.2⟩

set_option maxHeartbeats 400000 in
theorem lightN_any (d : Nd) (A B C : Option Addr) (ca cb cc : Nat) (w : World) (h : Lies w d A B C ca cb cc) :
    Calls Try.prog 15 #[.agg (ndCells d A B C ca cb cc)] w (Ret (.bool (lightN d)) w) := by
  have hb := below_alloc w (.cells (ndCells d A B C ca cb cc) 26)
  have hbx := Boxed.new w d A B C ca cb cc 26
  have hk := h.keys.up hb
  have hfit := h.fit
  have hla := h.la
  have hlb := h.lb
  have hlc := h.lc
  have hlow : d.low.size ≤ 9223372036854775807 := h.low
  have hhigh : d.high.size ≤ 9223372036854775807 := h.high
  clear h
  simp only [ndCells] at hb hbx hk ⊢
  go_enter Try.func15, Try.ntmps15
  go_wp2_with fail
  generalize w.alloc _ = W at hb hbx hk ⊢
  obtain ⟨b0, b1, b2, b3, b4, b5, b6, b7⟩ := hbx
  go_loop [4, 8] (fun _ i => ∃ k : Nat, k ≤ d.keys.length ∧ i = .int .i64 k ∧ Hid (∀ (j : Nat) (hj : j < d.keys.length), j < k → d.keys[j].size ≤ 100)) (fun _ i => d.keys.length - (intOf i).toNat)
  case atStart => exact ⟨0, Nat.zero_le _, rfl, fun j _ hj => absurd hj (Nat.not_lt_zero _)⟩
  case round =>
    obtain ⟨j, hj, rfl, hpre⟩ := hrel
    by_cases hlt : j < d.keys.length
    · obtain ⟨b, off, rfl, hbB, hc⟩ := hk.spot (by omega)
      have hcj := hc j hlt
      have hmj : d.keys[j].size ≤ 9223372036854775807 := hfit j hlt
      clear hc
      by_cases hs : d.keys[j].size ≤ 100
      · go_wp2_with fail
        go_round
        case rel =>
          refine ⟨j + 1, by omega, by go_num, fun q hq hqj => ?_⟩
          rcases Nat.lt_succ_iff_lt_or_eq.1 hqj with g | rfl
          · exact hpre.out q hq g
          · exact hs
        case measure => simp [intOf]; omega
      · go_wp2_with fail
        go_ret
        refine ⟨ret_bool ?_, hb⟩
        symm
        rw [Bool.eq_false_iff]
        intro hh
        exact hs ((lightN_spec hh).1 j hlt)
    · have hall : (d.keys.all fun s => decide (s.size ≤ 100)) = true := by
        rw [List.all_eq_true]
        intro s hs
        obtain ⟨q, hq, rfl⟩ := List.getElem_of_mem hs
        exact decide_eq_true (hpre.out q hq (by omega))
      have hlight : lightN d = (decide (d.keys.length ≤ 80) && (decide (d.vals.length ≤ 80) && (decide (d.kids.length ≤ 80) && (decide (d.low.size ≤ 100) && decide (d.high.size ≤ 100))))) := by
        unfold lightN; rw [hall, Bool.true_and]
      have Hlight := Lib.hid hlight
      clear hall hlight
      rcases (show ¬ d.keys.length ≤ 80 ∨ (d.keys.length ≤ 80 ∧ ¬ d.vals.length ≤ 80) ∨ (d.keys.length ≤ 80 ∧ d.vals.length ≤ 80 ∧ ¬ d.kids.length ≤ 80) ∨ (d.keys.length ≤ 80 ∧ d.vals.length ≤ 80 ∧ d.kids.length ≤ 80 ∧ ¬ d.low.size ≤ 100) ∨ (d.keys.length ≤ 80 ∧ d.vals.length ≤ 80 ∧ d.kids.length ≤ 80 ∧ d.low.size ≤ 100) from by omega) with c1 | ⟨c1, c2⟩ | ⟨c1, c2, c3⟩ | ⟨c1, c2, c3, c4⟩ | ⟨c1, c2, c3, c4⟩
      all_goals
        go_wp2_with fail
        go_ret
        refine ⟨ret_bool ?_, hb⟩
        rw [Hlight.out]
        simp [*]
        try omega
end Go.Proofs.Ytcoiadncennhpaa
