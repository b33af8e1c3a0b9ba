/- Contracts of package node: kid, Kid, KidBelow, Beneath. -/
import Derived.Test.YtcoiadncennhpaaNodeLaw
namespace Go.Proofs.Ytcoiadncennhpaa
open Go.RowKit

theorem heldB {W w2 : World} {g : Nat} {level next : Int} {low high : ByteArray} {last : Bool} {keys : List ByteArray} {vals kids : List Int} {A B C : Option Addr} {ca cb cc : Nat} (hbx : Boxed W g ⟨level, low, high, last, next, keys, vals, kids⟩ A B C ca cb cc) (hsz : g < W.heap.size) (hb : Below W.heap.size W w2) :
    w2.cell? ⟨g, 0, none⟩ = some (.int .i64 level) ∧ w2.cell? ⟨g, 1, none⟩ = some (.string low) ∧ w2.cell? ⟨g, 2, none⟩ = some (.string high) ∧ w2.cell? ⟨g, 3, none⟩ = some (.bool last) ∧ w2.cell? ⟨g, 4, none⟩ = some (.int .i64 next) ∧ w2.cell? ⟨g, 5, none⟩ = some (.slice A keys.length ca) ∧ w2.cell? ⟨g, 6, none⟩ = some (.slice B vals.length cb) ∧ w2.cell? ⟨g, 7, none⟩ = some (.slice C kids.length cc) ∧ Below W.heap.size W w2 := by
  obtain ⟨b0, b1, b2, b3, b4, b5, b6, b7⟩ := hbx.up hb hsz
  exact ⟨b0, b1, b2, b3, b4, b5, b6, b7, hb⟩

/-- Has the range texts right below one? -/
def benB (d : Nd) (k : ByteArray) : Bool := Pl.ls d.low.data.toList k.data.toList && (d.last || !Pl.ls d.high.data.toList k.data.toList)

theorem beneathN_any (d : Nd) (A B C : Option Addr) (ca cb cc : Nat) (k : ByteArray) (w : World) (h : Lies w d A B C ca cb cc) (hk : k.size ≤ maxLen) :
    Calls Try.prog 27 #[.agg (ndCells d A B C ca cb cc), .string k] w (Ret (.bool (benB d k)) w) := by
  obtain ⟨level, low, high, last, next, keys, vals, kids⟩ := d
  have HB := below_alloc w (.cells (ndCells ⟨level, low, high, last, next, keys, vals, kids⟩ A B C ca cb cc) 26)
  have hbx := Boxed.new w ⟨level, low, high, last, next, keys, vals, kids⟩ A B C ca cb cc 26
  have hsz : w.heap.size < (w.alloc (.cells (ndCells ⟨level, low, high, last, next, keys, vals, kids⟩ A B C ca cb cc) 26)).heap.size := by simp
  have hlow : low.size ≤ maxLen := h.low
  have hhigh : high.size ≤ maxLen := h.high
  simp only [ndCells] at HB hbx hsz ⊢
  have hi := Lib.hid (fun W => beneath_any low high last k W hlow hhigh hk)
  go_enter Try.func27, Try.ntmps27
  go_wp2_with fail
  generalize w.alloc _ = W at HB hbx hsz ⊢
  obtain ⟨b0, b1, b2, b3, b4, b5, b6, b7⟩ := id hbx
  simp only [] at b0 b1 b2 b3 b4 b5 b6 b7
  refine (hi.out _).mono ?_
  rintro e wn ⟨rfl, hbn⟩
  replace HB := below_of HB hbn
  replace hbx := hbx.up hbn hsz
  replace hsz := Nat.lt_of_lt_of_le hsz hbn.size
  clear hbn b0 b1 b2 b3 b4 b5 b6 b7
  obtain ⟨b0, b1, b2, b3, b4, b5, b6, b7⟩ := id hbx
  simp only [] at b0 b1 b2 b3 b4 b5 b6 b7
  go_wp2_with fail
  go_ret
  exact ⟨rfl, HB⟩

/-- The kid at a place. -/
def kidAt (d : Nd) (i : Int) : Int := if 0 ≤ i ∧ i < (d.kids.length : Int) then d.kids.getD i.toNat 0 else -1
def kidIs (d : Nd) (i : Int) : Bool := decide (0 ≤ i ∧ i < (d.kids.length : Int))

theorem kid_any (d : Nd) (A B C : Option Addr) (ca cb cc : Nat) (i : Int) (w : World) (h : Lies w d A B C ca cb cc) :
    Calls Try.prog 78 #[.agg (ndCells d A B C ca cb cc), .int .i64 i] w (Ret (.tuple #[.int .i64 (kidAt d i), .bool (kidIs d i)]) w) := by
  obtain ⟨level, low, high, last, next, keys, vals, kids⟩ := d
  have HB := below_alloc w (.cells (ndCells ⟨level, low, high, last, next, keys, vals, kids⟩ A B C ca cb cc) 26)
  have hbx := Boxed.new w ⟨level, low, high, last, next, keys, vals, kids⟩ A B C ca cb cc 26
  have hsz : w.heap.size < (w.alloc (.cells (ndCells ⟨level, low, high, last, next, keys, vals, kids⟩ A B C ca cb cc) 26)).heap.size := by simp
  have hlow : low.size ≤ maxLen := h.low
  have hhigh : high.size ≤ maxLen := h.high
  simp only [ndCells] at HB hbx hsz ⊢
  replace h := h.up HB
  have hkk := h.kids
  have hlc := h.lc
  simp only [] at hkk hlc
  clear h
  by_cases h0 : i < 0
  · have e : kidAt ⟨level, low, high, last, next, keys, vals, kids⟩ i = -1 ∧ kidIs ⟨level, low, high, last, next, keys, vals, kids⟩ i = false := ⟨if_neg (by omega), decide_eq_false (by omega)⟩
    rw [e.1, e.2]
    clear e
    go_enter Try.func78, Try.ntmps78
    go_wp2_with fail
    go_ret2
    exact ⟨rfl, HB⟩
  · by_cases h1 : (kids.length : Int) ≤ i
    · have e : kidAt ⟨level, low, high, last, next, keys, vals, kids⟩ i = -1 ∧ kidIs ⟨level, low, high, last, next, keys, vals, kids⟩ i = false := ⟨if_neg (by simp only []; omega), decide_eq_false (by simp only []; omega)⟩
      rw [e.1, e.2]
      clear e
      go_enter Try.func78, Try.ntmps78
      go_wp2_with fail
      generalize w.alloc _ = W at HB hbx hsz hkk ⊢
      obtain ⟨b0, b1, b2, b3, b4, b5, b6, b7⟩ := id hbx
      simp only [] at b0 b1 b2 b3 b4 b5 b6 b7
      go_wp2_with fail
      go_ret2
      exact ⟨rfl, HB⟩
    · obtain ⟨j, rfl⟩ := Int.eq_ofNat_of_zero_le (Int.not_lt.1 h0)
      have hj : j < kids.length := by omega
      have e : kidAt ⟨level, low, high, last, next, keys, vals, kids⟩ (j : Int) = kids[j] ∧ kidIs ⟨level, low, high, last, next, keys, vals, kids⟩ (j : Int) = true := by
        refine ⟨(if_pos ⟨by omega, by simp only []; omega⟩).trans ?_, decide_eq_true ⟨by omega, by simp only []; omega⟩⟩
        rw [Int.toNat_natCast]
        exact getD_at kids j 0 hj
      rw [e.1, e.2]
      clear e
      obtain ⟨b, off, rfl, hbB, hc⟩ := hkk.spot (by omega)
      have hcj := hc j hj
      clear hc
      have g1 : (j : Int) < (kids.length : Int) := by omega
      go_enter Try.func78, Try.ntmps78
      go_wp2_with fail
      generalize w.alloc _ = W at HB hbx hsz hkk hcj hbB ⊢
      obtain ⟨b0, b1, b2, b3, b4, b5, b6, b7⟩ := id hbx
      simp only [] at b0 b1 b2 b3 b4 b5 b6 b7
      go_wp2_with fail
      go_ret2
      exact ⟨rfl, HB⟩

/-- The kid for a text, and for what is right below one. -/
def overI (d : Nd) (k : ByteArray) : Int := (Pl.overAt d.keys k.data.toList : Int) - 1
def findI (d : Nd) (k : ByteArray) : Int := (Pl.findAt d.keys k.data.toList : Int) - 1

set_option maxRecDepth 100000 in
theorem kidof_any (d : Nd) (A B C : Option Addr) (ca cb cc : Nat) (k : ByteArray) (w : World) (h : Lies w d A B C ca cb cc) (hk : k.size ≤ maxLen) :
    Calls Try.prog 24 #[.agg (ndCells d A B C ca cb cc), .string k] w (Ret (.tuple #[.int .i64 (kidAt d (overI d k)), .bool (kidIs d (overI d k))]) w) := by
  obtain ⟨level, low, high, last, next, keys, vals, kids⟩ := d
  have HB := below_alloc w (.cells (ndCells ⟨level, low, high, last, next, keys, vals, kids⟩ A B C ca cb cc) 26)
  have hbx := Boxed.new w ⟨level, low, high, last, next, keys, vals, kids⟩ A B C ca cb cc 26
  have hsz : w.heap.size < (w.alloc (.cells (ndCells ⟨level, low, high, last, next, keys, vals, kids⟩ A B C ca cb cc) 26)).heap.size := by simp
  have hlow : low.size ≤ maxLen := h.low
  have hhigh : high.size ≤ maxLen := h.high
  simp only [ndCells] at HB hbx hsz ⊢
  replace h := h.up HB
  have Hfl := Lib.hid (fun (W W' : World) (hL : Lies W ⟨level, low, high, last, next, keys, vals, kids⟩ A B C ca cb cc) (hb : Below W.heap.size W W') => floor_any A keys.length ca keys k W' (hL.keys.up hb) hL.fit hk hL.la)
  have Hkd := Lib.hid (fun (W W' : World) (hL : Lies W ⟨level, low, high, last, next, keys, vals, kids⟩ A B C ca cb cc) (hb : Below W.heap.size W W') => kid_any ⟨level, low, high, last, next, keys, vals, kids⟩ A B C ca cb cc (overI ⟨level, low, high, last, next, keys, vals, kids⟩ k) W' (hL.up hb))
  go_enter Try.func24, Try.ntmps24
  go_upto_region 1 with fail
  generalize w.alloc _ = W at HB hbx hsz h ⊢
  obtain ⟨b0, b1, b2, b3, b4, b5, b6, b7⟩ := id hbx
  simp only [] at b0 b1 b2 b3 b4 b5 b6 b7
  first | go_region_held3 (fun w' => w'.cell? ⟨w.heap.size, 0, none⟩ = some (.int .i64 level) ∧ w'.cell? ⟨w.heap.size, 1, none⟩ = some (.string low) ∧ w'.cell? ⟨w.heap.size, 2, none⟩ = some (.string high) ∧ w'.cell? ⟨w.heap.size, 3, none⟩ = some (.bool last) ∧ w'.cell? ⟨w.heap.size, 4, none⟩ = some (.int .i64 next) ∧ w'.cell? ⟨w.heap.size, 5, none⟩ = some (.slice A keys.length ca) ∧ w'.cell? ⟨w.heap.size, 6, none⟩ = some (.slice B vals.length cb) ∧ w'.cell? ⟨w.heap.size, 7, none⟩ = some (.slice C kids.length cc) ∧ Below W.heap.size W w') (first | assumption | exact heldB hbx hsz (Below.drew (Below.refl _ _)) | exact heldB hbx hsz (below_of (‹_ ∧ _ ∧ _ ∧ _ ∧ _ ∧ _ ∧ _ ∧ _ ∧ Below W.heap.size W _›).2.2.2.2.2.2.2.2 hbn)) ((first | (go_at_call 79; refine (Hfl.out _ _ h (‹_ ∧ _ ∧ _ ∧ _ ∧ _ ∧ _ ∧ _ ∧ _ ∧ Below W.heap.size W _›).2.2.2.2.2.2.2.2).mono ?_; rintro e wn ⟨rfl, hbn⟩) | (go_at_call 78; refine (Hkd.out _ _ h (‹_ ∧ _ ∧ _ ∧ _ ∧ _ ∧ _ ∧ _ ∧ _ ∧ Below W.heap.size W _›).2.2.2.2.2.2.2.2).mono ?_; rintro e wn ⟨rfl, hbn⟩))) | fail
  all_goals
    go_wp2_with fail
    go_ret2
    exact ⟨rfl, below_of HB (‹_ ∧ _ ∧ _ ∧ _ ∧ _ ∧ _ ∧ _ ∧ _ ∧ Below W.heap.size W _›).2.2.2.2.2.2.2.2⟩

set_option maxRecDepth 100000 in
theorem kidbelow_any (d : Nd) (A B C : Option Addr) (ca cb cc : Nat) (k : ByteArray) (w : World) (h : Lies w d A B C ca cb cc) (hk : k.size ≤ maxLen) :
    Calls Try.prog 25 #[.agg (ndCells d A B C ca cb cc), .string k] w (Ret (.tuple #[.int .i64 (kidAt d (findI d k)), .bool (kidIs d (findI d k))]) w) := by
  obtain ⟨level, low, high, last, next, keys, vals, kids⟩ := d
  have HB := below_alloc w (.cells (ndCells ⟨level, low, high, last, next, keys, vals, kids⟩ A B C ca cb cc) 26)
  have hbx := Boxed.new w ⟨level, low, high, last, next, keys, vals, kids⟩ A B C ca cb cc 26
  have hsz : w.heap.size < (w.alloc (.cells (ndCells ⟨level, low, high, last, next, keys, vals, kids⟩ A B C ca cb cc) 26)).heap.size := by simp
  have hlow : low.size ≤ maxLen := h.low
  have hhigh : high.size ≤ maxLen := h.high
  simp only [ndCells] at HB hbx hsz ⊢
  replace h := h.up HB
  have Hfl := Lib.hid (fun (W W' : World) (hL : Lies W ⟨level, low, high, last, next, keys, vals, kids⟩ A B C ca cb cc) (hb : Below W.heap.size W W') => below_any A keys.length ca keys k W' (hL.keys.up hb) hL.fit hk hL.la)
  have Hkd := Lib.hid (fun (W W' : World) (hL : Lies W ⟨level, low, high, last, next, keys, vals, kids⟩ A B C ca cb cc) (hb : Below W.heap.size W W') => kid_any ⟨level, low, high, last, next, keys, vals, kids⟩ A B C ca cb cc (findI ⟨level, low, high, last, next, keys, vals, kids⟩ k) W' (hL.up hb))
  go_enter Try.func25, Try.ntmps25
  go_upto_region 1 with fail
  generalize w.alloc _ = W at HB hbx hsz h ⊢
  obtain ⟨b0, b1, b2, b3, b4, b5, b6, b7⟩ := id hbx
  simp only [] at b0 b1 b2 b3 b4 b5 b6 b7
  first | go_region_held3 (fun w' => w'.cell? ⟨w.heap.size, 0, none⟩ = some (.int .i64 level) ∧ w'.cell? ⟨w.heap.size, 1, none⟩ = some (.string low) ∧ w'.cell? ⟨w.heap.size, 2, none⟩ = some (.string high) ∧ w'.cell? ⟨w.heap.size, 3, none⟩ = some (.bool last) ∧ w'.cell? ⟨w.heap.size, 4, none⟩ = some (.int .i64 next) ∧ w'.cell? ⟨w.heap.size, 5, none⟩ = some (.slice A keys.length ca) ∧ w'.cell? ⟨w.heap.size, 6, none⟩ = some (.slice B vals.length cb) ∧ w'.cell? ⟨w.heap.size, 7, none⟩ = some (.slice C kids.length cc) ∧ Below W.heap.size W w') (first | assumption | exact heldB hbx hsz (Below.drew (Below.refl _ _)) | exact heldB hbx hsz (below_of (‹_ ∧ _ ∧ _ ∧ _ ∧ _ ∧ _ ∧ _ ∧ _ ∧ Below W.heap.size W _›).2.2.2.2.2.2.2.2 hbn)) ((first | (go_at_call 80; refine (Hfl.out _ _ h (‹_ ∧ _ ∧ _ ∧ _ ∧ _ ∧ _ ∧ _ ∧ _ ∧ Below W.heap.size W _›).2.2.2.2.2.2.2.2).mono ?_; rintro e wn ⟨rfl, hbn⟩) | (go_at_call 78; refine (Hkd.out _ _ h (‹_ ∧ _ ∧ _ ∧ _ ∧ _ ∧ _ ∧ _ ∧ _ ∧ Below W.heap.size W _›).2.2.2.2.2.2.2.2).mono ?_; rintro e wn ⟨rfl, hbn⟩))) | fail
  all_goals
    go_wp2_with fail
    go_ret2
    exact ⟨rfl, below_of HB (‹_ ∧ _ ∧ _ ∧ _ ∧ _ ∧ _ ∧ _ ∧ _ ∧ Below W.heap.size W _›).2.2.2.2.2.2.2.2⟩


end Go.Proofs.Ytcoiadncennhpaa
