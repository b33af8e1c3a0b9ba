/- The law SipNobody: the walk. -/
import Derived.Test.YthbafbgnclpbpaaSip2
namespace Go.Proofs.Ythbafbgnclpbpaa
open Go.RowKit

theorem eye_new (w : World) : EyeAt (w.alloc (.cells #[.slice none 0 0, .int .i64 0] 55)) w.heap.size none [] 0 := ⟨by simp, none, 0, heap_alloc_new w _, Nat.le_refl _, fun h => absurd h (Nat.lt_irrefl 0)⟩

/-- A call that hands something back, and turns nothing. -/
def Some_ (w : World) (e : Ending) (w' : World) : Prop := ∃ v, e = .returned v ∧ Below w.heap.size w w'

set_option maxHeartbeats 400000 in
theorem penint_nil (z : Int) (g c : Nat) (w : World) (hc0 : w.cell? ⟨g, 0, none⟩ = some (.int .i64 z)) (hg : g < w.heap.size) : Calls Try.prog 74 #[.pointer none, .slice (some ⟨g, 0, none⟩) 1 c] w fun e w' => e = .returned (.tuple #[]) ∧ Below w.heap.size w w' := by
  go_enter Try.func74, Try.ntmps74
  go_wp2_with fail
  go_loopw [5, 6, 9] (fun _ _ i wr => (i = .int .i64 0 ∨ i = .int .i64 1) ∧ Below w.heap.size w wr) (fun _ _ i _ => 1 - (intOf i).toNat)
  case atStart => exact ⟨.inl rfl, Below.refl _ _⟩
  case round =>
    obtain ⟨rfl | rfl, hbel⟩ := hrel
    · have hc := (hbel.cell (p := ⟨g, 0, none⟩) hg).trans hc0
      by_cases hz : z < 0
      · go_wp2_with fail
        refine (pennum_nil _ _ _ _).mono ?_
        rintro e w2 ⟨rfl, rfl⟩
        go_wp2_with fail
        go_roundw
        case rel => exact ⟨.inr rfl, hbel.trans ((below_alloc _ _).mono hbel.size)⟩
        case measure => simp [intOf]
      · go_wp2_with fail
        refine (pennum_nil _ _ _ _).mono ?_
        rintro e w2 ⟨rfl, rfl⟩
        go_wp2_with fail
        go_roundw
        case rel => exact ⟨.inr rfl, hbel.trans ((below_alloc _ _).mono hbel.size)⟩
        case measure => simp [intOf]
    · go_wp2_with fail
      go_end0
      exact ⟨rfl, hbel⟩

set_option maxHeartbeats 400000 in
theorem pentruth_nil (x : Bool) (g c : Nat) (w : World) (hc0 : w.cell? ⟨g, 0, none⟩ = some (.bool x)) (hg : g < w.heap.size) : Calls Try.prog 77 #[.pointer none, .slice (some ⟨g, 0, none⟩) 1 c] w fun e w' => e = .returned (.tuple #[]) ∧ Below w.heap.size w w' := by
  go_enter Try.func77, Try.ntmps77
  go_wp2_with fail
  go_loopw [5, 6, 9] (fun _ _ i wr => (i = .int .i64 0 ∨ i = .int .i64 1) ∧ Below w.heap.size w wr) (fun _ _ i _ => 1 - (intOf i).toNat)
  case atStart => exact ⟨.inl rfl, Below.refl _ _⟩
  case round =>
    obtain ⟨rfl | rfl, hbel⟩ := hrel
    · have hc := (hbel.cell (p := ⟨g, 0, none⟩) hg).trans hc0
      cases x
      · go_wp2_with fail
        refine (pennum_nil _ _ _ _).mono ?_
        rintro e w2 ⟨rfl, rfl⟩
        go_wp2_with fail
        go_roundw
        case rel => exact ⟨.inr rfl, hbel.trans ((below_alloc _ _).mono hbel.size)⟩
        case measure => simp [intOf]
      · go_wp2_with fail
        refine (pennum_nil _ _ _ _).mono ?_
        rintro e w2 ⟨rfl, rfl⟩
        go_wp2_with fail
        go_roundw
        case rel => exact ⟨.inr rfl, hbel.trans ((below_alloc _ _).mono hbel.size)⟩
        case measure => simp [intOf]
    · go_wp2_with fail
      go_end0
      exact ⟨rfl, hbel⟩

set_option maxRecDepth 100000 in
set_option maxHeartbeats 2000000 in
theorem write_nil (x : It) (w : World) (hx : ItOk x) (ht : x.text.size ≤ 1000) :
    Calls Try.prog 26 #[.pointer none, .agg (itCells x)] w (Some_ w) := by
  obtain ⟨kind, num, int, text, most⟩ := x
  have hb := below_alloc w (.cells (itCells ⟨kind, num, int, text, most⟩) 42)
  have c0 : (w.alloc (.cells (itCells ⟨kind, num, int, text, most⟩) 42)).cell? ⟨w.heap.size, 0, none⟩ = some (.int .i64 kind) := new_cell w _ _ 0 _ rfl
  have c1 : (w.alloc (.cells (itCells ⟨kind, num, int, text, most⟩) 42)).cell? ⟨w.heap.size, 1, none⟩ = some (.int .u64 (num : Int)) := new_cell w _ _ 1 _ rfl
  have c2 : (w.alloc (.cells (itCells ⟨kind, num, int, text, most⟩) 42)).cell? ⟨w.heap.size, 2, none⟩ = some (.int .i64 int) := new_cell w _ _ 2 _ rfl
  have c3 : (w.alloc (.cells (itCells ⟨kind, num, int, text, most⟩) 42)).cell? ⟨w.heap.size, 3, none⟩ = some (.string text) := new_cell w _ _ 3 _ rfl
  have hs : (w.alloc (.cells (itCells ⟨kind, num, int, text, most⟩) 42)).heap.size = w.heap.size + 1 := by simp
  have hz : w.heap.size < (w.alloc (.cells (itCells ⟨kind, num, int, text, most⟩) 42)).heap.size := by simp
  have H := Lib.hid (And.intro hx hb)
  simp only [] at H ht
  clear hx hb
  simp only [itCells] at c0 c1 c2 c3 H hz hs ⊢
  have HS := Lib.hid hs
  clear hs
  by_cases k1 : kind = 1
  · subst k1
    go_enter Try.func26, Try.ntmps26
    go_wp2_with fail
    generalize w.alloc _ = W at H hz HS c0 c1 c2 c3 ⊢
    rw [← HS.out]
    refine (penint_nil int W.heap.size 1 _ (new_cell W _ _ 0 _ rfl) (by simp)).mono ?_
    rintro e w2 ⟨rfl, hb2'⟩
    have hb2 := below_of (below_alloc W _) hb2'
    have d1 := (hb2.cell (p := ⟨w.heap.size, 1, none⟩) hz).trans c1
    have d2 := (hb2.cell (p := ⟨w.heap.size, 2, none⟩) hz).trans c2
    have d3 := (hb2.cell (p := ⟨w.heap.size, 3, none⟩) hz).trans c3
    have HB := Lib.hid hb2
    clear hb2 hb2' c0 c1 c2 c3
    go_wp2_with fail
    refine (refturn_any int _ H.out.1.int).mono ?_
    rintro e w3 ⟨rfl, rfl⟩
    go_wp2_with fail
    refine (refnum_any (turn int) _ (turn_lt H.out.1.int)).mono ?_
    rintro e w3 ⟨A, c, rfl, _, hb3⟩
    have HO := Lib.hid (below_of H.out.2 (below_of HB.out hb3))
    clear hb3
    go_wp2_with fail
    go_ret
    exact ⟨_, rfl, HO.out⟩
  · have k1b : (kind == (1 : Int)) = false := by simp [k1]
    by_cases k2 : kind = 2
    · subst k2
      have t1 : IntKind.u64.wrap ((num : Int) % 2) = (num : Int) % 2 := by rw [IntKind.wrap_u64]; omega
      have t2 : IntKind.u8.wrap ((num : Int) % 2) = ((num % 2 : Nat) : Int) := by rw [IntKind.wrap_u8]; omega
      clear k1b k1
      go_enter Try.func26, Try.ntmps26
      go_wp2_with fail
      generalize w.alloc _ = W at H hz HS c0 c1 c2 c3 ⊢
      rw [← HS.out]
      refine (pentruth_nil ((num : Int) % 2 == 1) W.heap.size 1 _ (new_cell W _ _ 0 _ rfl) (by simp)).mono ?_
      rintro e w2 ⟨rfl, hb2'⟩
      have hb2 := below_of (below_alloc W _) hb2'
      have d1 := (hb2.cell (p := ⟨w.heap.size, 1, none⟩) hz).trans c1
      have d2 := (hb2.cell (p := ⟨w.heap.size, 2, none⟩) hz).trans c2
      have d3 := (hb2.cell (p := ⟨w.heap.size, 3, none⟩) hz).trans c3
      have HB := Lib.hid hb2
      clear hb2 hb2' c0 c1 c2 c3
      go_wp2_with fail
      go_ret
      exact ⟨_, rfl, below_of H.out.2 (below_of HB.out (below_alloc _ _))⟩
    · have k2b : (kind == (2 : Int)) = false := by simp [k2]
      by_cases k3 : kind = 3
      · subst k3
        clear k1b k1 k2 k2b
        go_enter Try.func26, Try.ntmps26
        go_wp2_with fail
        generalize w.alloc _ = W at H hz HS c0 c1 c2 c3 ⊢
        refine (pentext_nil text (by omega) _).mono ?_
        rintro e w2 ⟨rfl, hb2⟩
        have d1 := (hb2.cell (p := ⟨w.heap.size, 1, none⟩) hz).trans c1
        have d2 := (hb2.cell (p := ⟨w.heap.size, 2, none⟩) hz).trans c2
        have d3 := (hb2.cell (p := ⟨w.heap.size, 3, none⟩) hz).trans c3
        have HB := Lib.hid hb2
        clear hb2 c0 c1 c2 c3
        go_wp2_with fail
        refine (reftext_any text _ (by omega)).mono ?_
        rintro e w3 ⟨A, c, rfl, _, hb3⟩
        have HO := Lib.hid (below_of H.out.2 (below_of HB.out hb3))
        clear hb3
        go_wp2_with fail
        go_ret
        exact ⟨_, rfl, HO.out⟩
      · have k3b : (kind == (3 : Int)) = false := by simp [k3]
        clear k1 k2 k3
        go_enter Try.func26, Try.ntmps26
        go_wp2_with fail
        generalize w.alloc _ = W at H hz HS c0 c1 c2 c3 ⊢
        rw [← HS.out]
        refine (pennum_nil _ _ _ _).mono ?_
        rintro e w2' ⟨rfl, rfl⟩
        have hb2 := below_alloc W (.cells #[.int .u64 (num : Int)] 22)
        generalize W.alloc _ = w2 at hb2 ⊢
        have d1 := (hb2.cell (p := ⟨w.heap.size, 1, none⟩) hz).trans c1
        have HB := Lib.hid hb2
        clear hb2 c0 c1 c2 c3
        go_wp2_with fail
        refine (refnum_any num _ H.out.1.num).mono ?_
        rintro e w3 ⟨A, c, rfl, _, hb3⟩
        have HO := Lib.hid (below_of H.out.2 (below_of HB.out hb3))
        clear hb3
        go_wp2_with fail
        go_ret
        exact ⟨_, rfl, HO.out⟩

theorem eyeUp_none (top : Nat) : eyeUp top [] 0 = (0, [], 11) := by
  unfold eyeUp eyeDig
  simp [scan]

set_option maxRecDepth 100000 in
set_option maxHeartbeats 4000000 in
theorem sipnobody_any (x : It) (w : World) (hx : ItOk x) :
    Calls Try.prog 7 #[.agg (itCells x)] w (Ret (.bool true) w) := by
  obtain ⟨kind, num, int, text, most⟩ := x
  have hb := below_alloc w (.cells (itCells ⟨kind, num, int, text, most⟩) 42)
  have c0 : (w.alloc (.cells (itCells ⟨kind, num, int, text, most⟩) 42)).cell? ⟨w.heap.size, 0, none⟩ = some (.int .i64 kind) := new_cell w _ _ 0 _ rfl
  have c1 : (w.alloc (.cells (itCells ⟨kind, num, int, text, most⟩) 42)).cell? ⟨w.heap.size, 1, none⟩ = some (.int .u64 (num : Int)) := new_cell w _ _ 1 _ rfl
  have c2 : (w.alloc (.cells (itCells ⟨kind, num, int, text, most⟩) 42)).cell? ⟨w.heap.size, 2, none⟩ = some (.int .i64 int) := new_cell w _ _ 2 _ rfl
  have c3 : (w.alloc (.cells (itCells ⟨kind, num, int, text, most⟩) 42)).cell? ⟨w.heap.size, 3, none⟩ = some (.string text) := new_cell w _ _ 3 _ rfl
  have c4 : (w.alloc (.cells (itCells ⟨kind, num, int, text, most⟩) 42)).cell? ⟨w.heap.size, 4, none⟩ = some (.int .i64 most) := new_cell w _ _ 4 _ rfl
  have hz : w.heap.size < (w.alloc (.cells (itCells ⟨kind, num, int, text, most⟩) 42)).heap.size := by simp
  have hts : text.size ≤ 9223372036854775807 := hx.text
  have H := Lib.hid (And.intro hx hb)
  have HW := Lib.hid (fun (W : World) (ht : text.size ≤ 1000) => write_nil ⟨kind, num, int, text, most⟩ W hx ht)
  clear hx hb
  simp only [itCells] at c0 c1 c2 c3 c4 H hz HW ⊢
  by_cases hl : 1000 < text.size
  · have hl' : (1000 : Int) < (text.size : Int) := by omega
    go_enter Try.func7, Try.ntmps7
    go_wp2_with fail
    refine (lives01_any _).mono ?_
    rintro e w2 ⟨rfl, hb2⟩
    go_wp2_with fail
    go_ret
    exact ⟨rfl, below_of H.out.2 hb2⟩
  · have hl' : ¬ (1000 : Int) < (text.size : Int) := by omega
    have HL := Lib.hid hl
    clear hl
    go_enter Try.func7, Try.ntmps7
    go_wp2_with fail
    generalize w.alloc _ = W at H hz c0 c1 c2 c3 c4 ⊢
    refine (HW.out W (Nat.not_lt.1 HL.out)).mono ?_
    rintro e w2 ⟨v, rfl, hb2⟩
    have hb3 := below_of hb2 (below_alloc w2 (.cells #[.slice none 0 0, .int .i64 0] 55))
    have d1 := (hb3.cell (p := ⟨w.heap.size, 1, none⟩) hz).trans c1
    have d4 := (hb3.cell (p := ⟨w.heap.size, 4, none⟩) hz).trans c4
    have hep : w.heap.size ≤ w2.heap.size := by have := hb2.size; omega
    have HE := Lib.hid (And.intro (eye_new w2) (And.intro (below_of H.out.2 hb3) hep))
    clear hb2 hb3 c0 c1 c2 c3 c4 hep HW
    go_wp2_with fail
    generalize w2.alloc _ = w3 at HE d1 d4 ⊢
    refine (penlen_nil _).mono ?_
    rintro e w4 ⟨rfl, rfl⟩
    go_wp2_with fail
    refine (penbytes_nil _).mono ?_
    rintro e w4 ⟨rfl, rfl⟩
    go_wp2_with fail
    refine (eyenum_nil _ _).mono ?_
    rintro e w4 ⟨rfl, rfl⟩
    go_wp2_with fail
    refine (eyeint_nil _).mono ?_
    rintro e w4 ⟨rfl, rfl⟩
    go_wp2_with fail
    refine (eyetruth_nil _).mono ?_
    rintro e w4 ⟨rfl, rfl⟩
    go_wp2_with fail
    refine (eyetext_nil _ _).mono ?_
    rintro e w4 ⟨rfl, rfl⟩
    go_wp2_with fail
    refine (eyeleft_nil _).mono ?_
    rintro e w4 ⟨rfl, rfl⟩
    go_wp2_with fail
    refine (eyefault_nil _).mono ?_
    rintro e w4 ⟨rfl, rfl⟩
    go_wp2_with fail
    refine (eyeclose_nil _).mono ?_
    rintro e w4 ⟨rfl, rfl⟩
    go_wp2_with fail
    generalize w2.heap.size = ep at HE ⊢
    refine (eyeclose_any ep none [] 0 _ HE.out.1 (by decide)).mono ?_
    rintro e w4 ⟨rfl, rfl⟩
    have hcl : eyeClose [] 0 = 0 := by decide
    rw [hcl]
    go_wp2_with fail
    refine (EyeTo.to (eyeint_any ep none [] 0 _ HE.out.1 (by simp) (by decide)) (by rw [eyeUp_none]) (by rw [eyeUp_none]) (by rw [eyeUp_none])).mono ?_
    rintro e w5 ⟨rfl, hE, hO⟩
    have HF := Lib.hid (And.intro hE (hO.below HE.out.2.1 HE.out.2.1.size (fun j hj e => by have := HE.out.2.2; omega)))
    clear hE hO
    go_wp2_with fail
    refine (eyefault_any ep none [] 11 _ HF.out.1).mono ?_
    rintro e w6 ⟨rfl, rfl⟩
    go_wp2_with fail
    refine (lives01_any _).mono ?_
    rintro e w7 ⟨rfl, hb7⟩
    go_wp2_with fail
    go_ret
    exact ⟨rfl, below_of HF.out.2 hb7⟩

end Go.Proofs.Ythbafbgnclpbpaa
