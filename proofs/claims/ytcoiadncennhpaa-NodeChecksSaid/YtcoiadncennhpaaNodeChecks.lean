/- The law NodeChecks: the walk. -/
import Derived.Test.YtcoiadncennhpaaNodeLaw
namespace Go.Proofs.Ytcoiadncennhpaa
open Go.RowKit

theorem held_of {W w2 : World} {g : Nat} {level next : Int} {low high : ByteArray} {last : Bool} {keys : List ByteArray} {vals kids : List Int} {A B C : Option Addr} {ca cb cc : Nat} (hbx : Boxed W g ⟨level, low, high, last, next, keys, vals, kids⟩ A B C ca cb cc) (hsz : g < W.heap.size) (hb : Below W.heap.size W w2) :
    w2.cell? ⟨g, 0, none⟩ = some (.int .i64 level) ∧ w2.cell? ⟨g, 1, none⟩ = some (.string low) ∧ w2.cell? ⟨g, 2, none⟩ = some (.string high) ∧ w2.cell? ⟨g, 3, none⟩ = some (.bool last) ∧ w2.cell? ⟨g, 4, none⟩ = some (.int .i64 next) ∧ w2.cell? ⟨g, 5, none⟩ = some (.slice A keys.length ca) ∧ w2.cell? ⟨g, 6, none⟩ = some (.slice B vals.length cb) ∧ w2.cell? ⟨g, 7, none⟩ = some (.slice C kids.length cc) ∧ Below W.heap.size W w2 := by
  obtain ⟨b0, b1, b2, b3, b4, b5, b6, b7⟩ := hbx.up hb hsz
  exact ⟨b0, b1, b2, b3, b4, b5, b6, b7, hb⟩
theorem ndChk_out (d : Nd) (fan : Int) (h : fan < 4 ∨ 64 < fan) : ndChk d fan = 2 := if_pos h
theorem ndChk_in (d : Nd) (fan : Int) (h : ¬ (fan < 4 ∨ 64 < fan)) : ndChk d fan = if soundB d fan = true then 0 else 10 := if_neg h

set_option maxRecDepth 100000 in
set_option maxHeartbeats 4000000 in
theorem nodechecks_any (d : Nd) (fan : Int) (A B C : Option Addr) (ca cb cc : Nat) (w : World) (h : Lies w d A B C ca cb cc) :
    Calls Try.prog 3 #[.agg (ndCells d A B C ca cb cc), .int .i64 fan] w (Ret (.bool true) w) := by
  obtain ⟨level, low, high, last, next, keys, vals, kids⟩ := d
  have HB := below_alloc w (.cells (ndCells ⟨level, low, high, last, next, keys, vals, kids⟩ A B C ca cb cc) 26)
  have hbx := Boxed.new w ⟨level, low, high, last, next, keys, vals, kids⟩ A B C ca cb cc 26
  have hsz : w.heap.size < (w.alloc (.cells (ndCells ⟨level, low, high, last, next, keys, vals, kids⟩ A B C ca cb cc) 26)).heap.size := by simp
  have hlow : low.size ≤ maxLen := h.low
  have hhigh : high.size ≤ maxLen := h.high
  simp only [ndCells] at HB hbx hsz ⊢
  replace h := h.up HB
  go_enter Try.func3, Try.ntmps3
  go_wp2_with fail
  generalize w.alloc _ = W at HB hbx hsz h ⊢
  obtain ⟨b0, b1, b2, b3, b4, b5, b6, b7⟩ := id hbx
  simp only [] at b0 b1 b2 b3 b4 b5 b6 b7
  refine (lightN_any _ A B C ca cb cc _ h).mono ?_
  rintro e wn ⟨rfl, hbn⟩
  replace HB := below_of HB hbn
  replace hbx := hbx.up hbn hsz
  replace hsz := Nat.lt_of_lt_of_le hsz hbn.size
  replace h := h.up hbn
  clear hbn b0 b1 b2 b3 b4 b5 b6 b7
  obtain ⟨b0, b1, b2, b3, b4, b5, b6, b7⟩ := id hbx
  simp only [] at b0 b1 b2 b3 b4 b5 b6 b7
  cases hli : lightN ⟨level, low, high, last, next, keys, vals, kids⟩
  · clear hli
    go_wp2_with fail
    refine (lives10_any _).mono ?_
    rintro e wn ⟨rfl, hbn⟩
    go_wp2_with fail
    go_ret
    exact ⟨rfl, below_of HB hbn⟩
  · clear hli
    go_wp2_with fail
    refine (ndcheck_any _ fan A B C ca cb cc _ h).mono ?_
    rintro e wn ⟨rfl, hbn⟩
    replace HB := below_of HB hbn
    replace hbx := hbx.up hbn hsz
    replace hsz := Nat.lt_of_lt_of_le hsz hbn.size
    replace h := h.up hbn
    clear hbn b0 b1 b2 b3 b4 b5 b6 b7
    obtain ⟨b0, b1, b2, b3, b4, b5, b6, b7⟩ := id hbx
    simp only [] at b0 b1 b2 b3 b4 b5 b6 b7
    by_cases hf : fan < 4 ∨ 64 < fan
    · rw [ndChk_out _ _ hf]
      rcases hf with hf | hf
      · go_wp2_with fail
        refine (lives10_any _).mono ?_
        rintro e wn ⟨rfl, hbn⟩
        go_wp2_with fail
        go_ret
        exact ⟨rfl, below_of HB hbn⟩
      · have hf4 : ¬ fan < 4 := by omega
        go_wp2_with fail
        refine (lives10_any _).mono ?_
        rintro e wn ⟨rfl, hbn⟩
        go_wp2_with fail
        go_ret
        exact ⟨rfl, below_of HB hbn⟩
    · rw [ndChk_in _ _ hf]
      have hf4 : ¬ fan < 4 := fun h => hf (Or.inl h)
      have hf64 : ¬ 64 < fan := fun h => hf (Or.inr h)
      clear hf
      have hf4' : 4 ≤ fan := Int.not_lt.1 hf4
      have hf64' : fan ≤ 64 := Int.not_lt.1 hf64
      cases hso : soundB ⟨level, low, high, last, next, keys, vals, kids⟩ fan
      · rw [if_neg Bool.false_ne_true]
        have Hso := Lib.hid hso
        clear hso
        go_upto_region 6 with fail
        generalize wn = W at HB hbx hsz h b0 b1 b2 b3 b4 b5 b6 b7 ⊢
        go_cut [4] (fun s wx => s = .bool true ∧ Below W.heap.size W wx)
        case first =>
          first | go_region_held3 (fun w' => w'.cell? ⟨w.heap.size, 0, none⟩ = some (.int .i64 level) ∧ w'.cell? ⟨w.heap.size, 1, none⟩ = some (.string low) ∧ w'.cell? ⟨w.heap.size, 2, none⟩ = some (.string high) ∧ w'.cell? ⟨w.heap.size, 3, none⟩ = some (.bool last) ∧ w'.cell? ⟨w.heap.size, 4, none⟩ = some (.int .i64 next) ∧ w'.cell? ⟨w.heap.size, 5, none⟩ = some (.slice A keys.length ca) ∧ w'.cell? ⟨w.heap.size, 6, none⟩ = some (.slice B vals.length cb) ∧ w'.cell? ⟨w.heap.size, 7, none⟩ = some (.slice C kids.length cc) ∧ Below W.heap.size W w') (first | assumption | exact held_of hbx hsz (Below.drew (Below.refl _ _)) | exact held_of hbx hsz (below_of (‹_ ∧ _ ∧ _ ∧ _ ∧ _ ∧ _ ∧ _ ∧ _ ∧ Below W.heap.size W _›).2.2.2.2.2.2.2.2 hbn)) ((first | (go_at_call 18; refine (Ret.to (refsound_any ⟨level, low, high, last, next, keys, vals, kids⟩ _ A B C ca cb cc _ (h.up (‹_ ∧ _ ∧ _ ∧ _ ∧ _ ∧ _ ∧ _ ∧ _ ∧ Below W.heap.size W _›).2.2.2.2.2.2.2.2)) (congrArg Value.bool Hso.out)).mono ?_; rintro e wn ⟨rfl, hbn⟩) | (go_at_call 19; refine (least_any _ _ _ hf4' hf64').mono ?_; rintro e wn ⟨rfl, hbn⟩) | (go_at_call 20; refine (refleast_any _ _ _ hf4' hf64').mono ?_; rintro e wn ⟨rfl, hbn⟩) | (go_at_call 16; refine (lives10_any _).mono ?_; rintro e wn ⟨rfl, hbn⟩))) | fail
          all_goals
            go_wp2_with fail
            go_meet
            exact ⟨rfl, (‹_ ∧ _ ∧ _ ∧ _ ∧ _ ∧ _ ∧ _ ∧ _ ∧ Below W.heap.size W _›).2.2.2.2.2.2.2.2⟩
        case rest =>
          obtain ⟨rfl, hbel'⟩ := hcut
          go_wp2_with fail
          go_ret
          exact ⟨rfl, below_of HB hbel'⟩
      · rw [if_pos rfl]
        have Hso := Lib.hid hso
        clear hso
        go_upto_region 6 with fail
        generalize wn = W at HB hbx hsz h b0 b1 b2 b3 b4 b5 b6 b7 ⊢
        go_cut [4] (fun s wx => s = .bool true ∧ Below W.heap.size W wx)
        case first =>
          have hcur : Below W.heap.size W W.drew := Below.drew (Below.refl _ _)
          first | go_region_with (first | (go_at_call 18; refine (Ret.to (refsound_any ⟨level, low, high, last, next, keys, vals, kids⟩ _ A B C ca cb cc _ (h.up hcur)) (congrArg Value.bool Hso.out)).mono ?_; rintro e wn ⟨rfl, hbn⟩; replace hcur := below_of hcur hbn; obtain ⟨b0, b1, b2, b3, b4, b5, b6, b7⟩ := hbx.up hcur hsz) | (go_at_call 19; refine (least_any _ _ _ hf4' hf64').mono ?_; rintro e wn ⟨rfl, hbn⟩; replace hcur := below_of hcur hbn; obtain ⟨b0, b1, b2, b3, b4, b5, b6, b7⟩ := hbx.up hcur hsz) | (go_at_call 20; refine (refleast_any _ _ _ hf4' hf64').mono ?_; rintro e wn ⟨rfl, hbn⟩; replace hcur := below_of hcur hbn; obtain ⟨b0, b1, b2, b3, b4, b5, b6, b7⟩ := hbx.up hcur hsz) | (go_at_call 16; refine (lives10_any _).mono ?_; rintro e wn ⟨rfl, hbn⟩; replace hcur := below_of hcur hbn; obtain ⟨b0, b1, b2, b3, b4, b5, b6, b7⟩ := hbx.up hcur hsz)) | fail
          all_goals
            go_wp2_with fail
            go_meet
            exact ⟨rfl, hcur⟩
        case rest =>
          obtain ⟨rfl, hbel'⟩ := hcut
          go_wp2_with fail
          go_ret
          exact ⟨rfl, below_of HB hbel'⟩
theorem nodechecks_row (d : Nd) (A B C : Option Addr) (ca cb cc : Nat) (fan : Int) (w : World) (h : Lies w d A B C ca cb cc) (_ : Bnd d) (_ : -9223372036854775808 ≤ fan ∧ fan ≤ 9223372036854775807) :
    Calls Try.prog 3 #[.agg (ndCells d A B C ca cb cc), .int .i64 fan] w (Ret (.bool true) w) := nodechecks_any d fan A B C ca cb cc w h

end Go.Proofs.Ytcoiadncennhpaa
