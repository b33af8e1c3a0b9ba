/- Contracts of package sorted: rows that are made. -/
import Derived.Test.YtcoiadncennhpaaSorted2
import Derived.Deep.OwnRows
namespace Go.Proofs.Ytcoiadncennhpaa
open Go.RowKit

theorem heap_new (w : World) (c : Array Value) (t : TypeId) : (w.alloc (.cells c t)).heap[w.heap.size]? = some (.cells c t (0, 0)) := heap_alloc_new w _

/-- A row of zeros. -/
def zrow (n : Nat) (z : Value) : List Value := List.replicate n z
theorem zrow_length (n : Nat) (z : Value) : (zrow n z).length = n := by simp [zrow]
theorem made_zrow (n : Nat) (z : Value) : madeCells #[z] n = (zrow n z).toArray := by
  apply Array.toList_inj.1
  rw [toList_madeCells_one]; rfl
theorem Rd.src {w : World} {B n : Nat} {A : Option Addr} {xs : List Value} (h : Rd w B 1 A n xs) (hn : 0 < xs.length) : ∃ ad, A = some ad ∧ ∀ (j : Nat) (v : Value), xs[j]? = some v → w.cell? (ad.add j) = some v := by
  obtain ⟨b, off, e, _, hc⟩ := h.2 (by have := h.1; omega)
  exact ⟨_, e, fun j v hv => by rw [Addr.add_lit]; exact hc j v hv⟩
theorem Rd.len1 {w : World} {B n : Nat} {A : Option Addr} {xs : List Value} (h : Rd w B 1 A n xs) : xs.length = n := by have := h.1; omega

theorem splice_all {α : Type} (Z xs : List α) (h : Z.length = xs.length) : splice Z 0 xs = xs := by simp [splice, h]
theorem splice_two {α : Type} (Z xs ys : List α) (h : Z.length = xs.length + ys.length) : splice (splice Z 0 xs) xs.length ys = xs ++ ys := by
  simp [splice, h]
theorem Rd.new {w : World} {g : Nat} {xs : List Value} {E : TypeId} {fr : Nat × Nat} (h : w.heap[g]? = some (.cells xs.toArray E fr)) : Rd w w.heap.size 1 (some ⟨g, 0, none⟩) xs.length xs := by
  refine ⟨by omega, fun _ => ⟨g, 0, rfl, (Array.getElem?_eq_some_iff.1 h).1, fun j u hu => ?_⟩⟩
  rw [Nat.zero_add, cell_of_row w g j _ _ _ h]
  simpa using hu

theorem joinI_info : (Try.prog.info? 3).map (fun i => (i.zero, i.size, i.bytes)) = some (some (.int .i64 0), 1, 8) := by kernel_rfl
theorem joinI_size : (Try.prog.info? 3).map (·.size) = some 1 := by kernel_rfl
theorem joinI_make (n : Nat) (hn : n ≤ 3000000) (W : World) : (Instr.makeSlice 24 (.int .i64 (n : Int)) (.int .i64 (n : Int))).run Try.prog W = .ok (.slice (some ⟨W.heap.size, 0, none⟩) n n) (W.alloc (.cells (zrow n (.int .i64 0)).toArray 3)) := by
  rw [← made_zrow]
  exact run_make_row' (P := Try.prog) 24 3 (.int .i64 0) 8 Try.underlying24 joinI_info rfl .i64 .i64 n (by omega) (by omega) W

set_option maxHeartbeats 400000 in
theorem joinI_any (A B : Option Addr) (la ca lb cb : Nat) (xs ys : List Value) (w : World) (hx : Rd w w.heap.size 1 A la xs) (hy : Rd w w.heap.size 1 B lb ys) (h1 : ∀ u ∈ xs, u.oneCell' = true) (h2 : ∀ u ∈ ys, u.oneCell' = true)
    (hla : la ≤ 1000000) (hlb : lb ≤ 1000000) :
    Calls Try.prog 126 #[.slice A la ca, .slice B lb cb] w fun e w' => e = .returned (.slice (some ⟨w.heap.size, 0, none⟩) (la + lb) (la + lb)) ∧ w'.heap[w.heap.size]? = some (.cells (xs ++ ys).toArray 3 (0, 0)) ∧ Below w.heap.size w w' := by
  obtain rfl := hx.len1
  obtain rfl := hy.len1
  have hmk := joinI_make (xs.length + ys.length) (by omega)
  simp only [Int.natCast_add] at hmk
  have hW := below_alloc w (.cells (zrow (xs.length + ys.length) (.int .i64 0)).toArray 3)
  have hg := heap_new w (zrow (xs.length + ys.length) (.int .i64 0)).toArray 3
  have hxW := hx.up hW
  have hyW := hy.up hW
  have Hxy := Lib.hid (And.intro hxW (And.intro hyW (And.intro hW hg)))
  clear hxW hyW hW hg
  go_enter Try.func126, Try.ntmps126
  go_wp2_with (with_reducible refine wpList_copy_splice rfl (.tmp 13) (.tmp 14) 24 24 rfl 3 Try.underlying24 joinI_size (some ⟨w.heap.size, 0, none⟩) A (xs.length + ys.length) (xs.length + ys.length) xs.length ca rfl rfl w.heap.size 0 (zrow (xs.length + ys.length) (.int .i64 0)) 3 Hxy.out.2.2.2 xs (by simp) (fun hp => ⟨rfl, Hxy.out.1.src hp⟩) (by rw [zrow_length]; omega) h1 w.heap.size w Hxy.out.2.2.1 (Nat.le_refl _) ?_)
  intro w1 HG1 hb1
  have hy1 : Rd w1 w1.heap.size 1 B ys.length ys := hy.up hb1
  have Hy1 := Lib.hid hy1
  clear hy1 Hxy hmk
  by_cases h0 : ys.length = 0
  · obtain rfl : ys = [] := List.eq_nil_of_length_eq_zero h0
    simp only [List.length_nil, Nat.add_zero] at *
    go_wp2_with (with_reducible refine wpList_copy_nothing rfl (.tmp 16) (.tmp 17) 24 24 rfl 3 Try.underlying24 joinI_size _ _ _ _ _ _ rfl rfl (by simp) ?_)
    go_ret
    exact ⟨by simp, by rw [HG1.out, splice_all _ _ (zrow_length _ _)]; simp, hb1⟩
  · go_wp2_with (with_reducible refine wpList_copy_splice rfl (.tmp 16) (.tmp 17) 24 24 rfl 3 Try.underlying24 joinI_size (some ⟨w.heap.size, xs.length, none⟩) B ys.length ys.length ys.length cb rfl rfl w.heap.size xs.length (splice (zrow (xs.length + ys.length) (.int .i64 0)) 0 xs) 3 HG1.out ys (by simp) (fun hp => ⟨rfl, Hy1.out.src hp⟩) (by rw [length_splice _ _ _ (by rw [zrow_length]; omega), zrow_length]; omega) h2 w.heap.size w hb1 (Nat.le_refl _) ?_)
    intro w2 HG2 hb2
    go_wp2_with fail
    go_ret
    exact ⟨rfl, by rw [HG2.out, splice_two _ _ _ (zrow_length _ _)], hb2⟩

theorem joinU_info : (Try.prog.info? 35).map (fun i => (i.zero, i.size, i.bytes)) = some (some (.int .u64 0), 1, 8) := by kernel_rfl
theorem joinU_size : (Try.prog.info? 35).map (·.size) = some 1 := by kernel_rfl
theorem joinU_make (n : Nat) (hn : n ≤ 3000000) (W : World) : (Instr.makeSlice 23 (.int .i64 (n : Int)) (.int .i64 (n : Int))).run Try.prog W = .ok (.slice (some ⟨W.heap.size, 0, none⟩) n n) (W.alloc (.cells (zrow n (.int .u64 0)).toArray 35)) := by
  rw [← made_zrow]
  exact run_make_row' (P := Try.prog) 23 35 (.int .u64 0) 8 Try.underlying23 joinU_info rfl .i64 .i64 n (by omega) (by omega) W

set_option maxHeartbeats 400000 in
theorem joinU_any (A B : Option Addr) (la ca lb cb : Nat) (xs ys : List Value) (w : World) (hx : Rd w w.heap.size 1 A la xs) (hy : Rd w w.heap.size 1 B lb ys) (h1 : ∀ u ∈ xs, u.oneCell' = true) (h2 : ∀ u ∈ ys, u.oneCell' = true)
    (hla : la ≤ 1000000) (hlb : lb ≤ 1000000) :
    Calls Try.prog 125 #[.slice A la ca, .slice B lb cb] w fun e w' => e = .returned (.slice (some ⟨w.heap.size, 0, none⟩) (la + lb) (la + lb)) ∧ w'.heap[w.heap.size]? = some (.cells (xs ++ ys).toArray 35 (0, 0)) ∧ Below w.heap.size w w' := by
  obtain rfl := hx.len1
  obtain rfl := hy.len1
  have hmk := joinU_make (xs.length + ys.length) (by omega)
  simp only [Int.natCast_add] at hmk
  have hW := below_alloc w (.cells (zrow (xs.length + ys.length) (.int .u64 0)).toArray 35)
  have hg := heap_new w (zrow (xs.length + ys.length) (.int .u64 0)).toArray 35
  have hxW := hx.up hW
  have hyW := hy.up hW
  have Hxy := Lib.hid (And.intro hxW (And.intro hyW (And.intro hW hg)))
  clear hxW hyW hW hg
  go_enter Try.func125, Try.ntmps125
  go_wp2_with (with_reducible refine wpList_copy_splice rfl (.tmp 13) (.tmp 14) 23 23 rfl 35 Try.underlying23 joinU_size (some ⟨w.heap.size, 0, none⟩) A (xs.length + ys.length) (xs.length + ys.length) xs.length ca rfl rfl w.heap.size 0 (zrow (xs.length + ys.length) (.int .u64 0)) 35 Hxy.out.2.2.2 xs (by simp) (fun hp => ⟨rfl, Hxy.out.1.src hp⟩) (by rw [zrow_length]; omega) h1 w.heap.size w Hxy.out.2.2.1 (Nat.le_refl _) ?_)
  intro w1 HG1 hb1
  have hy1 : Rd w1 w1.heap.size 1 B ys.length ys := hy.up hb1
  have Hy1 := Lib.hid hy1
  clear hy1 Hxy hmk
  by_cases h0 : ys.length = 0
  · obtain rfl : ys = [] := List.eq_nil_of_length_eq_zero h0
    simp only [List.length_nil, Nat.add_zero] at *
    go_wp2_with (with_reducible refine wpList_copy_nothing rfl (.tmp 16) (.tmp 17) 23 23 rfl 35 Try.underlying23 joinU_size _ _ _ _ _ _ rfl rfl (by simp) ?_)
    go_ret
    exact ⟨by simp, by rw [HG1.out, splice_all _ _ (zrow_length _ _)]; simp, hb1⟩
  · go_wp2_with (with_reducible refine wpList_copy_splice rfl (.tmp 16) (.tmp 17) 23 23 rfl 35 Try.underlying23 joinU_size (some ⟨w.heap.size, xs.length, none⟩) B ys.length ys.length ys.length cb rfl rfl w.heap.size xs.length (splice (zrow (xs.length + ys.length) (.int .u64 0)) 0 xs) 35 HG1.out ys (by simp) (fun hp => ⟨rfl, Hy1.out.src hp⟩) (by rw [length_splice _ _ _ (by rw [zrow_length]; omega), zrow_length]; omega) h2 w.heap.size w hb1 (Nat.le_refl _) ?_)
    intro w2 HG2 hb2
    go_wp2_with fail
    go_ret
    exact ⟨rfl, by rw [HG2.out, splice_two _ _ _ (zrow_length _ _)], hb2⟩

theorem joinS_info : (Try.prog.info? 9).map (fun i => (i.zero, i.size, i.bytes)) = some (some (.string ByteArray.empty), 1, 16) := by kernel_rfl
theorem joinS_size : (Try.prog.info? 9).map (·.size) = some 1 := by kernel_rfl
theorem joinS_make (n : Nat) (hn : n ≤ 3000000) (W : World) : (Instr.makeSlice 22 (.int .i64 (n : Int)) (.int .i64 (n : Int))).run Try.prog W = .ok (.slice (some ⟨W.heap.size, 0, none⟩) n n) (W.alloc (.cells (zrow n (.string ByteArray.empty)).toArray 9)) := by
  rw [← made_zrow]
  exact run_make_row' (P := Try.prog) 22 9 (.string ByteArray.empty) 16 Try.underlying22 joinS_info rfl .i64 .i64 n (by omega) (by omega) W

set_option maxHeartbeats 400000 in
theorem joinS_any (A B : Option Addr) (la ca lb cb : Nat) (xs ys : List Value) (w : World) (hx : Rd w w.heap.size 1 A la xs) (hy : Rd w w.heap.size 1 B lb ys) (h1 : ∀ u ∈ xs, u.oneCell' = true) (h2 : ∀ u ∈ ys, u.oneCell' = true)
    (hla : la ≤ 1000000) (hlb : lb ≤ 1000000) :
    Calls Try.prog 124 #[.slice A la ca, .slice B lb cb] w fun e w' => e = .returned (.slice (some ⟨w.heap.size, 0, none⟩) (la + lb) (la + lb)) ∧ w'.heap[w.heap.size]? = some (.cells (xs ++ ys).toArray 9 (0, 0)) ∧ Below w.heap.size w w' := by
  obtain rfl := hx.len1
  obtain rfl := hy.len1
  have hmk := joinS_make (xs.length + ys.length) (by omega)
  simp only [Int.natCast_add] at hmk
  have hW := below_alloc w (.cells (zrow (xs.length + ys.length) (.string ByteArray.empty)).toArray 9)
  have hg := heap_new w (zrow (xs.length + ys.length) (.string ByteArray.empty)).toArray 9
  have hxW := hx.up hW
  have hyW := hy.up hW
  have Hxy := Lib.hid (And.intro hxW (And.intro hyW (And.intro hW hg)))
  clear hxW hyW hW hg
  go_enter Try.func124, Try.ntmps124
  go_wp2_with (with_reducible refine wpList_copy_splice rfl (.tmp 13) (.tmp 14) 22 22 rfl 9 Try.underlying22 joinS_size (some ⟨w.heap.size, 0, none⟩) A (xs.length + ys.length) (xs.length + ys.length) xs.length ca rfl rfl w.heap.size 0 (zrow (xs.length + ys.length) (.string ByteArray.empty)) 9 Hxy.out.2.2.2 xs (by simp) (fun hp => ⟨rfl, Hxy.out.1.src hp⟩) (by rw [zrow_length]; omega) h1 w.heap.size w Hxy.out.2.2.1 (Nat.le_refl _) ?_)
  intro w1 HG1 hb1
  have hy1 : Rd w1 w1.heap.size 1 B ys.length ys := hy.up hb1
  have Hy1 := Lib.hid hy1
  clear hy1 Hxy hmk
  by_cases h0 : ys.length = 0
  · obtain rfl : ys = [] := List.eq_nil_of_length_eq_zero h0
    simp only [List.length_nil, Nat.add_zero] at *
    go_wp2_with (with_reducible refine wpList_copy_nothing rfl (.tmp 16) (.tmp 17) 22 22 rfl 9 Try.underlying22 joinS_size _ _ _ _ _ _ rfl rfl (by simp) ?_)
    go_ret
    exact ⟨by simp, by rw [HG1.out, splice_all _ _ (zrow_length _ _)]; simp, hb1⟩
  · go_wp2_with (with_reducible refine wpList_copy_splice rfl (.tmp 16) (.tmp 17) 22 22 rfl 9 Try.underlying22 joinS_size (some ⟨w.heap.size, xs.length, none⟩) B ys.length ys.length ys.length cb rfl rfl w.heap.size xs.length (splice (zrow (xs.length + ys.length) (.string ByteArray.empty)) 0 xs) 9 HG1.out ys (by simp) (fun hp => ⟨rfl, Hy1.out.src hp⟩) (by rw [length_splice _ _ _ (by rw [zrow_length]; omega), zrow_length]; omega) h2 w.heap.size w hb1 (Nat.le_refl _) ?_)
    intro w2 HG2 hb2
    go_wp2_with fail
    go_ret
    exact ⟨rfl, by rw [HG2.out, splice_two _ _ _ (zrow_length _ _)], hb2⟩

end Go.Proofs.Ytcoiadncennhpaa
