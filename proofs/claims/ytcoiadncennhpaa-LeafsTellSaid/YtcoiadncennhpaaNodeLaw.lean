/- The laws of layer 10: helpers. -/
import Derived.Test.YtcoiadncennhpaaNode6
namespace Go.Proofs.Ytcoiadncennhpaa
open Go.RowKit

theorem Ret.to {P : Program} {f : FuncId} {args : Array Value} {w : World} {v v' : Value} (h : Calls P f args w (Ret v w)) (e : v = v') : Calls P f args w (Ret v' w) := e ▸ h

/-- A leaf without entries. -/
def emptyNd : Nd := ⟨0, ByteArray.empty, ByteArray.empty, true, -1, [], [], []⟩
theorem empty_lies (w : World) : Lies w emptyNd none none none 0 0 0 :=
  { keys := Rd.nil _ _ _ _, vals := Rd.nil _ _ _ _, kids := Rd.nil _ _ _ _, ka := Nat.le_refl _, kb := Nat.le_refl _, kc := Nat.le_refl _, la := Nat.zero_le _, lb := Nat.zero_le _, lc := Nat.zero_le _,
    low := Nat.zero_le _, high := Nat.zero_le _, fit := fun j hj => absurd hj (Nat.not_lt_zero _) }

theorem empty_cells : ndCells emptyNd none none none 0 0 0 = #[.int .i64 0, .string ⟨#[]⟩, .string ⟨#[]⟩, .bool true, .int .i64 (-1), .slice none 0 0, .slice none 0 0, .slice none 0 0] := rfl

theorem empty_any (w : World) : Calls Try.prog 66 #[] w (Ret (.agg #[.int .i64 0, .string ⟨#[]⟩, .string ⟨#[]⟩, .bool true, .int .i64 (-1), .slice none 0 0, .slice none 0 0, .slice none 0 0]) w) := by
  go_enter Try.func66, Try.ntmps66
  go_wp2_with fail
  exact bodyPost_ret (v := .agg #[.int .i64 0, .string ⟨#[]⟩, .string ⟨#[]⟩, .bool true, .int .i64 (-1), .slice none 0 0, .slice none 0 0, .slice none 0 0]) (by simp [results, Try.results66, go_sem]) rfl ⟨rfl, below_alloc _ _⟩

theorem least_c1 (w : World) : Calls Try.prog 19 #[.int .i64 0, .int .i64 4] w (Ret (.int .i64 1) w) := Ret.to (least_any 0 4 w (by omega) (by omega)) (by kernel_rfl)
theorem least_c2 (w : World) : Calls Try.prog 19 #[.int .i64 1, .int .i64 4] w (Ret (.int .i64 2) w) := Ret.to (least_any 1 4 w (by omega) (by omega)) (by kernel_rfl)
theorem least_c3 (w : World) : Calls Try.prog 19 #[.int .i64 0, .int .i64 64] w (Ret (.int .i64 16) w) := Ret.to (least_any 0 64 w (by omega) (by omega)) (by kernel_rfl)
theorem check_c (w : World) : Calls Try.prog 17 #[.agg #[.int .i64 0, .string ByteArray.empty, .string ByteArray.empty, .bool true, .int .i64 (-1), .slice none 0 0, .slice none 0 0, .slice none 0 0], .int .i64 4] w (Ret (.int .i64 0) w) := by
  exact Ret.to (ndcheck_any emptyNd 4 none none none 0 0 0 w (empty_lies w)) (by kernel_rfl)
theorem covers_c (w : World) : Calls Try.prog 26 #[.agg #[.int .i64 0, .string ByteArray.empty, .string ByteArray.empty, .bool true, .int .i64 (-1), .slice none 0 0, .slice none 0 0, .slice none 0 0], .string ⟨#[97]⟩] w (Ret (.bool true) w) := by
  exact Ret.to (covers_any emptyNd none none none 0 0 0 _ w (empty_lies w) (by decide)) (by kernel_rfl)

set_option maxHeartbeats 400000 in
theorem lives10_any (w : World) : Calls Try.prog 16 #[] w (Ret (.bool true) w) := by
  go_enter Try.func16, Try.ntmps16
  go_wp2_with fail
  refine (empty_any _).mono ?_
  rintro e w1 ⟨rfl, hb1⟩
  go_wp2_with fail
  have hbx : Boxed (w1.alloc (.cells #[.int .i64 0, .string ⟨#[]⟩, .string ⟨#[]⟩, .bool true, .int .i64 (-1), .slice none 0 0, .slice none 0 0, .slice none 0 0] 26)) w1.heap.size emptyNd none none none 0 0 0 := Boxed.new w1 emptyNd none none none 0 0 0 26
  have HB := below_of hb1 (below_alloc w1 (.cells #[.int .i64 0, .string ⟨#[]⟩, .string ⟨#[]⟩, .bool true, .int .i64 (-1), .slice none 0 0, .slice none 0 0, .slice none 0 0] 26))
  have hsz : w1.heap.size < (w1.alloc (.cells #[.int .i64 0, .string ⟨#[]⟩, .string ⟨#[]⟩, .bool true, .int .i64 (-1), .slice none 0 0, .slice none 0 0, .slice none 0 0] 26)).heap.size := by simp
  generalize w1.alloc _ = W at hbx HB hsz ⊢
  clear hb1
  obtain ⟨b0, b1, b2, b3, b4, b5, b6, b7⟩ := id hbx
  simp only [emptyNd, List.length_nil] at b0 b1 b2 b3 b4 b5 b6 b7
  refine (least_c1 _).mono ?_
  rintro e wn ⟨rfl, hbn⟩
  replace HB := below_of HB hbn
  replace hbx := hbx.up hbn hsz
  replace hsz := Nat.lt_of_lt_of_le hsz hbn.size
  clear hbn b0 b1 b2 b3 b4 b5 b6 b7
  obtain ⟨b0, b1, b2, b3, b4, b5, b6, b7⟩ := id hbx
  simp only [emptyNd, List.length_nil] at b0 b1 b2 b3 b4 b5 b6 b7
  go_wp2_with fail
  refine (least_c2 _).mono ?_
  rintro e wn ⟨rfl, hbn⟩
  replace HB := below_of HB hbn
  replace hbx := hbx.up hbn hsz
  replace hsz := Nat.lt_of_lt_of_le hsz hbn.size
  clear hbn b0 b1 b2 b3 b4 b5 b6 b7
  obtain ⟨b0, b1, b2, b3, b4, b5, b6, b7⟩ := id hbx
  simp only [emptyNd, List.length_nil] at b0 b1 b2 b3 b4 b5 b6 b7
  go_wp2_with fail
  refine (least_c3 _).mono ?_
  rintro e wn ⟨rfl, hbn⟩
  replace HB := below_of HB hbn
  replace hbx := hbx.up hbn hsz
  replace hsz := Nat.lt_of_lt_of_le hsz hbn.size
  clear hbn b0 b1 b2 b3 b4 b5 b6 b7
  obtain ⟨b0, b1, b2, b3, b4, b5, b6, b7⟩ := id hbx
  simp only [emptyNd, List.length_nil] at b0 b1 b2 b3 b4 b5 b6 b7
  go_wp2_with fail
  refine (check_c _).mono ?_
  rintro e wn ⟨rfl, hbn⟩
  replace HB := below_of HB hbn
  replace hbx := hbx.up hbn hsz
  replace hsz := Nat.lt_of_lt_of_le hsz hbn.size
  clear hbn b0 b1 b2 b3 b4 b5 b6 b7
  obtain ⟨b0, b1, b2, b3, b4, b5, b6, b7⟩ := id hbx
  simp only [emptyNd, List.length_nil] at b0 b1 b2 b3 b4 b5 b6 b7
  go_wp2_with fail
  refine (covers_c _).mono ?_
  rintro e wn ⟨rfl, hbn⟩
  replace HB := below_of HB hbn
  replace hbx := hbx.up hbn hsz
  replace hsz := Nat.lt_of_lt_of_le hsz hbn.size
  clear hbn b0 b1 b2 b3 b4 b5 b6 b7
  obtain ⟨b0, b1, b2, b3, b4, b5, b6, b7⟩ := id hbx
  simp only [emptyNd, List.length_nil] at b0 b1 b2 b3 b4 b5 b6 b7
  go_wp2_with fail
  go_ret
  exact ⟨rfl, HB⟩

/-- The numbers of a node are numbers of their kinds. -/
structure Bnd (d : Nd) : Prop where
  level : -9223372036854775808 ≤ d.level ∧ d.level ≤ 9223372036854775807
  next : -9223372036854775808 ≤ d.next ∧ d.next ≤ 9223372036854775807
  vals : ∀ z ∈ d.vals, 0 ≤ z ∧ z ≤ 18446744073709551615
  kids : ∀ z ∈ d.kids, -9223372036854775808 ≤ z ∧ z ≤ 9223372036854775807

end Go.Proofs.Ytcoiadncennhpaa
