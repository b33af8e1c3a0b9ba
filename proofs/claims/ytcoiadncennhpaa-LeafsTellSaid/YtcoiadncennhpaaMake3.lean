/- Contracts of package sorted: a row without one, with another one, a part of a row. -/
import Derived.Test.YtcoiadncennhpaaMake2
namespace Go.Proofs.Ytcoiadncennhpaa
open Go.RowKit

theorem splice_cut {α : Type} (Z xs : List α) (k : Nat) (h : Z.length + 1 = xs.length) (hk : k < xs.length) : splice (splice Z 0 (xs.take k)) k (xs.drop (k + 1)) = xs.eraseIdx k := by
  have hz : splice Z 0 (xs.take k) = xs.take k ++ Z.drop k := by simp [splice, Nat.min_eq_left (Nat.le_of_lt hk)]
  have hlen : (xs.take k).length = k := by simp; omega
  rw [hz, splice, List.eraseIdx_eq_take_drop_succ]
  have e2 : (xs.take k ++ Z.drop k).take k = xs.take k := by
    rw [List.take_append, hlen, Nat.sub_self, List.take_zero, List.append_nil, List.take_of_length_le (by omega)]
  have e3 : (xs.take k ++ Z.drop k).drop (k + (xs.drop (k + 1)).length) = [] := by
    apply List.drop_eq_nil_of_le; simp; omega
  rw [e2, e3]; simp

/-- A part of a row. -/
def part {α : Type} (xs : List α) (i j : Int) : List α := (xs.drop i.toNat).take (j.toNat - i.toNat)
theorem strs_ins (ss : List ByteArray) (k : Nat) (x : ByteArray) : ins (strs ss) k (.string x) = strs (ins ss k x) := by simp [ins, strs]
theorem strs_erase (ss : List ByteArray) (k : Nat) : (strs ss).eraseIdx k = strs (ss.eraseIdx k) := by simp [strs, List.eraseIdx_eq_take_drop_succ]
theorem strs_part (ss : List ByteArray) (i j : Int) : part (strs ss) i j = strs (part ss i j) := by simp [part, strs]
theorem strs_one (ss : List ByteArray) : ∀ u ∈ strs ss, u.oneCell' = true := by
  intro u hu
  obtain ⟨s, _, rfl⟩ := List.mem_map.1 hu
  rfl
theorem i64s_one (zs : List Int) : ∀ u ∈ i64s zs, u.oneCell' = true := by
  intro u hu
  obtain ⟨s, _, rfl⟩ := List.mem_map.1 hu
  rfl
theorem u64s_one (zs : List Int) : ∀ u ∈ u64s zs, u.oneCell' = true := by
  intro u hu
  obtain ⟨s, _, rfl⟩ := List.mem_map.1 hu
  rfl
/-- What is made in the first new block; nothing, where it has nothing. -/
def Newly (w w' : World) (E : TypeId) (A : Option Addr) (xs : List Value) : Prop := 0 < xs.length → A = some ⟨w.heap.size, 0, none⟩ ∧ w'.heap[w.heap.size]? = some (.cells xs.toArray E (0, 0))
theorem Newly.rd {w w' : World} {E : TypeId} {A : Option Addr} {xs : List Value} (h : Newly w w' E A xs) : Rd w' w'.heap.size 1 A xs.length xs := by
  by_cases h0 : 0 < xs.length
  · obtain ⟨rfl, hh⟩ := h h0
    exact Rd.new hh
  · obtain rfl : xs = [] := List.eq_nil_of_length_eq_zero (by omega)
    exact Rd.nil _ _ _ _
theorem ret_slice {A : Option Addr} {n n' c c' : Nat} (h : n = n') (k : c = c') : Ending.returned (.slice A n c) = .returned (.slice A n' c') := by rw [h, k]

set_option maxHeartbeats 400000 in
theorem cutI_yes (A : Option Addr) (n ca : Nat) (i : Int) (xs : List Value) (w : World) (hx : Rd w w.heap.size 1 A n xs) (h1 : ∀ u ∈ xs, u.oneCell' = true)
    (hn : n ≤ 1000000) (hca : n ≤ ca) (h0 : 0 ≤ i) (hi : i < n) :
    Calls Try.prog 111 #[.slice A n ca, .int .i64 i] w fun e w' => e = .returned (.tuple #[.slice (some ⟨w.heap.size, 0, none⟩) (n - 1) (n - 1), .bool true]) ∧ w'.heap[w.heap.size]? = some (.cells (xs.eraseIdx i.toNat).toArray 3 (0, 0)) ∧ Below w.heap.size w w' := by
  obtain ⟨k, rfl⟩ := Int.eq_ofNat_of_zero_le h0
  rw [Int.toNat_natCast]
  have hxl := hx.len1
  have hk : k < xs.length := by omega
  obtain ⟨m, hm⟩ : ∃ m, n = m + 1 := ⟨n - 1, by omega⟩
  subst hm
  have hsp := splice_cut (zrow m (.int .i64 0)) xs k (by rw [zrow_length]; omega) hk
  have hmk := joinI_make m (by omega)
  have hW := below_alloc w (.cells (zrow m (.int .i64 0)).toArray 3)
  have hg := heap_new w (zrow m (.int .i64 0)).toArray 3
  have hxW := hx.up hW
  have Hxy := Lib.hid (And.intro hxW (And.intro hW hg))
  have htk := Lib.hid (List.length_take_of_le (Nat.le_of_lt hk))
  have Hxl := Lib.hid hxl
  have Hsp := Lib.hid hsp
  have hkm : k ≤ m := by omega
  clear hxW hW hg h0 hi hxl hsp
  go_enter Try.func111, Try.ntmps111
  go_wp2_with (with_reducible refine wpList_copy_splice rfl (.tmp 19) (.tmp 22) 24 24 rfl 3 Try.underlying24 joinI_size (some ⟨w.heap.size, 0, none⟩) A m m k ca rfl rfl w.heap.size 0 (zrow m (.int .i64 0)) 3 Hxy.out.2.2 (xs.take k) (by rw [htk.out]; exact (Nat.min_eq_left (by omega)).symm) (fun hp => ⟨rfl, by have hh := (Hxy.out.1.first (k := k) (by omega)).src (by simpa using hp); simpa using hh⟩) (by rw [zrow_length, htk.out]; omega) (fun u hu => h1 u (List.mem_of_mem_take hu)) w.heap.size w Hxy.out.2.1 (Nat.le_refl _) ?_)
  intro w1 HG1 hb1
  have hl1 : (splice (zrow m (.int .i64 0)) 0 (xs.take k)).length = m := by rw [length_splice _ _ _ (by rw [zrow_length, htk.out]; omega), zrow_length]
  have hx1 : Rd w1 w1.heap.size 1 A (m + 1) xs := hx.up hb1
  generalize splice (zrow m (.int .i64 0)) 0 (xs.take k) = L at HG1 hl1 Hsp
  have HL := Lib.hid hl1
  clear hl1 Hxy hmk hx
  go_wp2_with fail
  have s1 : IntKind.i64.wrap ((k : Int) + 1) = (k : Int) + 1 := IntWalk.i64_in _ (by omega)
  have s2 : 0 ≤ (k : Int) + 1 ∧ (k : Int) + 1 ≤ (m : Int) + 1 := by omega
  have s3 : ((k : Int) + 1).toNat = k + 1 := by omega
  rcases (show k < m ∨ (k = m ∧ ca = m + 1) ∨ (k = m ∧ ca ≠ m + 1) from by omega) with hlt | ⟨rfl, rfl⟩ | ⟨rfl, hne⟩
  · have s4 : ¬ m = k := by omega
    have s5 : ¬ ca = k + 1 := by omega
    obtain ⟨b, off, rfl, hbB, hc⟩ := hx1.2 (by omega)
    have hcd : ∀ (j : Nat) (u : Value), (xs.drop (k + 1))[j]? = some u → w1.drew.cell? ((⟨b, off + (k + 1), none⟩ : Addr).add j) = some u := by
      intro j u hu
      rw [Addr.add_lit, Nat.add_assoc]
      exact hc (k + 1 + j) u (by rw [← hu, List.getElem?_drop])
    obtain ⟨w3, hcp, HG3, hb3⟩ := run_copy_any (P := Try.prog) (w := w1.drew) 24 24 3 3 Try.underlying24 joinI_size (some ⟨w.heap.size, k, none⟩) (some ⟨b, off + (k + 1), none⟩) (m - k) (m - k) (m - k) (ca - (k + 1)) w.heap.size k L 3 HG1.out (xs.drop (k + 1)) (by have := Hxl.out; simp; omega) (fun _ => ⟨rfl, _, rfl, hcd⟩) (by have := Hxl.out; rw [HL.out, List.length_drop]; omega) (fun u hu => h1 u (List.mem_of_mem_drop hu)) w.heap.size w hb1.drew (Nat.le_refl _)
    clear hc hx1 HG1 hb1 hcd
    go_region
    all_goals
      go_wp2_with fail
      go_ret2
      exact ⟨rfl, by rw [HG3.out, Hsp.out], hb3⟩
  all_goals
    have hcp := fun (d a : Option Addr) (dC sC : Nat) (W : World) => run_copy_none (P := Try.prog) W 24 24 3 3 d a 0 dC 0 sC Try.underlying24 joinI_size rfl
    have hfin : L = xs.eraseIdx k := by
      rw [← Hsp.out, List.drop_eq_nil_of_le (by have := Hxl.out; omega), splice_none]
    have Hfin := Lib.hid hfin
    clear hx1 hfin Hsp
    go_region
    all_goals
      go_wp2_with fail
      go_ret2
      exact ⟨rfl, by rw [← Hfin.out]; exact HG1.out, hb1.drew⟩

theorem cutI_no (A : Option Addr) (n ca : Nat) (i : Int) (w : World) (h : i < 0 ∨ (n : Int) ≤ i) :
    Calls Try.prog 111 #[.slice A n ca, .int .i64 i] w (Ret (.tuple #[.slice none 0 0, .bool false]) w) := by
  rcases h with h | h
  · go_enter Try.func111, Try.ntmps111
    go_wp2_with fail
    go_ret2
    exact ⟨rfl, Below.refl _ _⟩
  · have h' : ¬ i < 0 := by omega
    go_enter Try.func111, Try.ntmps111
    go_wp2_with fail
    go_ret2
    exact ⟨rfl, Below.refl _ _⟩

set_option maxHeartbeats 400000 in
theorem cutU_yes (A : Option Addr) (n ca : Nat) (i : Int) (xs : List Value) (w : World) (hx : Rd w w.heap.size 1 A n xs) (h1 : ∀ u ∈ xs, u.oneCell' = true)
    (hn : n ≤ 1000000) (hca : n ≤ ca) (h0 : 0 ≤ i) (hi : i < n) :
    Calls Try.prog 91 #[.slice A n ca, .int .i64 i] w fun e w' => e = .returned (.tuple #[.slice (some ⟨w.heap.size, 0, none⟩) (n - 1) (n - 1), .bool true]) ∧ w'.heap[w.heap.size]? = some (.cells (xs.eraseIdx i.toNat).toArray 35 (0, 0)) ∧ Below w.heap.size w w' := by
  obtain ⟨k, rfl⟩ := Int.eq_ofNat_of_zero_le h0
  rw [Int.toNat_natCast]
  have hxl := hx.len1
  have hk : k < xs.length := by omega
  obtain ⟨m, hm⟩ : ∃ m, n = m + 1 := ⟨n - 1, by omega⟩
  subst hm
  have hsp := splice_cut (zrow m (.int .u64 0)) xs k (by rw [zrow_length]; omega) hk
  have hmk := joinU_make m (by omega)
  have hW := below_alloc w (.cells (zrow m (.int .u64 0)).toArray 35)
  have hg := heap_new w (zrow m (.int .u64 0)).toArray 35
  have hxW := hx.up hW
  have Hxy := Lib.hid (And.intro hxW (And.intro hW hg))
  have htk := Lib.hid (List.length_take_of_le (Nat.le_of_lt hk))
  have Hxl := Lib.hid hxl
  have Hsp := Lib.hid hsp
  have hkm : k ≤ m := by omega
  clear hxW hW hg h0 hi hxl hsp
  go_enter Try.func91, Try.ntmps91
  go_wp2_with (with_reducible refine wpList_copy_splice rfl (.tmp 19) (.tmp 22) 23 23 rfl 35 Try.underlying23 joinU_size (some ⟨w.heap.size, 0, none⟩) A m m k ca rfl rfl w.heap.size 0 (zrow m (.int .u64 0)) 35 Hxy.out.2.2 (xs.take k) (by rw [htk.out]; exact (Nat.min_eq_left (by omega)).symm) (fun hp => ⟨rfl, by have hh := (Hxy.out.1.first (k := k) (by omega)).src (by simpa using hp); simpa using hh⟩) (by rw [zrow_length, htk.out]; omega) (fun u hu => h1 u (List.mem_of_mem_take hu)) w.heap.size w Hxy.out.2.1 (Nat.le_refl _) ?_)
  intro w1 HG1 hb1
  have hl1 : (splice (zrow m (.int .u64 0)) 0 (xs.take k)).length = m := by rw [length_splice _ _ _ (by rw [zrow_length, htk.out]; omega), zrow_length]
  have hx1 : Rd w1 w1.heap.size 1 A (m + 1) xs := hx.up hb1
  generalize splice (zrow m (.int .u64 0)) 0 (xs.take k) = L at HG1 hl1 Hsp
  have HL := Lib.hid hl1
  clear hl1 Hxy hmk hx
  go_wp2_with fail
  have s1 : IntKind.i64.wrap ((k : Int) + 1) = (k : Int) + 1 := IntWalk.i64_in _ (by omega)
  have s2 : 0 ≤ (k : Int) + 1 ∧ (k : Int) + 1 ≤ (m : Int) + 1 := by omega
  have s3 : ((k : Int) + 1).toNat = k + 1 := by omega
  rcases (show k < m ∨ (k = m ∧ ca = m + 1) ∨ (k = m ∧ ca ≠ m + 1) from by omega) with hlt | ⟨rfl, rfl⟩ | ⟨rfl, hne⟩
  · have s4 : ¬ m = k := by omega
    have s5 : ¬ ca = k + 1 := by omega
    obtain ⟨b, off, rfl, hbB, hc⟩ := hx1.2 (by omega)
    have hcd : ∀ (j : Nat) (u : Value), (xs.drop (k + 1))[j]? = some u → w1.drew.cell? ((⟨b, off + (k + 1), none⟩ : Addr).add j) = some u := by
      intro j u hu
      rw [Addr.add_lit, Nat.add_assoc]
      exact hc (k + 1 + j) u (by rw [← hu, List.getElem?_drop])
    obtain ⟨w3, hcp, HG3, hb3⟩ := run_copy_any (P := Try.prog) (w := w1.drew) 23 23 3 35 Try.underlying23 joinU_size (some ⟨w.heap.size, k, none⟩) (some ⟨b, off + (k + 1), none⟩) (m - k) (m - k) (m - k) (ca - (k + 1)) w.heap.size k L 35 HG1.out (xs.drop (k + 1)) (by have := Hxl.out; simp; omega) (fun _ => ⟨rfl, _, rfl, hcd⟩) (by have := Hxl.out; rw [HL.out, List.length_drop]; omega) (fun u hu => h1 u (List.mem_of_mem_drop hu)) w.heap.size w hb1.drew (Nat.le_refl _)
    clear hc hx1 HG1 hb1 hcd
    go_region
    all_goals
      go_wp2_with fail
      go_ret2
      exact ⟨rfl, by rw [HG3.out, Hsp.out], hb3⟩
  all_goals
    have hcp := fun (d a : Option Addr) (dC sC : Nat) (W : World) => run_copy_none (P := Try.prog) W 23 23 3 35 d a 0 dC 0 sC Try.underlying23 joinU_size rfl
    have hfin : L = xs.eraseIdx k := by
      rw [← Hsp.out, List.drop_eq_nil_of_le (by have := Hxl.out; omega), splice_none]
    have Hfin := Lib.hid hfin
    clear hx1 hfin Hsp
    go_region
    all_goals
      go_wp2_with fail
      go_ret2
      exact ⟨rfl, by rw [← Hfin.out]; exact HG1.out, hb1.drew⟩

theorem cutU_no (A : Option Addr) (n ca : Nat) (i : Int) (w : World) (h : i < 0 ∨ (n : Int) ≤ i) :
    Calls Try.prog 91 #[.slice A n ca, .int .i64 i] w (Ret (.tuple #[.slice none 0 0, .bool false]) w) := by
  rcases h with h | h
  · go_enter Try.func91, Try.ntmps91
    go_wp2_with fail
    go_ret2
    exact ⟨rfl, Below.refl _ _⟩
  · have h' : ¬ i < 0 := by omega
    go_enter Try.func91, Try.ntmps91
    go_wp2_with fail
    go_ret2
    exact ⟨rfl, Below.refl _ _⟩

set_option maxHeartbeats 400000 in
theorem cutS_yes (A : Option Addr) (n ca : Nat) (i : Int) (xs : List Value) (w : World) (hx : Rd w w.heap.size 1 A n xs) (h1 : ∀ u ∈ xs, u.oneCell' = true)
    (hn : n ≤ 1000000) (hca : n ≤ ca) (h0 : 0 ≤ i) (hi : i < n) :
    Calls Try.prog 90 #[.slice A n ca, .int .i64 i] w fun e w' => e = .returned (.tuple #[.slice (some ⟨w.heap.size, 0, none⟩) (n - 1) (n - 1), .bool true]) ∧ w'.heap[w.heap.size]? = some (.cells (xs.eraseIdx i.toNat).toArray 9 (0, 0)) ∧ Below w.heap.size w w' := by
  obtain ⟨k, rfl⟩ := Int.eq_ofNat_of_zero_le h0
  rw [Int.toNat_natCast]
  have hxl := hx.len1
  have hk : k < xs.length := by omega
  obtain ⟨m, hm⟩ : ∃ m, n = m + 1 := ⟨n - 1, by omega⟩
  subst hm
  have hsp := splice_cut (zrow m (.string ByteArray.empty)) xs k (by rw [zrow_length]; omega) hk
  have hmk := joinS_make m (by omega)
  have hW := below_alloc w (.cells (zrow m (.string ByteArray.empty)).toArray 9)
  have hg := heap_new w (zrow m (.string ByteArray.empty)).toArray 9
  have hxW := hx.up hW
  have Hxy := Lib.hid (And.intro hxW (And.intro hW hg))
  have htk := Lib.hid (List.length_take_of_le (Nat.le_of_lt hk))
  have Hxl := Lib.hid hxl
  have Hsp := Lib.hid hsp
  have hkm : k ≤ m := by omega
  clear hxW hW hg h0 hi hxl hsp
  go_enter Try.func90, Try.ntmps90
  go_wp2_with (with_reducible refine wpList_copy_splice rfl (.tmp 19) (.tmp 22) 22 22 rfl 9 Try.underlying22 joinS_size (some ⟨w.heap.size, 0, none⟩) A m m k ca rfl rfl w.heap.size 0 (zrow m (.string ByteArray.empty)) 9 Hxy.out.2.2 (xs.take k) (by rw [htk.out]; exact (Nat.min_eq_left (by omega)).symm) (fun hp => ⟨rfl, by have hh := (Hxy.out.1.first (k := k) (by omega)).src (by simpa using hp); simpa using hh⟩) (by rw [zrow_length, htk.out]; omega) (fun u hu => h1 u (List.mem_of_mem_take hu)) w.heap.size w Hxy.out.2.1 (Nat.le_refl _) ?_)
  intro w1 HG1 hb1
  have hl1 : (splice (zrow m (.string ByteArray.empty)) 0 (xs.take k)).length = m := by rw [length_splice _ _ _ (by rw [zrow_length, htk.out]; omega), zrow_length]
  have hx1 : Rd w1 w1.heap.size 1 A (m + 1) xs := hx.up hb1
  generalize splice (zrow m (.string ByteArray.empty)) 0 (xs.take k) = L at HG1 hl1 Hsp
  have HL := Lib.hid hl1
  clear hl1 Hxy hmk hx
  go_wp2_with fail
  have s1 : IntKind.i64.wrap ((k : Int) + 1) = (k : Int) + 1 := IntWalk.i64_in _ (by omega)
  have s2 : 0 ≤ (k : Int) + 1 ∧ (k : Int) + 1 ≤ (m : Int) + 1 := by omega
  have s3 : ((k : Int) + 1).toNat = k + 1 := by omega
  rcases (show k < m ∨ (k = m ∧ ca = m + 1) ∨ (k = m ∧ ca ≠ m + 1) from by omega) with hlt | ⟨rfl, rfl⟩ | ⟨rfl, hne⟩
  · have s4 : ¬ m = k := by omega
    have s5 : ¬ ca = k + 1 := by omega
    obtain ⟨b, off, rfl, hbB, hc⟩ := hx1.2 (by omega)
    have hcd : ∀ (j : Nat) (u : Value), (xs.drop (k + 1))[j]? = some u → w1.drew.cell? ((⟨b, off + (k + 1), none⟩ : Addr).add j) = some u := by
      intro j u hu
      rw [Addr.add_lit, Nat.add_assoc]
      exact hc (k + 1 + j) u (by rw [← hu, List.getElem?_drop])
    obtain ⟨w3, hcp, HG3, hb3⟩ := run_copy_any (P := Try.prog) (w := w1.drew) 22 22 3 9 Try.underlying22 joinS_size (some ⟨w.heap.size, k, none⟩) (some ⟨b, off + (k + 1), none⟩) (m - k) (m - k) (m - k) (ca - (k + 1)) w.heap.size k L 9 HG1.out (xs.drop (k + 1)) (by have := Hxl.out; simp; omega) (fun _ => ⟨rfl, _, rfl, hcd⟩) (by have := Hxl.out; rw [HL.out, List.length_drop]; omega) (fun u hu => h1 u (List.mem_of_mem_drop hu)) w.heap.size w hb1.drew (Nat.le_refl _)
    clear hc hx1 HG1 hb1 hcd
    go_region
    all_goals
      go_wp2_with fail
      go_ret2
      exact ⟨rfl, by rw [HG3.out, Hsp.out], hb3⟩
  all_goals
    have hcp := fun (d a : Option Addr) (dC sC : Nat) (W : World) => run_copy_none (P := Try.prog) W 22 22 3 9 d a 0 dC 0 sC Try.underlying22 joinS_size rfl
    have hfin : L = xs.eraseIdx k := by
      rw [← Hsp.out, List.drop_eq_nil_of_le (by have := Hxl.out; omega), splice_none]
    have Hfin := Lib.hid hfin
    clear hx1 hfin Hsp
    go_region
    all_goals
      go_wp2_with fail
      go_ret2
      exact ⟨rfl, by rw [← Hfin.out]; exact HG1.out, hb1.drew⟩

theorem cutS_no (A : Option Addr) (n ca : Nat) (i : Int) (w : World) (h : i < 0 ∨ (n : Int) ≤ i) :
    Calls Try.prog 90 #[.slice A n ca, .int .i64 i] w (Ret (.tuple #[.slice none 0 0, .bool false]) w) := by
  rcases h with h | h
  · go_enter Try.func90, Try.ntmps90
    go_wp2_with fail
    go_ret2
    exact ⟨rfl, Below.refl _ _⟩
  · have h' : ¬ i < 0 := by omega
    go_enter Try.func90, Try.ntmps90
    go_wp2_with fail
    go_ret2
    exact ⟨rfl, Below.refl _ _⟩

set_option maxHeartbeats 400000 in
theorem partI_any (A : Option Addr) (n ca : Nat) (i j : Int) (xs : List Value) (w : World) (hx : Rd w w.heap.size 1 A n xs) (h1 : ∀ u ∈ xs, u.oneCell' = true)
    (hn : n ≤ 1000000) (hca : n ≤ ca) :
    Calls Try.prog 139 #[.slice A n ca, .int .i64 i, .int .i64 j] w fun e w' => ∃ A', e = .returned (.slice A' (part xs i j).length (part xs i j).length) ∧ Newly w w' 3 A' (part xs i j) ∧ Below w.heap.size w w' := by
  have hxl := hx.len1
  by_cases hlt : i.toNat < min j.toNat n
  · obtain ⟨f, t, hft, htn, hpl, hcs⟩ : ∃ f t : Nat, f < t ∧ t ≤ n ∧ part xs i j = (xs.drop f).take (t - f) ∧ ((i < 0 ∧ f = 0 ∨ 0 ≤ i ∧ i = f) ∧ ((n : Int) < j ∧ t = n ∨ j ≤ n ∧ j = t)) := by
      refine ⟨i.toNat, min j.toNat n, hlt, Nat.min_le_right _ _, ?_, by omega, by omega⟩
      unfold part
      by_cases hj : j.toNat ≤ n
      · rw [Nat.min_eq_left hj]
      · rw [Nat.min_eq_right (by omega), List.take_of_length_le (by simp; omega), List.take_of_length_le (by simp; omega)]
    have hplen : (part xs i j).length = t - f := by rw [hpl, List.length_take, List.length_drop]; omega
    have hcut : Rd w w.heap.size 1 (if ca = f then A else A.map (·.add (f * 1))) (t - f) (part xs i j) := by
      have := ((hx.first (k := t) htn).cut_ (k := f) (cap := ca) (by omega) (by omega))
      rw [hpl, List.take_drop]
      simpa [show t - f + f = t from by omega, show f + (t - f) = t from by omega] using this
    have hne : ¬ ca = f := by omega
    rw [if_neg hne] at hcut
    simp only [Nat.mul_one] at hcut
    obtain ⟨b, off, rfl, hbB, hc⟩ := hx.2 (by omega)
    have hcut' : Rd w w.heap.size 1 (some ⟨b, off + f, none⟩) (t - f) (part xs i j) := by simpa [Addr.add_lit] using hcut
    have h1' : ∀ u ∈ part xs i j, u.oneCell' = true := fun u hu => h1 u (List.mem_of_mem_drop (List.mem_of_mem_take hu))
    have Hcut := Lib.hid hcut'
    have Hplen := Lib.hid hplen
    clear hcut hcut' hpl hplen hx hc hxl hlt
    obtain ⟨ci, cj⟩ := hcs
    rcases ci with ⟨ci, rfl⟩ | ⟨ci, rfl⟩ <;> rcases cj with ⟨cj, rfl⟩ | ⟨cj, rfl⟩
    all_goals
      go_enter Try.func139, Try.ntmps139
      go_wp2_with fail
      refine (joinI_any _ none _ _ 0 0 (part xs _ _) [] _ (by simpa using Hcut.out) (Rd.nil _ _ _ _) h1' (by simp) (by omega) (by omega)).mono ?_
      rintro e w1 ⟨rfl, HG0, hb1⟩
      rw [List.append_nil] at HG0
      have HG1 := Lib.hid HG0
      clear HG0
      go_wp2_with fail
      go_ret
      exact ⟨_, ret_slice (by rw [Hplen.out]; try simp) (by rw [Hplen.out]; try simp), fun _ => ⟨rfl, HG1.out⟩, hb1⟩
  · have hnil : part xs i j = [] := by
      apply List.eq_nil_of_length_eq_zero
      unfold part
      rw [List.length_take, List.length_drop]; omega
    rw [hnil]
    clear hnil hxl hx
    rcases (show i < 0 ∨ 0 ≤ i from by omega) with ci | ci <;> rcases (show j ≤ n ∨ (n : Int) < j from by omega) with cj | cj
    all_goals
      go_enter Try.func139, Try.ntmps139
      go_wp2_with fail
      go_ret
      exact ⟨none, rfl, fun h => absurd h (Nat.lt_irrefl 0), Below.refl _ _⟩

set_option maxHeartbeats 400000 in
theorem partU_any (A : Option Addr) (n ca : Nat) (i j : Int) (xs : List Value) (w : World) (hx : Rd w w.heap.size 1 A n xs) (h1 : ∀ u ∈ xs, u.oneCell' = true)
    (hn : n ≤ 1000000) (hca : n ≤ ca) :
    Calls Try.prog 138 #[.slice A n ca, .int .i64 i, .int .i64 j] w fun e w' => ∃ A', e = .returned (.slice A' (part xs i j).length (part xs i j).length) ∧ Newly w w' 35 A' (part xs i j) ∧ Below w.heap.size w w' := by
  have hxl := hx.len1
  by_cases hlt : i.toNat < min j.toNat n
  · obtain ⟨f, t, hft, htn, hpl, hcs⟩ : ∃ f t : Nat, f < t ∧ t ≤ n ∧ part xs i j = (xs.drop f).take (t - f) ∧ ((i < 0 ∧ f = 0 ∨ 0 ≤ i ∧ i = f) ∧ ((n : Int) < j ∧ t = n ∨ j ≤ n ∧ j = t)) := by
      refine ⟨i.toNat, min j.toNat n, hlt, Nat.min_le_right _ _, ?_, by omega, by omega⟩
      unfold part
      by_cases hj : j.toNat ≤ n
      · rw [Nat.min_eq_left hj]
      · rw [Nat.min_eq_right (by omega), List.take_of_length_le (by simp; omega), List.take_of_length_le (by simp; omega)]
    have hplen : (part xs i j).length = t - f := by rw [hpl, List.length_take, List.length_drop]; omega
    have hcut : Rd w w.heap.size 1 (if ca = f then A else A.map (·.add (f * 1))) (t - f) (part xs i j) := by
      have := ((hx.first (k := t) htn).cut_ (k := f) (cap := ca) (by omega) (by omega))
      rw [hpl, List.take_drop]
      simpa [show t - f + f = t from by omega, show f + (t - f) = t from by omega] using this
    have hne : ¬ ca = f := by omega
    rw [if_neg hne] at hcut
    simp only [Nat.mul_one] at hcut
    obtain ⟨b, off, rfl, hbB, hc⟩ := hx.2 (by omega)
    have hcut' : Rd w w.heap.size 1 (some ⟨b, off + f, none⟩) (t - f) (part xs i j) := by simpa [Addr.add_lit] using hcut
    have h1' : ∀ u ∈ part xs i j, u.oneCell' = true := fun u hu => h1 u (List.mem_of_mem_drop (List.mem_of_mem_take hu))
    have Hcut := Lib.hid hcut'
    have Hplen := Lib.hid hplen
    clear hcut hcut' hpl hplen hx hc hxl hlt
    obtain ⟨ci, cj⟩ := hcs
    rcases ci with ⟨ci, rfl⟩ | ⟨ci, rfl⟩ <;> rcases cj with ⟨cj, rfl⟩ | ⟨cj, rfl⟩
    all_goals
      go_enter Try.func138, Try.ntmps138
      go_wp2_with fail
      refine (joinU_any _ none _ _ 0 0 (part xs _ _) [] _ (by simpa using Hcut.out) (Rd.nil _ _ _ _) h1' (by simp) (by omega) (by omega)).mono ?_
      rintro e w1 ⟨rfl, HG0, hb1⟩
      rw [List.append_nil] at HG0
      have HG1 := Lib.hid HG0
      clear HG0
      go_wp2_with fail
      go_ret
      exact ⟨_, ret_slice (by rw [Hplen.out]; try simp) (by rw [Hplen.out]; try simp), fun _ => ⟨rfl, HG1.out⟩, hb1⟩
  · have hnil : part xs i j = [] := by
      apply List.eq_nil_of_length_eq_zero
      unfold part
      rw [List.length_take, List.length_drop]; omega
    rw [hnil]
    clear hnil hxl hx
    rcases (show i < 0 ∨ 0 ≤ i from by omega) with ci | ci <;> rcases (show j ≤ n ∨ (n : Int) < j from by omega) with cj | cj
    all_goals
      go_enter Try.func138, Try.ntmps138
      go_wp2_with fail
      go_ret
      exact ⟨none, rfl, fun h => absurd h (Nat.lt_irrefl 0), Below.refl _ _⟩

set_option maxHeartbeats 400000 in
theorem partS_any (A : Option Addr) (n ca : Nat) (i j : Int) (xs : List Value) (w : World) (hx : Rd w w.heap.size 1 A n xs) (h1 : ∀ u ∈ xs, u.oneCell' = true)
    (hn : n ≤ 1000000) (hca : n ≤ ca) :
    Calls Try.prog 137 #[.slice A n ca, .int .i64 i, .int .i64 j] w fun e w' => ∃ A', e = .returned (.slice A' (part xs i j).length (part xs i j).length) ∧ Newly w w' 9 A' (part xs i j) ∧ Below w.heap.size w w' := by
  have hxl := hx.len1
  by_cases hlt : i.toNat < min j.toNat n
  · obtain ⟨f, t, hft, htn, hpl, hcs⟩ : ∃ f t : Nat, f < t ∧ t ≤ n ∧ part xs i j = (xs.drop f).take (t - f) ∧ ((i < 0 ∧ f = 0 ∨ 0 ≤ i ∧ i = f) ∧ ((n : Int) < j ∧ t = n ∨ j ≤ n ∧ j = t)) := by
      refine ⟨i.toNat, min j.toNat n, hlt, Nat.min_le_right _ _, ?_, by omega, by omega⟩
      unfold part
      by_cases hj : j.toNat ≤ n
      · rw [Nat.min_eq_left hj]
      · rw [Nat.min_eq_right (by omega), List.take_of_length_le (by simp; omega), List.take_of_length_le (by simp; omega)]
    have hplen : (part xs i j).length = t - f := by rw [hpl, List.length_take, List.length_drop]; omega
    have hcut : Rd w w.heap.size 1 (if ca = f then A else A.map (·.add (f * 1))) (t - f) (part xs i j) := by
      have := ((hx.first (k := t) htn).cut_ (k := f) (cap := ca) (by omega) (by omega))
      rw [hpl, List.take_drop]
      simpa [show t - f + f = t from by omega, show f + (t - f) = t from by omega] using this
    have hne : ¬ ca = f := by omega
    rw [if_neg hne] at hcut
    simp only [Nat.mul_one] at hcut
    obtain ⟨b, off, rfl, hbB, hc⟩ := hx.2 (by omega)
    have hcut' : Rd w w.heap.size 1 (some ⟨b, off + f, none⟩) (t - f) (part xs i j) := by simpa [Addr.add_lit] using hcut
    have h1' : ∀ u ∈ part xs i j, u.oneCell' = true := fun u hu => h1 u (List.mem_of_mem_drop (List.mem_of_mem_take hu))
    have Hcut := Lib.hid hcut'
    have Hplen := Lib.hid hplen
    clear hcut hcut' hpl hplen hx hc hxl hlt
    obtain ⟨ci, cj⟩ := hcs
    rcases ci with ⟨ci, rfl⟩ | ⟨ci, rfl⟩ <;> rcases cj with ⟨cj, rfl⟩ | ⟨cj, rfl⟩
    all_goals
      go_enter Try.func137, Try.ntmps137
      go_wp2_with fail
      refine (joinS_any _ none _ _ 0 0 (part xs _ _) [] _ (by simpa using Hcut.out) (Rd.nil _ _ _ _) h1' (by simp) (by omega) (by omega)).mono ?_
      rintro e w1 ⟨rfl, HG0, hb1⟩
      rw [List.append_nil] at HG0
      have HG1 := Lib.hid HG0
      clear HG0
      go_wp2_with fail
      go_ret
      exact ⟨_, ret_slice (by rw [Hplen.out]; try simp) (by rw [Hplen.out]; try simp), fun _ => ⟨rfl, HG1.out⟩, hb1⟩
  · have hnil : part xs i j = [] := by
      apply List.eq_nil_of_length_eq_zero
      unfold part
      rw [List.length_take, List.length_drop]; omega
    rw [hnil]
    clear hnil hxl hx
    rcases (show i < 0 ∨ 0 ≤ i from by omega) with ci | ci <;> rcases (show j ≤ n ∨ (n : Int) < j from by omega) with cj | cj
    all_goals
      go_enter Try.func137, Try.ntmps137
      go_wp2_with fail
      go_ret
      exact ⟨none, rfl, fun h => absurd h (Nat.lt_irrefl 0), Below.refl _ _⟩

end Go.Proofs.Ytcoiadncennhpaa
