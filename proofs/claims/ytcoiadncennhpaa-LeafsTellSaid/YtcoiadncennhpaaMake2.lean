/- Contracts of package sorted: a row with one more. -/
import Derived.Test.YtcoiadncennhpaaMake
import Derived.Deep.RegionLaw
namespace Go.Proofs.Ytcoiadncennhpaa
open Go.RowKit

theorem heap_set {w : World} {g : Nat} {cs : List Value} {E : TypeId} {fr : Nat × Nat} (h : w.heap[g]? = some (.cells cs.toArray E fr)) (k : Nat) (u : Value) :
    (w.setCell ⟨g, k, none⟩ u).heap[g]? = some (.cells (cs.set k u).toArray E fr) := by
  simp [World.setCell, Array.getElem?_modify, h]
theorem heap_cell {w : World} {g : Nat} {cs : List Value} {E : TypeId} {fr : Nat × Nat} (h : w.heap[g]? = some (.cells cs.toArray E fr)) (k : Nat) (hk : k < cs.length) : w.cell? ⟨g, k, none⟩ = some cs[k] := by
  rw [cell_of_row w g k _ _ _ h]; simp [hk]
theorem heap_frozen {w : World} {g : Nat} {cs : Array Value} {E : TypeId} (h : w.heap[g]? = some (.cells cs E (0, 0))) (k : Nat) : w.frozen? ⟨g, k, none⟩ = false := by
  simp [World.frozen?, h]

/-- 'copy' run in any world: as many cells as the shorter of the two has go over. -/
theorem run_copy_any {P : Program} {w : World} (dT sT T0 elem : TypeId) (hu : P.underlying dT = some (.slice elem)) (hsz : (P.info? elem).map (·.size) = some 1)
    (dp sp : Option Addr) (dLen dCap sLen sCap : Nat) (g off : Nat) (cur : List Value) (t : TypeId) (hg : w.heap[g]? = some (.cells cur.toArray t (0, 0))) (cs : List Value) (hn : cs.length = Nat.min sLen dLen)
    (hpos : 0 < cs.length → dp = some ⟨g, off, none⟩ ∧ ∃ ad, sp = some ad ∧ ∀ (j : Nat) (v : Value), cs[j]? = some v → w.cell? (ad.add j) = some v)
    (hfit : off + cs.length ≤ cur.length) (h1 : ∀ v ∈ cs, v.oneCell' = true) (B : Nat) (w0 : World) (hb : Below B w0 w) (hBg : B ≤ g) :
    ∃ w', (Builtin.copy_ #[dT, sT] T0 #[.slice dp dLen dCap, .slice sp sLen sCap]).run P w = .ok (.int .i64 cs.length) w' ∧ Hid (w'.heap[g]? = some (.cells (splice cur off cs).toArray t (0, 0))) ∧ Below B w0 w' := by
  by_cases h0 : cs.length = 0
  · obtain rfl : cs = [] := List.eq_nil_of_length_eq_zero h0
    exact ⟨w, run_copy_none (P := P) w dT sT T0 elem dp sp dLen dCap sLen sCap hu hsz (by simpa using hn.symm), show _ = _ by simpa [splice] using hg, hb⟩
  · obtain ⟨rfl, ad, rfl, hsrc⟩ := hpos (by omega)
    exact ⟨_, run_copy_row (P := P) w dT sT T0 elem g off dLen dCap ad sLen sCap cur.toArray t cs hu hsz hg hn hsrc (by simpa using hfit) h1, show _ = _ by simpa [splice] using setRow_heap w g _ _ t _ hg, below_setRow hb hBg _⟩

theorem splice_none {α : Type} (L : List α) (off : Nat) : splice L off [] = L := by simp [splice]

/-- A row with one more at k. -/
def ins {α : Type} (xs : List α) (k : Nat) (x : α) : List α := xs.take k ++ x :: xs.drop k
theorem ins_length {α : Type} (xs : List α) (k : Nat) (x : α) (h : k ≤ xs.length) : (ins xs k x).length = xs.length + 1 := by simp [ins]; omega
theorem splice_ins {α : Type} (Z xs : List α) (k : Nat) (x : α) (h : Z.length = xs.length + 1) (hk : k ≤ xs.length) : splice ((splice Z 0 (xs.take k)).set k x) (k + 1) (xs.drop k) = ins xs k x := by
  have hz : splice Z 0 (xs.take k) = xs.take k ++ Z.drop k := by simp [splice, Nat.min_eq_left hk]
  rw [hz]
  obtain ⟨z, tl, hd⟩ : ∃ z tl, Z.drop k = z :: tl := by
    match hd : Z.drop k with
    | [] => have := congrArg List.length hd; simp at this; omega
    | z :: tl => exact ⟨z, tl, rfl⟩
  have htl : tl.length = xs.length - k := by have := congrArg List.length hd; simp at this; omega
  rw [hd]
  have hlen : (xs.take k).length = k := by simp [Nat.min_eq_left hk]
  have e1 : (xs.take k ++ z :: tl).set k x = xs.take k ++ x :: tl := by
    rw [List.set_append_right _ _ (by omega), hlen, Nat.sub_self, List.set_cons_zero]
  rw [e1, splice, ins]
  have e2 : (xs.take k ++ x :: tl).take (k + 1) = xs.take k ++ [x] := by
    rw [List.take_append, hlen, show k + 1 - k = 1 from by omega, List.take_of_length_le (by omega)]; rfl
  have e3 : (xs.take k ++ x :: tl).drop (k + 1 + (xs.drop k).length) = [] := by
    apply List.drop_eq_nil_of_le; simp [htl]; omega
  rw [e2, e3]; simp

set_option maxHeartbeats 400000 in
theorem addI_yes (A : Option Addr) (n ca : Nat) (i : Int) (y : Int) (xs : List Value) (w : World) (hx : Rd w w.heap.size 1 A n xs) (h1 : ∀ u ∈ xs, u.oneCell' = true) 
    (hn : n ≤ 1000000) (hca : n ≤ ca) (h0 : 0 ≤ i) (hi : i ≤ n) :
    Calls Try.prog 109 #[.slice A n ca, .int .i64 i, .int .i64 y] w fun e w' => e = .returned (.tuple #[.slice (some ⟨w.heap.size, 0, none⟩) (n + 1) (n + 1), .bool true]) ∧ w'.heap[w.heap.size]? = some (.cells (ins xs i.toNat (.int .i64 y)).toArray 3 (0, 0)) ∧ Below w.heap.size w w' := by
  obtain ⟨k, rfl⟩ := Int.eq_ofNat_of_zero_le h0
  rw [Int.toNat_natCast]
  obtain rfl := hx.len1
  have hk : k ≤ xs.length := by omega
  have hmk := joinI_make (xs.length + 1) (by omega)
  simp only [Int.natCast_add, Int.natCast_one] at hmk
  have hW := below_alloc w (.cells (zrow (xs.length + 1) (.int .i64 0)).toArray 3)
  have hg := heap_new w (zrow (xs.length + 1) (.int .i64 0)).toArray 3
  have hxW := hx.up hW
  have Hxy := Lib.hid (And.intro hxW (And.intro hW hg))
  have htk := Lib.hid (List.length_take_of_le hk)
  clear hxW hW hg h0 hi
  go_enter Try.func109, Try.ntmps109
  go_wp2_with (with_reducible refine wpList_copy_splice rfl (.tmp 21) (.tmp 24) 24 24 rfl 3 Try.underlying24 joinI_size (some ⟨w.heap.size, 0, none⟩) A (xs.length + 1) (xs.length + 1) k ca rfl rfl w.heap.size 0 (zrow (xs.length + 1) (.int .i64 0)) 3 Hxy.out.2.2 (xs.take k) (by rw [htk.out]; exact (Nat.min_eq_left (by omega)).symm) (fun hp => ⟨rfl, by have hh := (Hxy.out.1.first hk).src (by simpa using hp); simpa using hh⟩) (by rw [zrow_length, htk.out]; omega) (fun u hu => h1 u (List.mem_of_mem_take hu)) w.heap.size w Hxy.out.2.1 (Nat.le_refl _) ?_)
  intro w1 HG1 hb1
  have hl1 : (splice (zrow (xs.length + 1) (.int .i64 0)) 0 (xs.take k)).length = xs.length + 1 := by rw [length_splice _ _ _ (by rw [zrow_length, htk.out]; omega), zrow_length]
  have Hl1 := Lib.hid hl1
  have hx1 : Rd w1 w1.heap.size 1 A xs.length xs := hx.up hb1
  have hs1 : w.heap.size < w1.heap.size := (Array.getElem?_eq_some_iff.1 HG1.out).1
  obtain ⟨L, eL⟩ : ∃ L, L = splice (zrow (xs.length + 1) (.int .i64 0)) 0 (xs.take k) := ⟨_, rfl⟩
  rw [← eL] at HG1 hl1
  have EL := Lib.hid eL
  clear eL Hl1 Hxy hmk
  have HL := Lib.hid hl1
  clear hl1
  obtain ⟨old, hck⟩ : ∃ old, w1.cell? ⟨w.heap.size, k, none⟩ = some old := ⟨_, heap_cell HG1.out k (by rw [HL.out]; omega)⟩
  have hfk : w1.frozen? ⟨w.heap.size, k, none⟩ = false := heap_frozen HG1.out k
  go_wp2_with fail
  have HG2 := Lib.hid (heap_set HG1.out k (.int .i64 y))
  have hb2 : Below w.heap.size w (w1.setCell ⟨w.heap.size, k, none⟩ (.int .i64 y)) := hb1.setCell (Nat.le_refl _) _
  have hx2 : Rd (w1.setCell ⟨w.heap.size, k, none⟩ (.int .i64 y)) (w1.setCell ⟨w.heap.size, k, none⟩ (.int .i64 y)).heap.size 1 A xs.length xs := hx.up hb2
  generalize w1.setCell ⟨w.heap.size, k, none⟩ (.int .i64 y) = w2 at HG2 hb2 hx2 ⊢
  clear hck hfk HG1 hb1 hx1 hs1
  rcases (show k < xs.length ∨ (k = xs.length ∧ ca = xs.length) ∨ (k = xs.length ∧ ca ≠ xs.length) from by omega) with hlt | ⟨rfl, rfl⟩ | ⟨rfl, hne⟩
  · have s1 : IntKind.i64.wrap ((k : Int) + 1) = (k : Int) + 1 := IntWalk.i64_in _ (by omega)
    have s2 : 0 ≤ (k : Int) + 1 ∧ (k : Int) + 1 ≤ (xs.length : Int) + 1 := by omega
    have s3 : ((k : Int) + 1).toNat = k + 1 := by omega
    have s4 : ¬ xs.length = k := by omega
    have s5 : ¬ ca = k := by omega
    obtain ⟨b, off, rfl, hbB, hc⟩ := hx2.2 (by omega)
    have hcd : ∀ (j : Nat) (u : Value), (xs.drop k)[j]? = some u → w2.drew.cell? ((⟨b, off + k, none⟩ : Addr).add j) = some u := by
      intro j u hu
      rw [Addr.add_lit, Nat.add_assoc]
      exact hc (k + j) u (by rw [← hu, List.getElem?_drop])
    obtain ⟨w3, hcp, HG3, hb3⟩ := run_copy_any (P := Try.prog) (w := w2.drew) 24 24 3 3 Try.underlying24 joinI_size (some ⟨w.heap.size, k + 1, none⟩) (some ⟨b, off + k, none⟩) (xs.length - k) (xs.length - k) (xs.length - k) (ca - k) w.heap.size (k + 1) (L.set k (.int .i64 y)) 3 HG2.out (xs.drop k) (by simp) (fun _ => ⟨rfl, _, rfl, hcd⟩) (by rw [List.length_set, HL.out, List.length_drop]; omega) (fun u hu => h1 u (List.mem_of_mem_drop hu)) w.heap.size w hb2.drew (Nat.le_refl _)
    clear hc hx2 hx HG2 hb2 hcd
    go_region
    all_goals
      go_wp2_with fail
      go_ret2
      exact ⟨rfl, by rw [HG3.out, EL.out, splice_ins _ _ _ _ (zrow_length _ _) hk], hb3⟩
  all_goals
    have hcp := fun (d a : Option Addr) (dC sC : Nat) (W : World) => run_copy_none (P := Try.prog) W 24 24 3 3 d a 0 dC 0 sC Try.underlying24 joinI_size rfl
    have s1 : IntKind.i64.wrap ((xs.length : Int) + 1) = (xs.length : Int) + 1 := IntWalk.i64_in _ (by omega)
    have s2 : 0 ≤ (xs.length : Int) + 1 := by omega
    have s3 : ((xs.length : Int) + 1).toNat = xs.length + 1 := by omega
    have hfin : ins xs xs.length (.int .i64 y) = L.set xs.length (.int .i64 y) := by
      rw [← splice_ins (zrow (xs.length + 1) (.int .i64 0)) xs xs.length (.int .i64 y) (zrow_length _ _) (Nat.le_refl _), ← EL.out, List.drop_length, splice_none]
    have Hfin := Lib.hid hfin
    clear hx2 hx hfin
    go_region
    all_goals
      go_wp2_with fail
      go_ret2
      exact ⟨rfl, by rw [Hfin.out]; exact HG2.out, hb2.drew⟩

theorem addI_no (A : Option Addr) (n ca : Nat) (i : Int) (y : Int) (w : World) (h : i < 0 ∨ (n : Int) < i) :
    Calls Try.prog 109 #[.slice A n ca, .int .i64 i, .int .i64 y] w (Ret (.tuple #[.slice none 0 0, .bool false]) w) := by
  rcases h with h | h
  · go_enter Try.func109, Try.ntmps109
    go_wp2_with fail
    go_ret2
    exact ⟨rfl, Below.refl _ _⟩
  · have h' : ¬ i < 0 := by omega
    go_enter Try.func109, Try.ntmps109
    go_wp2_with fail
    go_ret2
    exact ⟨rfl, Below.refl _ _⟩

set_option maxHeartbeats 400000 in
theorem addU_yes (A : Option Addr) (n ca : Nat) (i : Int) (y : Int) (xs : List Value) (w : World) (hx : Rd w w.heap.size 1 A n xs) (h1 : ∀ u ∈ xs, u.oneCell' = true) 
    (hn : n ≤ 1000000) (hca : n ≤ ca) (h0 : 0 ≤ i) (hi : i ≤ n) :
    Calls Try.prog 87 #[.slice A n ca, .int .i64 i, .int .u64 y] w fun e w' => e = .returned (.tuple #[.slice (some ⟨w.heap.size, 0, none⟩) (n + 1) (n + 1), .bool true]) ∧ w'.heap[w.heap.size]? = some (.cells (ins xs i.toNat (.int .u64 y)).toArray 35 (0, 0)) ∧ Below w.heap.size w w' := by
  obtain ⟨k, rfl⟩ := Int.eq_ofNat_of_zero_le h0
  rw [Int.toNat_natCast]
  obtain rfl := hx.len1
  have hk : k ≤ xs.length := by omega
  have hmk := joinU_make (xs.length + 1) (by omega)
  simp only [Int.natCast_add, Int.natCast_one] at hmk
  have hW := below_alloc w (.cells (zrow (xs.length + 1) (.int .u64 0)).toArray 35)
  have hg := heap_new w (zrow (xs.length + 1) (.int .u64 0)).toArray 35
  have hxW := hx.up hW
  have Hxy := Lib.hid (And.intro hxW (And.intro hW hg))
  have htk := Lib.hid (List.length_take_of_le hk)
  clear hxW hW hg h0 hi
  go_enter Try.func87, Try.ntmps87
  go_wp2_with (with_reducible refine wpList_copy_splice rfl (.tmp 21) (.tmp 24) 23 23 rfl 35 Try.underlying23 joinU_size (some ⟨w.heap.size, 0, none⟩) A (xs.length + 1) (xs.length + 1) k ca rfl rfl w.heap.size 0 (zrow (xs.length + 1) (.int .u64 0)) 35 Hxy.out.2.2 (xs.take k) (by rw [htk.out]; exact (Nat.min_eq_left (by omega)).symm) (fun hp => ⟨rfl, by have hh := (Hxy.out.1.first hk).src (by simpa using hp); simpa using hh⟩) (by rw [zrow_length, htk.out]; omega) (fun u hu => h1 u (List.mem_of_mem_take hu)) w.heap.size w Hxy.out.2.1 (Nat.le_refl _) ?_)
  intro w1 HG1 hb1
  have hl1 : (splice (zrow (xs.length + 1) (.int .u64 0)) 0 (xs.take k)).length = xs.length + 1 := by rw [length_splice _ _ _ (by rw [zrow_length, htk.out]; omega), zrow_length]
  have Hl1 := Lib.hid hl1
  have hx1 : Rd w1 w1.heap.size 1 A xs.length xs := hx.up hb1
  have hs1 : w.heap.size < w1.heap.size := (Array.getElem?_eq_some_iff.1 HG1.out).1
  obtain ⟨L, eL⟩ : ∃ L, L = splice (zrow (xs.length + 1) (.int .u64 0)) 0 (xs.take k) := ⟨_, rfl⟩
  rw [← eL] at HG1 hl1
  have EL := Lib.hid eL
  clear eL Hl1 Hxy hmk
  have HL := Lib.hid hl1
  clear hl1
  obtain ⟨old, hck⟩ : ∃ old, w1.cell? ⟨w.heap.size, k, none⟩ = some old := ⟨_, heap_cell HG1.out k (by rw [HL.out]; omega)⟩
  have hfk : w1.frozen? ⟨w.heap.size, k, none⟩ = false := heap_frozen HG1.out k
  go_wp2_with fail
  have HG2 := Lib.hid (heap_set HG1.out k (.int .u64 y))
  have hb2 : Below w.heap.size w (w1.setCell ⟨w.heap.size, k, none⟩ (.int .u64 y)) := hb1.setCell (Nat.le_refl _) _
  have hx2 : Rd (w1.setCell ⟨w.heap.size, k, none⟩ (.int .u64 y)) (w1.setCell ⟨w.heap.size, k, none⟩ (.int .u64 y)).heap.size 1 A xs.length xs := hx.up hb2
  generalize w1.setCell ⟨w.heap.size, k, none⟩ (.int .u64 y) = w2 at HG2 hb2 hx2 ⊢
  clear hck hfk HG1 hb1 hx1 hs1
  rcases (show k < xs.length ∨ (k = xs.length ∧ ca = xs.length) ∨ (k = xs.length ∧ ca ≠ xs.length) from by omega) with hlt | ⟨rfl, rfl⟩ | ⟨rfl, hne⟩
  · have s1 : IntKind.i64.wrap ((k : Int) + 1) = (k : Int) + 1 := IntWalk.i64_in _ (by omega)
    have s2 : 0 ≤ (k : Int) + 1 ∧ (k : Int) + 1 ≤ (xs.length : Int) + 1 := by omega
    have s3 : ((k : Int) + 1).toNat = k + 1 := by omega
    have s4 : ¬ xs.length = k := by omega
    have s5 : ¬ ca = k := by omega
    obtain ⟨b, off, rfl, hbB, hc⟩ := hx2.2 (by omega)
    have hcd : ∀ (j : Nat) (u : Value), (xs.drop k)[j]? = some u → w2.drew.cell? ((⟨b, off + k, none⟩ : Addr).add j) = some u := by
      intro j u hu
      rw [Addr.add_lit, Nat.add_assoc]
      exact hc (k + j) u (by rw [← hu, List.getElem?_drop])
    obtain ⟨w3, hcp, HG3, hb3⟩ := run_copy_any (P := Try.prog) (w := w2.drew) 23 23 3 35 Try.underlying23 joinU_size (some ⟨w.heap.size, k + 1, none⟩) (some ⟨b, off + k, none⟩) (xs.length - k) (xs.length - k) (xs.length - k) (ca - k) w.heap.size (k + 1) (L.set k (.int .u64 y)) 35 HG2.out (xs.drop k) (by simp) (fun _ => ⟨rfl, _, rfl, hcd⟩) (by rw [List.length_set, HL.out, List.length_drop]; omega) (fun u hu => h1 u (List.mem_of_mem_drop hu)) w.heap.size w hb2.drew (Nat.le_refl _)
    clear hc hx2 hx HG2 hb2 hcd
    go_region
    all_goals
      go_wp2_with fail
      go_ret2
      exact ⟨rfl, by rw [HG3.out, EL.out, splice_ins _ _ _ _ (zrow_length _ _) hk], hb3⟩
  all_goals
    have hcp := fun (d a : Option Addr) (dC sC : Nat) (W : World) => run_copy_none (P := Try.prog) W 23 23 3 35 d a 0 dC 0 sC Try.underlying23 joinU_size rfl
    have s1 : IntKind.i64.wrap ((xs.length : Int) + 1) = (xs.length : Int) + 1 := IntWalk.i64_in _ (by omega)
    have s2 : 0 ≤ (xs.length : Int) + 1 := by omega
    have s3 : ((xs.length : Int) + 1).toNat = xs.length + 1 := by omega
    have hfin : ins xs xs.length (.int .u64 y) = L.set xs.length (.int .u64 y) := by
      rw [← splice_ins (zrow (xs.length + 1) (.int .u64 0)) xs xs.length (.int .u64 y) (zrow_length _ _) (Nat.le_refl _), ← EL.out, List.drop_length, splice_none]
    have Hfin := Lib.hid hfin
    clear hx2 hx hfin
    go_region
    all_goals
      go_wp2_with fail
      go_ret2
      exact ⟨rfl, by rw [Hfin.out]; exact HG2.out, hb2.drew⟩

theorem addU_no (A : Option Addr) (n ca : Nat) (i : Int) (y : Int) (w : World) (h : i < 0 ∨ (n : Int) < i) :
    Calls Try.prog 87 #[.slice A n ca, .int .i64 i, .int .u64 y] w (Ret (.tuple #[.slice none 0 0, .bool false]) w) := by
  rcases h with h | h
  · go_enter Try.func87, Try.ntmps87
    go_wp2_with fail
    go_ret2
    exact ⟨rfl, Below.refl _ _⟩
  · have h' : ¬ i < 0 := by omega
    go_enter Try.func87, Try.ntmps87
    go_wp2_with fail
    go_ret2
    exact ⟨rfl, Below.refl _ _⟩

set_option maxHeartbeats 400000 in
theorem addS_yes (A : Option Addr) (n ca : Nat) (i : Int) (y : ByteArray) (xs : List Value) (w : World) (hx : Rd w w.heap.size 1 A n xs) (h1 : ∀ u ∈ xs, u.oneCell' = true) 
    (hn : n ≤ 1000000) (hca : n ≤ ca) (h0 : 0 ≤ i) (hi : i ≤ n) :
    Calls Try.prog 86 #[.slice A n ca, .int .i64 i, .string y] w fun e w' => e = .returned (.tuple #[.slice (some ⟨w.heap.size, 0, none⟩) (n + 1) (n + 1), .bool true]) ∧ w'.heap[w.heap.size]? = some (.cells (ins xs i.toNat (.string y)).toArray 9 (0, 0)) ∧ Below w.heap.size w w' := by
  obtain ⟨k, rfl⟩ := Int.eq_ofNat_of_zero_le h0
  rw [Int.toNat_natCast]
  obtain rfl := hx.len1
  have hk : k ≤ xs.length := by omega
  have hmk := joinS_make (xs.length + 1) (by omega)
  simp only [Int.natCast_add, Int.natCast_one] at hmk
  have hW := below_alloc w (.cells (zrow (xs.length + 1) (.string ByteArray.empty)).toArray 9)
  have hg := heap_new w (zrow (xs.length + 1) (.string ByteArray.empty)).toArray 9
  have hxW := hx.up hW
  have Hxy := Lib.hid (And.intro hxW (And.intro hW hg))
  have htk := Lib.hid (List.length_take_of_le hk)
  clear hxW hW hg h0 hi
  go_enter Try.func86, Try.ntmps86
  go_wp2_with (with_reducible refine wpList_copy_splice rfl (.tmp 21) (.tmp 24) 22 22 rfl 9 Try.underlying22 joinS_size (some ⟨w.heap.size, 0, none⟩) A (xs.length + 1) (xs.length + 1) k ca rfl rfl w.heap.size 0 (zrow (xs.length + 1) (.string ByteArray.empty)) 9 Hxy.out.2.2 (xs.take k) (by rw [htk.out]; exact (Nat.min_eq_left (by omega)).symm) (fun hp => ⟨rfl, by have hh := (Hxy.out.1.first hk).src (by simpa using hp); simpa using hh⟩) (by rw [zrow_length, htk.out]; omega) (fun u hu => h1 u (List.mem_of_mem_take hu)) w.heap.size w Hxy.out.2.1 (Nat.le_refl _) ?_)
  intro w1 HG1 hb1
  have hl1 : (splice (zrow (xs.length + 1) (.string ByteArray.empty)) 0 (xs.take k)).length = xs.length + 1 := by rw [length_splice _ _ _ (by rw [zrow_length, htk.out]; omega), zrow_length]
  have Hl1 := Lib.hid hl1
  have hx1 : Rd w1 w1.heap.size 1 A xs.length xs := hx.up hb1
  have hs1 : w.heap.size < w1.heap.size := (Array.getElem?_eq_some_iff.1 HG1.out).1
  obtain ⟨L, eL⟩ : ∃ L, L = splice (zrow (xs.length + 1) (.string ByteArray.empty)) 0 (xs.take k) := ⟨_, rfl⟩
  rw [← eL] at HG1 hl1
  have EL := Lib.hid eL
  clear eL Hl1 Hxy hmk
  have HL := Lib.hid hl1
  clear hl1
  obtain ⟨old, hck⟩ : ∃ old, w1.cell? ⟨w.heap.size, k, none⟩ = some old := ⟨_, heap_cell HG1.out k (by rw [HL.out]; omega)⟩
  have hfk : w1.frozen? ⟨w.heap.size, k, none⟩ = false := heap_frozen HG1.out k
  go_wp2_with fail
  have HG2 := Lib.hid (heap_set HG1.out k (.string y))
  have hb2 : Below w.heap.size w (w1.setCell ⟨w.heap.size, k, none⟩ (.string y)) := hb1.setCell (Nat.le_refl _) _
  have hx2 : Rd (w1.setCell ⟨w.heap.size, k, none⟩ (.string y)) (w1.setCell ⟨w.heap.size, k, none⟩ (.string y)).heap.size 1 A xs.length xs := hx.up hb2
  generalize w1.setCell ⟨w.heap.size, k, none⟩ (.string y) = w2 at HG2 hb2 hx2 ⊢
  clear hck hfk HG1 hb1 hx1 hs1
  rcases (show k < xs.length ∨ (k = xs.length ∧ ca = xs.length) ∨ (k = xs.length ∧ ca ≠ xs.length) from by omega) with hlt | ⟨rfl, rfl⟩ | ⟨rfl, hne⟩
  · have s1 : IntKind.i64.wrap ((k : Int) + 1) = (k : Int) + 1 := IntWalk.i64_in _ (by omega)
    have s2 : 0 ≤ (k : Int) + 1 ∧ (k : Int) + 1 ≤ (xs.length : Int) + 1 := by omega
    have s3 : ((k : Int) + 1).toNat = k + 1 := by omega
    have s4 : ¬ xs.length = k := by omega
    have s5 : ¬ ca = k := by omega
    obtain ⟨b, off, rfl, hbB, hc⟩ := hx2.2 (by omega)
    have hcd : ∀ (j : Nat) (u : Value), (xs.drop k)[j]? = some u → w2.drew.cell? ((⟨b, off + k, none⟩ : Addr).add j) = some u := by
      intro j u hu
      rw [Addr.add_lit, Nat.add_assoc]
      exact hc (k + j) u (by rw [← hu, List.getElem?_drop])
    obtain ⟨w3, hcp, HG3, hb3⟩ := run_copy_any (P := Try.prog) (w := w2.drew) 22 22 3 9 Try.underlying22 joinS_size (some ⟨w.heap.size, k + 1, none⟩) (some ⟨b, off + k, none⟩) (xs.length - k) (xs.length - k) (xs.length - k) (ca - k) w.heap.size (k + 1) (L.set k (.string y)) 9 HG2.out (xs.drop k) (by simp) (fun _ => ⟨rfl, _, rfl, hcd⟩) (by rw [List.length_set, HL.out, List.length_drop]; omega) (fun u hu => h1 u (List.mem_of_mem_drop hu)) w.heap.size w hb2.drew (Nat.le_refl _)
    clear hc hx2 hx HG2 hb2 hcd
    go_region
    all_goals
      go_wp2_with fail
      go_ret2
      exact ⟨rfl, by rw [HG3.out, EL.out, splice_ins _ _ _ _ (zrow_length _ _) hk], hb3⟩
  all_goals
    have hcp := fun (d a : Option Addr) (dC sC : Nat) (W : World) => run_copy_none (P := Try.prog) W 22 22 3 9 d a 0 dC 0 sC Try.underlying22 joinS_size rfl
    have s1 : IntKind.i64.wrap ((xs.length : Int) + 1) = (xs.length : Int) + 1 := IntWalk.i64_in _ (by omega)
    have s2 : 0 ≤ (xs.length : Int) + 1 := by omega
    have s3 : ((xs.length : Int) + 1).toNat = xs.length + 1 := by omega
    have hfin : ins xs xs.length (.string y) = L.set xs.length (.string y) := by
      rw [← splice_ins (zrow (xs.length + 1) (.string ByteArray.empty)) xs xs.length (.string y) (zrow_length _ _) (Nat.le_refl _), ← EL.out, List.drop_length, splice_none]
    have Hfin := Lib.hid hfin
    clear hx2 hx hfin
    go_region
    all_goals
      go_wp2_with fail
      go_ret2
      exact ⟨rfl, by rw [Hfin.out]; exact HG2.out, hb2.drew⟩

theorem addS_no (A : Option Addr) (n ca : Nat) (i : Int) (y : ByteArray) (w : World) (h : i < 0 ∨ (n : Int) < i) :
    Calls Try.prog 86 #[.slice A n ca, .int .i64 i, .string y] w (Ret (.tuple #[.slice none 0 0, .bool false]) w) := by
  rcases h with h | h
  · go_enter Try.func86, Try.ntmps86
    go_wp2_with fail
    go_ret2
    exact ⟨rfl, Below.refl _ _⟩
  · have h' : ¬ i < 0 := by omega
    go_enter Try.func86, Try.ntmps86
    go_wp2_with fail
    go_ret2
    exact ⟨rfl, Below.refl _ _⟩

end Go.Proofs.Ytcoiadncennhpaa
