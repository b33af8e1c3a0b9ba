/- Package book on no map; the example of chapter 18. -/
import Derived.Test.YtggjlnjpokdfpaaBook4
namespace Go.Proofs.Ytggjlnjpokdfpaa
open Go.RowKit

set_option maxRecDepth 100000 in
set_option maxHeartbeats 4000000 in
theorem bkall_nil (A : Option Addr) (c : Nat) (xs : List OpD) (w : World) (hx : Opl w A xs) (hl : xs.length ≤ 900) :
    Calls Try.prog 62 #[.pointer none, .slice A xs.length c] w (fun e w' => ∃ As cs, e = .returned (.slice As xs.length cs) ∧ Below w.heap.size w w') := by
  have HX := Lib.hid hx
  have HO := Lib.hid ((Ow.start (Sx.start0 w)).nil 87 4)
  clear hx
  go_enter Try.func62, Try.ntmps62
  go_wp2_with fail
  go_loopw [4, 5, 8] (fun v _ i wr => ∃ (j : Nat) (As : Option Addr) (cs : Nat) (ys : List Value), i = .int .i64 j ∧ v = .slice As j cs ∧ Hid (j ≤ xs.length ∧ Ow w.heap.size w wr [] [⟨87, 4, .slice As j cs, j, ys⟩])) (fun _ _ i _ => xs.length - (intOf i).toNat)
  case atStart => exact ⟨0, none, 0, [], rfl, rfl, Nat.zero_le _, HO.out⟩
  case round =>
    obtain ⟨j, As, cs, ys, rfl, rfl, H⟩ := hrel
    clear HO
    have HO := Lib.hid H.out.2
    by_cases hlt : j < xs.length
    · have hj63 : j ≤ 900 := by omega
      obtain ⟨b, off, rfl, hbl, d0, d1, d2, d3, d4⟩ := (HX.out.up HO.out.below).at_ hlt
      generalize xs[j] = x at d0 d1 d2 d3 d4
      have HD := Lib.hid (bkdo_nil x wr)
      obtain ⟨kind, key, upto, val, limit⟩ := x
      simp only [] at d0 d1 d2 d3 d4
      simp only [opCells] at HD
      clear H hbl
      go_wp2_with fail
      refine HD.out.mono ?_
      rintro e w2 ⟨rfl, hbn⟩
      clear d0 d1 d2 d3 d4 HD
      obtain ⟨A8, c8, w8, hrun, hc8, hO8⟩ := (HO.out.call hbn).push (P := Try.prog) 0 rfl 94 94 (.agg zeroA) 56 Try.underlying94 ans_info rfl (by omega) [.int .i64 5, .string ⟨#[]⟩, .int .u64 0, .slice none 0 0] rfl
        (fun u hu => by
          simp only [List.mem_cons, List.not_mem_nil, or_false] at hu
          rcases hu with rfl | rfl | rfl | rfl <;> rfl) (by omega) (by omega)
      have Hrun := Lib.hid hrun
      have HN := Lib.hid hO8
      clear hrun hO8 hbn
      go_wp2_with (at_builtin; refine wpList_append_run rfl (.tmp 11) (.tmp 18) 94 rfl rfl rfl Hrun.out ?_)
      go_roundw
      case rel => exact ⟨j + 1, A8, c8, _, by go_num, rfl, by omega, HN.out⟩
      case measure => simp [intOf]; omega
    · obtain rfl : j = xs.length := by have := H.out.1; omega
      have HS9 := Lib.hid HO.out.below
      clear HO H
      go_wp2_with fail
      exact bodyPost_ret (v := .slice As xs.length cs) (by simp [results, Try.results62, go_sem]) rfl ⟨As, cs, rfl, HS9.out⟩

def opA (kind : Int) (v : Nat) : OpD := ⟨kind, txA, ⟨#[]⟩, v, 0⟩
set_option maxHeartbeats 1000000 in
theorem of18_any (kind : Int) (v : Nat) (w : World) : Calls Try.prog 81 #[.int .i64 kind, .int .u64 (v : Int)] w (Ret (.agg #[.int .i64 kind, .string ⟨#[97]⟩, .string ⟨#[]⟩, .int .u64 (v : Int), .int .i64 0]) w) := by
  have hS := Lib.hid ((Sx.start0 w).alloc (.cells #[.int .i64 0, .string ⟨#[]⟩, .string ⟨#[]⟩, .int .u64 0, .int .i64 0] 85))
  simp only [List.nil_append] at hS
  go_enter Try.func81, Try.ntmps81
  go_upto_region 1 with fail
  generalize w.alloc _ = W at hS ⊢
  obtain ⟨x0, x1, x2, x3, x4⟩ := op5_facts (hS.out.has 0 _ _ rfl).1
  have f0 := heap_frozen (hS.out.has 0 _ _ rfl).1 0
  have f1 := heap_frozen (hS.out.has 0 _ _ rfl).1 1
  have f2 := heap_frozen (hS.out.has 0 _ _ rfl).1 2
  have f3 := heap_frozen (hS.out.has 0 _ _ rfl).1 3
  have f4 := heap_frozen (hS.out.has 0 _ _ rfl).1 4
  have HZ := Lib.hid (((((hS.out.setc 0 rfl 0 (.int .i64 kind)).setc 0 rfl 1 (.string ⟨#[97]⟩)).setc 0 rfl 2 (.string ⟨#[]⟩)).setc 0 rfl 3 (.int .u64 (v : Int))).setc 0 rfl 4 (.int .i64 0)).below
  clear hS
  go_wp2_with fail
  exact bodyPost_ret (v := .agg #[.int .i64 kind, .string ⟨#[97]⟩, .string ⟨#[]⟩, .int .u64 (v : Int), .int .i64 0]) (by simp [results, Try.results81, go_sem, *]) rfl ⟨rfl, HZ.out⟩

def ops18 : List OpD := [opA 2 1, opA 2 2, opA 5 2, opA 4 0]
theorem ops18_ans : (allD [] [] ops18).1.map (fun a => (a.code, a.val)) = [(1, 0), (3, 1), (4, 1), (1, 1)] := by decide +kernel
def opRow (xs : List OpD) : List Value := xs.flatMap fun x => (opCells x).toList
theorem opRow_at (xs : List OpD) : ∀ (j : Nat) (hj : j < xs.length) (k : Nat) (v : Value), (opCells xs[j])[k]? = some v → (opRow xs)[j * 5 + k]? = some v := by
  induction xs with
  | nil => intro j hj; simp at hj
  | cons x t ih =>
    intro j hj k v hv
    have hs : (opCells x).toList.length = 5 := rfl
    have e : opRow (x :: t) = (opCells x).toList ++ opRow t := rfl
    rw [e]
    rcases j with _ | j
    · have hk : k < 5 := (Array.getElem?_eq_some_iff.1 hv).1
      rw [Nat.zero_mul, Nat.zero_add, List.getElem?_append_left (by omega)]
      simpa using hv
    · rw [List.getElem?_append_right (by omega), hs, show (j + 1) * 5 + k - 5 = j * 5 + k by omega]
      exact ih j (by simpa using hj) k v hv
theorem opl_new (w : World) (xs : List OpD) (T : TypeId) : Opl (w.alloc (.cells (opRow xs).toArray T)) (some ⟨w.heap.size, 0, none⟩) xs := fun _ =>
  ⟨w.heap.size, 0, rfl, by simp, fun j hj k v hv => by
    rw [cell_of_row _ w.heap.size (0 + j * 5 + k) _ _ _ (heap_new w _ _), Nat.zero_add]
    simpa using opRow_at xs j hj k v hv⟩
theorem ans_at {az : List AnsI} {l : List (Int × Int)} {i : Nat} {c v : Int} (h : az.map (fun a => (a.code, a.val)) = l) (hl : l[i]? = some (c, v)) : ∃ a, az[i]? = some a ∧ a.code = c ∧ a.val = v := by
  rw [← h, List.getElem?_map, Option.map_eq_some_iff] at hl
  obtain ⟨a, h1, h2⟩ := hl
  injection h2 with h3 h4
  exact ⟨a, h1, h3, h4⟩
theorem ans_cell {w : World} {B n : Nat} {g : Nat} {cs : Nat} {az : List AnsI} {ys : List Value} {l : List (Int × Int)} (h : w.ownsRow B 87 4 (.slice (some ⟨g, 0, none⟩) n cs) n ys) (ha : AnsRow az ys) (hm : az.map (fun a => (a.code, a.val)) = l) (i : Nat) (c v : Int) (hl : l[i]? = some (c, v)) :
    w.cell? ⟨g, i * 4, none⟩ = some (.int .i64 c) ∧ w.cell? ⟨g, i * 4 + 2, none⟩ = some (.int .u64 v) := by
  obtain ⟨a, h1, rfl, rfl⟩ := ans_at hm hl
  obtain ⟨h2, h3⟩ := ha i a h1
  have k1 := h.cells (g := g) rfl _ _ h2
  have k2 := h.cells (g := g) rfl _ _ h3
  rw [Addr.add_lit, Nat.zero_add] at k1 k2
  exact ⟨k1, k2⟩
set_option maxRecDepth 100000 in
set_option maxHeartbeats 4000000 in
theorem lives18_any (w : World) : Calls Try.prog 56 #[] w (Ret (.bool true) w) := by
  go_enter Try.func56, Try.ntmps56
  go_wp2_with fail
  refine (pmnew_any none 0 [] _ ⟨rfl, fun q => absurd q (Nat.lt_irrefl 0)⟩ (fun p hp => by simp at hp) (by simp)).mono ?_
  rintro e w1 ⟨gm, rfl, hgm, hM, hb⟩
  have HGM := Lib.hid hgm
  have HM := Lib.hid (show MapAt (fun q => q < w.heap.size) w1 gm [] [] from hM)
  have HB := Lib.hid hb
  clear hgm hM hb
  go_wp2_with fail
  refine (of18_any 2 1 _).mono ?_
  rintro e wn9 ⟨rfl, hbn⟩
  replace HM := Lib.hid (HM.out.up hbn)
  replace HB := Lib.hid (below_of HB.out hbn)
  clear hbn
  go_wp2_with fail
  refine (of18_any 2 2 _).mono ?_
  rintro e wn9 ⟨rfl, hbn⟩
  replace HM := Lib.hid (HM.out.up hbn)
  replace HB := Lib.hid (below_of HB.out hbn)
  clear hbn
  go_wp2_with fail
  refine (of18_any 5 2 _).mono ?_
  rintro e wn9 ⟨rfl, hbn⟩
  replace HM := Lib.hid (HM.out.up hbn)
  replace HB := Lib.hid (below_of HB.out hbn)
  clear hbn
  go_wp2_with fail
  refine (of18_any 4 0 _).mono ?_
  rintro e wn9 ⟨rfl, hbn⟩
  replace HM := Lib.hid (HM.out.up hbn)
  replace HB := Lib.hid (below_of HB.out hbn)
  clear hbn
  go_wp2_with fail
  have hxl := opl_new wn9 ops18 85
  have hba := below_alloc wn9 (.cells (opRow ops18).toArray 85)
  have hla : gm < wn9.heap.size := HM.out.lt
  have hno : 0 < ops18.length → ∀ a : Addr, some (⟨wn9.heap.size, 0, none⟩ : Addr) = some a → a.block ≠ gm := fun _ a e => by injection e with e; subst e; simp only []; omega
  have hok : ∀ x ∈ ops18, OpOk x := by
    intro x hx
    simp only [ops18, List.mem_cons, List.not_mem_nil, or_false] at hx
    rcases hx with rfl | rfl | rfl | rfl <;> exact ⟨by decide, by decide, by decide, by decide, by decide⟩
  have hmu := HM.out.up hba
  have hbb := below_of HB.out hba
  have HA := Lib.hid (bkall_any (fun q => q < w.heap.size) gm [] [] (some ⟨wn9.heap.size, 0, none⟩) 4 ops18 _ hmu hxl hno hok (by decide) (fun t q => by have := hbb.size; omega))
  have HBB := Lib.hid hbb
  clear hxl hba hla hno hok hmu hbb HM HB
  rw [show (opRow ops18).toArray = #[.int .i64 2, .string ⟨#[97]⟩, .string ⟨#[]⟩, .int .u64 1, .int .i64 0, .int .i64 2, .string ⟨#[97]⟩, .string ⟨#[]⟩, .int .u64 2, .int .i64 0, .int .i64 5, .string ⟨#[97]⟩, .string ⟨#[]⟩, .int .u64 2, .int .i64 0, .int .i64 4, .string ⟨#[97]⟩, .string ⟨#[]⟩, .int .u64 0, .int .i64 0] from rfl] at HA HBB
  generalize wn9.alloc _ = W at HA HBB ⊢
  refine HA.out.mono ?_
  rintro e w3 ⟨As, cs, rfl, hst⟩
  have HG := Lib.hid (hst.off.below HBB.out HBB.out.size (fun j hj e => by have := HGM.out; omega))
  obtain ⟨ys, hown, har⟩ := hst.own
  have hAs : ∃ g, As = some ⟨g, 0, none⟩ := by
    rcases hown.2 with ⟨_, h0⟩ | ⟨g, cap, cur, hv, _⟩
    · cases h0
    · injection hv with e1
      exact ⟨g, e1⟩
  obtain ⟨g, rfl⟩ := hAs
  obtain ⟨k0, -⟩ := ans_cell hown har ops18_ans 0 1 0 rfl
  obtain ⟨k1, k2⟩ := ans_cell hown har ops18_ans 1 3 1 rfl
  obtain ⟨k3, -⟩ := ans_cell hown har ops18_ans 2 4 1 rfl
  obtain ⟨k4, k5⟩ := ans_cell hown har ops18_ans 3 1 1 rfl
  simp only [Nat.zero_mul, Nat.one_mul, Nat.reduceMul, Nat.reduceAdd] at k0 k1 k2 k3 k4 k5
  clear hst hown har HA
  simp only [show ops18.length = 4 from rfl]
  go_wp2_with fail
  go_ret
  exact ⟨rfl, HG.out⟩

end Go.Proofs.Ytggjlnjpokdfpaa
