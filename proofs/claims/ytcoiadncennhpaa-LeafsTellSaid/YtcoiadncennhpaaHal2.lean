/- Contracts of package halve: part. -/
import Derived.Test.YtcoiadncennhpaaHal1
namespace Go.Proofs.Ytcoiadncennhpaa
open Go.RowKit

theorem Sx.top {B : Nat} {W0 W : World} {L : List (Nat × Obj)} (h : Sx B W0 W L) (n : Nat) : Sx B W0 W (L.take n) := by
  refine ⟨h.below, h.le, fun i g o hi => ?_, fun i j p q hij hi hj => ?_⟩
  · rw [List.getElem?_take] at hi
    split at hi
    · exact h.has i g o hi
    · cases hi
  · rw [List.getElem?_take] at hi hj
    split at hi
    · split at hj
      · exact h.ne i j p q hij hi hj
      · cases hj
    · cases hi

theorem Sx.start3b (w : World) (a b c : Obj) : Sx w.heap.size w (((w.alloc a).alloc b).alloc c) [(w.heap.size, a), (w.heap.size + 1, b), (w.heap.size + 1 + 1, c)] := Sx.start3 w a b c

/-- Two nodes are handed back, whose rows are new. -/
def PRet (o : Nd × Nd) (w : World) (e : Ending) (w' : World) : Prop :=
  ∃ A1 A2 A3 B1 B2 B3 ca cb cc da db dc, e = .returned (.tuple #[.agg (ndCells o.1 A1 A2 A3 ca cb cc), .agg (ndCells o.2 B1 B2 B3 da db dc)]) ∧ LiesF w.heap.size w' o.1 A1 A2 A3 ca cb cc ∧ LiesF w.heap.size w' o.2 B1 B2 B3 da db dc ∧ Below w.heap.size w w'

/-- The rows of a part, as they stand in memory. -/
structure PRows (B : Nat) (w : World) (KL KR : List ByteArray) (VL VR CL CR : List Int) (A1 A2 B1 B2 C1 C2 : Option Addr) : Prop where
  k1 : NewB B w 9 A1 (strs KL)
  k2 : NewB B w 9 A2 (strs KR)
  v1 : NewB B w 35 B1 (u64s VL)
  v2 : NewB B w 35 B2 (u64s VR)
  c1 : NewB B w 3 C1 (i64s CL)
  c2 : NewB B w 3 C2 (i64s CR)
theorem PRows.off {S : Nat → Prop} {B : Nat} {w w' : World} {KL KR : List ByteArray} {VL VR CL CR : List Int} {A1 A2 B1 B2 C1 C2 : Option Addr} (h : PRows B w KL KR VL VR CL CR A1 A2 B1 B2 C1 C2) (ho : Off S w w') (hs : ∀ k, S k → k < B) : PRows B w' KL KR VL VR CL CR A1 A2 B1 B2 C1 C2 :=
  ⟨h.k1.off ho hs, h.k2.off ho hs, h.v1.off ho hs, h.v2.off ho hs, h.c1.off ho hs, h.c2.off ho hs⟩
theorem PRows.up {B : Nat} {w w' : World} {KL KR : List ByteArray} {VL VR CL CR : List Int} {A1 A2 B1 B2 C1 C2 : Option Addr} (h : PRows B w KL KR VL VR CL CR A1 A2 B1 B2 C1 C2) (hb : Below w.heap.size w w') : PRows B w' KL KR VL VR CL CR A1 A2 B1 B2 C1 C2 :=
  ⟨h.k1.up hb, h.k2.up hb, h.v1.up hb, h.v2.up hb, h.c1.up hb, h.c2.up hb⟩
theorem PRows.set {B : Nat} {w : World} {KL KR : List ByteArray} {VL VR CL CR : List Int} {A1 A2 B1 B2 C1 C2 : Option Addr} (h : PRows B w KL KR VL VR CL CR A1 A2 B1 B2 C1 C2) (p : Addr) (u : Value) (hp : p.block < B) : PRows B (w.setCell p u) KL KR VL VR CL CR A1 A2 B1 B2 C1 C2 := h.off (off_in w p u hp) (fun _ q => q)
theorem PRows.set8 {B : Nat} {w : World} {KL KR : List ByteArray} {VL VR CL CR : List Int} {A1 A2 B1 B2 C1 C2 : Option Addr} (h : PRows B w KL KR VL VR CL CR A1 A2 B1 B2 C1 C2) (g : Nat) (hg : g < B) (a b c d e f x y : Value) : PRows B (set8 w g a b c d e f x y) KL KR VL VR CL CR A1 A2 B1 B2 C1 C2 := h.off (set8_off w g a b c d e f x y) (fun k q => by rw [q]; exact hg)

theorem rdS_new {B : Nat} {w : World} {E : TypeId} {A : Option Addr} {l : List ByteArray} (h : NewB B w E A (strs l)) : RdS w A l.length l := by have := h.rd; rw [strs_length] at this; exact this
theorem rdU_new {B : Nat} {w : World} {E : TypeId} {A : Option Addr} {l : List Int} (h : NewB B w E A (u64s l)) : RdU w A l.length l := by have := h.rd; rw [u64s_length] at this; exact this
theorem rdI_new {B : Nat} {w : World} {E : TypeId} {A : Option Addr} {l : List Int} (h : NewB B w E A (i64s l)) : RdI w A l.length l := by have := h.rd; rw [i64s_length] at this; exact this
theorem lies_new {B : Nat} {w : World} {d : Nd} {A1 A2 A3 : Option Addr} (h1 : NewB B w 9 A1 (strs d.keys)) (h2 : NewB B w 35 A2 (u64s d.vals)) (h3 : NewB B w 3 A3 (i64s d.kids)) (hl : d.low.size ≤ maxLen) (hh : d.high.size ≤ maxLen) (hf : Fits d.keys)
    (l1 : d.keys.length ≤ 1000000) (l2 : d.vals.length ≤ 1000000) (l3 : d.kids.length ≤ 1000000) : LiesF B w d A1 A2 A3 d.keys.length d.vals.length d.kids.length :=
  ⟨{ keys := rdS_new h1, vals := rdU_new h2, kids := rdI_new h3, ka := Nat.le_refl _, kb := Nat.le_refl _, kc := Nat.le_refl _, la := by omega, lb := by omega, lc := by omega, low := hl, high := hh, fit := hf },
    fun h0 => h1.fr (by rw [strs_length]; exact h0), fun h0 => h2.fr (by rw [u64s_length]; exact h0), fun h0 => h3.fr (by rw [i64s_length]; exact h0)⟩

theorem fits_sub {ss ts : List ByteArray} (h : Fits ss) (hs : ∀ s ∈ ts, s ∈ ss) : Fits ts := by
  intro j hj
  have := hs _ (List.getElem_mem hj)
  generalize ts[j] = x at this ⊢
  obtain ⟨q, hq, rfl⟩ := List.getElem_of_mem this
  exact h q hq
theorem getD_take {α : Type} (l : List α) (n i : Nat) (x : α) (h : i < n) : (l.take n).getD i x = l.getD i x := by
  rw [List.getD_eq_getElem?_getD, List.getD_eq_getElem?_getD, List.getElem?_take_of_lt h]
theorem getD_drop {α : Type} (l : List α) (n i : Nat) (x : α) : (l.drop n).getD i x = l.getD (n + i) x := by
  rw [List.getD_eq_getElem?_getD, List.getD_eq_getElem?_getD, List.getElem?_drop]
theorem bord_parts {d : Nd} (hm : 2 ≤ d.keys.length) : bordS d = brd d.level ((d.keys.take (cutN d.keys.length)).getD ((d.keys.take (cutN d.keys.length)).length - 1) ByteArray.empty) ((d.keys.drop (cutN d.keys.length)).getD 0 ByteArray.empty) := by
  have hc := cutN_mid hm
  rw [bordS_eq, List.length_take, Nat.min_eq_left (by omega), getD_take _ _ _ _ (by omega), getD_drop, Nat.add_zero]

set_option maxRecDepth 100000 in
set_option maxHeartbeats 16000000 in
theorem part_any (d : Nd) (cell : Int) (A B C : Option Addr) (ca cb cc : Nat) (w : World) (h : Lies w d A B C ca cb cc) (hm : 2 ≤ d.keys.length) (l1 : d.keys.length ≤ 1000) (l2 : d.vals.length ≤ 1000) (l3 : d.kids.length ≤ 1000) :
    Calls Try.prog 105 #[.agg (ndCells d A B C ca cb cc), .int .i64 cell] w (PRet (partL d cell, partR d) w) := by
  have hS := Lib.hid (Sx.start3b w (.cells (ndCells d A B C ca cb cc) 26) (.cells #[.int .i64 0, .string ⟨#[]⟩, .string ⟨#[]⟩, .bool false, .int .i64 0, .slice none 0 0, .slice none 0 0, .slice none 0 0] 26) (.cells #[.int .i64 0, .string ⟨#[]⟩, .string ⟨#[]⟩, .bool false, .int .i64 0, .slice none 0 0, .slice none 0 0, .slice none 0 0] 26))
  have H00 := Lib.hid h
  have HA := Lib.hid (fun W (hW : Lies W d A B C ca cb cc) => halvS_any A d.keys.length ca d.keys.length (strs d.keys) W hW.keys (strs_one _) (by omega) hW.ka (by omega))
  have HB := Lib.hid (fun W (hW : Lies W d A B C ca cb cc) => halvU_any B d.vals.length cb d.keys.length (u64s d.vals) W hW.vals (u64s_one _) (by omega) hW.kb (by omega))
  have HC := Lib.hid (fun W (hW : Lies W d A B C ca cb cc) => halvI_any C d.kids.length cc d.keys.length (i64s d.kids) W hW.kids (i64s_one _) (by omega) hW.kc (by omega))
  rw [show (strs d.keys).take (cutN d.keys.length) = strs (d.keys.take (cutN d.keys.length)) by simp [strs, List.map_take], show (strs d.keys).drop (cutN d.keys.length) = strs (d.keys.drop (cutN d.keys.length)) by simp [strs, List.map_drop], strs_length, strs_length] at HA
  rw [show (u64s d.vals).take (cutN d.keys.length) = u64s (d.vals.take (cutN d.keys.length)) by simp [u64s, List.map_take], show (u64s d.vals).drop (cutN d.keys.length) = u64s (d.vals.drop (cutN d.keys.length)) by simp [u64s, List.map_drop], u64s_length, u64s_length] at HB
  rw [show (i64s d.kids).take (cutN d.keys.length) = i64s (d.kids.take (cutN d.keys.length)) by simp [i64s, List.map_take], show (i64s d.kids).drop (cutN d.keys.length) = i64s (d.kids.drop (cutN d.keys.length)) by simp [i64s, List.map_drop], i64s_length, i64s_length] at HC
  have hpl : partL d cell = ⟨d.level, d.low, bordS d, false, cell, d.keys.take (cutN d.keys.length), d.vals.take (cutN d.keys.length), d.kids.take (cutN d.keys.length)⟩ := rfl
  have hpr : partR d = ⟨d.level, bordS d, d.high, d.last, d.next, d.keys.drop (cutN d.keys.length), d.vals.drop (cutN d.keys.length), d.kids.drop (cutN d.keys.length)⟩ := rfl
  have hbs := bord_parts hm
  have hcm := cutN_mid hm
  have f1 : Fits (d.keys.take (cutN d.keys.length)) := fits_sub h.fit (fun s hs => List.mem_of_mem_take hs)
  have f2 : Fits (d.keys.drop (cutN d.keys.length)) := fits_sub h.fit (fun s hs => List.mem_of_mem_drop hs)
  have p1 : 0 < (d.keys.take (cutN d.keys.length)).length := by rw [List.length_take]; omega
  have p2 : 0 < (d.keys.drop (cutN d.keys.length)).length := by rw [List.length_drop]; omega
  have q1 : (d.keys.take (cutN d.keys.length)).length ≤ 1000000 := by rw [List.length_take]; omega
  have q2 : (d.keys.drop (cutN d.keys.length)).length ≤ 1000000 := by rw [List.length_drop]; omega
  have q3 : (d.vals.take (cutN d.keys.length)).length ≤ 1000000 := by rw [List.length_take]; omega
  have q4 : (d.vals.drop (cutN d.keys.length)).length ≤ 1000000 := by rw [List.length_drop]; omega
  have q5 : (d.kids.take (cutN d.keys.length)).length ≤ 1000000 := by rw [List.length_take]; omega
  have q6 : (d.kids.drop (cutN d.keys.length)).length ≤ 1000000 := by rw [List.length_drop]; omega
  have hlo := h.low
  have hhi := h.high
  generalize partL d cell = pl at hpl ⊢
  generalize partR d = pr at hpr ⊢
  generalize bordS d = bs at hpl hpr hbs
  generalize d.keys.take (cutN d.keys.length) = KL at HA hpl hbs f1 p1 q1
  generalize d.keys.drop (cutN d.keys.length) = KR at HA hpr hbs f2 p2 q2
  generalize d.vals.take (cutN d.keys.length) = VL at HB hpl q3
  generalize d.vals.drop (cutN d.keys.length) = VR at HB hpr q4
  generalize d.kids.take (cutN d.keys.length) = CL at HC hpl q5
  generalize d.kids.drop (cutN d.keys.length) = CR at HC hpr q6
  have hbz : bs.size ≤ maxLen := by
    rw [hbs]
    refine brd_size _ _ _ ?_
    rw [getD_at _ _ _ p2]
    exact f2 0 p2
  have HW := Lib.hid (And.intro f1 (And.intro f2 (And.intro p1 (And.intro p2 (And.intro q1 (And.intro q2 (And.intro q3 (And.intro q4 (And.intro q5 (And.intro q6 (And.intro hlo (And.intro hhi hbz))))))))))))
  have HBS := Lib.hid hbs
  obtain ⟨level, low, high, last, next, keys, vals, kids⟩ := d
  simp only [] at HA HB HC HW HBS hpl hpr
  have HPL := Lib.hid (And.intro hpl hpr)
  clear h f1 f2 p1 p2 q1 q2 q3 q4 q5 q6 hlo hhi hbz hbs hcm hm l1 l2 l3 hpl hpr
  simp only [ndCells] at hS ⊢
  go_enter Try.func105, Try.ntmps105
  go_upto_region 1 with fail
  generalize ((w.alloc _).alloc _).alloc _ = W at hS ⊢
  obtain ⟨x0, x1, x2, x3, x4, x5, x6, x7, f0, f1, f2, f3, f4, f5, f6, f7⟩ := nd_facts (hS.out.has 0 _ _ rfl).1
  go_upto_region 2 with fail
  clear x0 x1 x2 x3 x4 x5 x6 x7 f0 f1 f2 f3 f4 f5 f6 f7
  have hd := Below.drew (Below.refl W.heap.size W)
  replace hS := Lib.hid (hS.out.call hd)
  clear hd
  refine wp_region_held_drew (S := fun w' => Sx w.heap.size w w' [(w.heap.size, .cells #[.int .i64 level, .string low, .string high, .bool last, .int .i64 next, .slice A keys.length ca, .slice B vals.length cb, .slice C kids.length cc] 26)]) (by kernel_rfl) (hS.out.top 1) (fun hcur => ?_)
  (try dsimp only at hcur)
  generalize W.drew = X at hS hcur ⊢
  refine wpAnyH_take (i := 0) (v := ?_) rfl (by decide +kernel) (by decide +kernel) (by decide +kernel) (fun _ _ _ h => h) (Or.inl ⟨by rfl, ?hy⟩) hcur ?_
  case hy =>
    intro w1 hSw
    (try dsimp only at hSw)
    obtain ⟨x0, x1, x2, x3, x4, x5, x6, x7, -, -, -, -, -, -, -, -⟩ := nd_facts (hSw.has 0 _ _ rfl).1
    go_simp
    (try with_reducible rfl)
  (try simp only [Act.put, List.getElem_toArray, List.getElem_cons_zero, List.getElem_cons_succ, List.setIfInBounds_toArray, List.set_cons_zero, List.set_cons_succ])
  refine wpAnyH_take (i := 1) (v := ?_) rfl (by decide +kernel) (by decide +kernel) (by decide +kernel) (fun _ _ _ h => h) (Or.inl ⟨by rfl, ?hy⟩) hcur ?_
  case hy =>
    intro w1 hSw
    (try dsimp only at hSw)
    obtain ⟨x0, x1, x2, x3, x4, x5, x6, x7, -, -, -, -, -, -, -, -⟩ := nd_facts (hSw.has 0 _ _ rfl).1
    go_simp
    (try with_reducible rfl)
  (try simp only [Act.put, List.getElem_toArray, List.getElem_cons_zero, List.getElem_cons_succ, List.setIfInBounds_toArray, List.set_cons_zero, List.set_cons_succ])
  refine wpAnyH_ready (rs := [2]) (by decide +kernel) (by simp) ?_
  refine AllReadyH.cons rfl (fun K hK => ?_) AllReadyH.nil
  obtain ⟨y0, y1, y2, y3, y4, y5, y6, y7, q0, q1, q2, q3, q4, q5, q6, q7⟩ := nd_facts (hS.out.has 1 _ _ rfl).1
  go_simp
  have hZ := hS.out.store 1 rfl (.int .i64 level) (.string low) (.string high) (.bool last) (.int .i64 next) (.slice A keys.length ca) (.slice B vals.length cb) (.slice C kids.length cc)
  simp only [set8] at hZ
  replace hS := Lib.hid hZ
  clear hZ
  simp only [List.cons_append, List.nil_append, List.set_cons_zero, List.set_cons_succ] at hS
  clear y0 y1 y2 y3 y4 y5 y6 y7 q0 q1 q2 q3 q4 q5 q6 q7
  refine hK.out _ _ (hS.out.top 1) (fun hcur2 => ?_)
  clear hK K
  replace hcur := hcur2
  (try dsimp only at hcur)
  clear hcur2
  (try simp only [Act.put, List.getElem_toArray, List.getElem_cons_zero, List.getElem_cons_succ, List.setIfInBounds_toArray, List.set_cons_zero, List.set_cons_succ])
  generalize World.setCell _ _ _ = X1 at hS hcur ⊢
  refine wpAnyH_ready (rs := [3]) (by decide +kernel) (by simp) ?_
  refine AllReadyH.cons rfl (fun K hK => ?_) AllReadyH.nil
  obtain ⟨y0, y1, y2, y3, y4, y5, y6, y7, q0, q1, q2, q3, q4, q5, q6, q7⟩ := nd_facts (hS.out.has 2 _ _ rfl).1
  go_simp
  have hZ := hS.out.store 2 rfl (.int .i64 level) (.string low) (.string high) (.bool last) (.int .i64 next) (.slice A keys.length ca) (.slice B vals.length cb) (.slice C kids.length cc)
  simp only [set8] at hZ
  replace hS := Lib.hid hZ
  clear hZ
  simp only [List.cons_append, List.nil_append, List.set_cons_zero, List.set_cons_succ] at hS
  clear y0 y1 y2 y3 y4 y5 y6 y7 q0 q1 q2 q3 q4 q5 q6 q7
  refine hK.out _ _ (hS.out.top 1) (fun hcur2 => ?_)
  clear hK K
  replace hcur := hcur2
  (try dsimp only at hcur)
  clear hcur2
  (try simp only [Act.put, List.getElem_toArray, List.getElem_cons_zero, List.getElem_cons_succ, List.setIfInBounds_toArray, List.set_cons_zero, List.set_cons_succ])
  generalize World.setCell _ _ _ = X2 at hS hcur ⊢
  refine wpAnyH_done (by decide +kernel) ?_ _
  clear hcur
  obtain ⟨x0, x1, x2, x3, x4, x5, x6, x7, f0, f1, f2, f3, f4, f5, f6, f7⟩ := nd_facts (hS.out.has 0 _ _ rfl).1
  go_wp2_with fail
  refine (HA.out _ (H00.out.up hS.out.below)).mono ?_
  rintro e Y1 ⟨A1, A2, rfl, n1, n2, hb⟩
  clear x0 x1 x2 x3 x4 x5 x6 x7 f0 f1 f2 f3 f4 f5 f6 f7
  replace n1 := n1.mono (show w.heap.size + 3 ≤ _ by have := hS.out.lt (i := 2) rfl; omega)
  replace n2 := n2.mono (show w.heap.size + 3 ≤ _ by have := hS.out.lt (i := 2) rfl; omega)
  have HN := Lib.hid (And.intro n1 n2)
  replace hS := Lib.hid (hS.out.call hb)
  skip
  clear n1 n2 hb
  obtain ⟨x0, x1, x2, x3, x4, x5, x6, x7, f0, f1, f2, f3, f4, f5, f6, f7⟩ := nd_facts (hS.out.has 1 _ _ rfl).1
  obtain ⟨y0, y1, y2, y3, y4, y5, y6, y7, q0, q1, q2, q3, q4, q5, q6, q7⟩ := nd_facts (hS.out.has 2 _ _ rfl).1
  go_upto_region 4 with fail
  clear x0 x1 x2 x3 x4 x5 x6 x7 f0 f1 f2 f3 f4 f5 f6 f7
  clear y0 y1 y2 y3 y4 y5 y6 y7 q0 q1 q2 q3 q4 q5 q6 q7
  replace hS := Lib.hid ((hS.out.setc 1 rfl 5 (.slice A1 KL.length KL.length)).setc 2 rfl 5 (.slice A2 KR.length KR.length))
  simp only [List.cons_append, List.nil_append, List.set_cons_zero, List.set_cons_succ] at hS
  have n1 := (HN.out.1.set ⟨w.heap.size + 1, 5, none⟩ (.slice A1 KL.length KL.length) (by simp only []; omega)).set ⟨w.heap.size + 1 + 1, 5, none⟩ (.slice A2 KR.length KR.length) (by simp only []; omega)
  have n2 := (HN.out.2.set ⟨w.heap.size + 1, 5, none⟩ (.slice A1 KL.length KL.length) (by simp only []; omega)).set ⟨w.heap.size + 1 + 1, 5, none⟩ (.slice A2 KR.length KR.length) (by simp only []; omega)
  generalize (Y1.setCell _ _).setCell _ _ = Z at hS n1 n2 ⊢
  have HK := Lib.hid (And.intro n1 n2)
  clear HN n1 n2 HA
  obtain ⟨x0, x1, x2, x3, x4, x5, x6, x7, f0, f1, f2, f3, f4, f5, f6, f7⟩ := nd_facts (hS.out.has 0 _ _ rfl).1
  go_wp2_with fail
  refine (HB.out _ (H00.out.up hS.out.below)).mono ?_
  rintro e Y1 ⟨B1, B2, rfl, n1, n2, hb⟩
  clear x0 x1 x2 x3 x4 x5 x6 x7 f0 f1 f2 f3 f4 f5 f6 f7
  replace n1 := n1.mono (show w.heap.size + 3 ≤ _ by have := hS.out.lt (i := 2) rfl; omega)
  replace n2 := n2.mono (show w.heap.size + 3 ≤ _ by have := hS.out.lt (i := 2) rfl; omega)
  have HN := Lib.hid (And.intro n1 n2)
  replace hS := Lib.hid (hS.out.call hb)
  replace HK := Lib.hid (And.intro (HK.out.1.up hb) (HK.out.2.up hb))
  clear n1 n2 hb
  obtain ⟨x0, x1, x2, x3, x4, x5, x6, x7, f0, f1, f2, f3, f4, f5, f6, f7⟩ := nd_facts (hS.out.has 1 _ _ rfl).1
  obtain ⟨y0, y1, y2, y3, y4, y5, y6, y7, q0, q1, q2, q3, q4, q5, q6, q7⟩ := nd_facts (hS.out.has 2 _ _ rfl).1
  go_upto_region 5 with fail
  clear x0 x1 x2 x3 x4 x5 x6 x7 f0 f1 f2 f3 f4 f5 f6 f7
  clear y0 y1 y2 y3 y4 y5 y6 y7 q0 q1 q2 q3 q4 q5 q6 q7
  replace hS := Lib.hid ((hS.out.setc 1 rfl 6 (.slice B1 VL.length VL.length)).setc 2 rfl 6 (.slice B2 VR.length VR.length))
  simp only [List.cons_append, List.nil_append, List.set_cons_zero, List.set_cons_succ] at hS
  have hof : Off (fun k => k < w.heap.size + 3) Y1 ((Y1.setCell ⟨w.heap.size + 1, 6, none⟩ (.slice B1 VL.length VL.length)).setCell ⟨w.heap.size + 1 + 1, 6, none⟩ (.slice B2 VR.length VR.length)) := (off_in _ _ _ (by simp only []; omega)).trans (off_in _ _ _ (by simp only []; omega)) (fun _ _ q => q)
  generalize (Y1.setCell _ _).setCell _ _ = Z at hS hof ⊢
  replace HK := Lib.hid (And.intro (HK.out.1.off hof (fun _ q => q)) (And.intro (HK.out.2.off hof (fun _ q => q)) (And.intro (HN.out.1.off hof (fun _ q => q)) (HN.out.2.off hof (fun _ q => q)))))
  clear HN hof HB
  obtain ⟨x0, x1, x2, x3, x4, x5, x6, x7, f0, f1, f2, f3, f4, f5, f6, f7⟩ := nd_facts (hS.out.has 0 _ _ rfl).1
  go_wp2_with fail
  refine (HC.out _ (H00.out.up hS.out.below)).mono ?_
  rintro e Y1 ⟨C1, C2, rfl, n1, n2, hb⟩
  clear x0 x1 x2 x3 x4 x5 x6 x7 f0 f1 f2 f3 f4 f5 f6 f7
  replace n1 := n1.mono (show w.heap.size + 3 ≤ _ by have := hS.out.lt (i := 2) rfl; omega)
  replace n2 := n2.mono (show w.heap.size + 3 ≤ _ by have := hS.out.lt (i := 2) rfl; omega)
  have HN := Lib.hid (And.intro n1 n2)
  replace hS := Lib.hid (hS.out.call hb)
  replace HK := Lib.hid (And.intro (HK.out.1.up hb) (And.intro (HK.out.2.1.up hb) (And.intro (HK.out.2.2.1.up hb) (HK.out.2.2.2.up hb))))
  clear n1 n2 hb
  obtain ⟨x0, x1, x2, x3, x4, x5, x6, x7, f0, f1, f2, f3, f4, f5, f6, f7⟩ := nd_facts (hS.out.has 1 _ _ rfl).1
  obtain ⟨y0, y1, y2, y3, y4, y5, y6, y7, q0, q1, q2, q3, q4, q5, q6, q7⟩ := nd_facts (hS.out.has 2 _ _ rfl).1
  go_upto_region 6 with fail
  clear x0 x1 x2 x3 x4 x5 x6 x7 f0 f1 f2 f3 f4 f5 f6 f7
  clear y0 y1 y2 y3 y4 y5 y6 y7 q0 q1 q2 q3 q4 q5 q6 q7
  replace hS := Lib.hid ((hS.out.setc 1 rfl 7 (.slice C1 CL.length CL.length)).setc 2 rfl 7 (.slice C2 CR.length CR.length))
  simp only [List.cons_append, List.nil_append, List.set_cons_zero, List.set_cons_succ] at hS
  have hof : Off (fun k => k < w.heap.size + 3) Y1 ((Y1.setCell ⟨w.heap.size + 1, 7, none⟩ (.slice C1 CL.length CL.length)).setCell ⟨w.heap.size + 1 + 1, 7, none⟩ (.slice C2 CR.length CR.length)) := (off_in _ _ _ (by simp only []; omega)).trans (off_in _ _ _ (by simp only []; omega)) (fun _ _ q => q)
  generalize (Y1.setCell _ _).setCell _ _ = Z at hS hof ⊢
  have hpr : PRows (w.heap.size + 3) Z KL KR VL VR CL CR A1 A2 B1 B2 C1 C2 := ⟨HK.out.1.off hof (fun _ q => q), HK.out.2.1.off hof (fun _ q => q), HK.out.2.2.1.off hof (fun _ q => q), HK.out.2.2.2.off hof (fun _ q => q), HN.out.1.off hof (fun _ q => q), HN.out.2.off hof (fun _ q => q)⟩
  have HR := Lib.hid hpr
  clear HK HN hof HC hpr
  obtain ⟨x0, x1, x2, x3, x4, x5, x6, x7, f0, f1, f2, f3, f4, f5, f6, f7⟩ := nd_facts (hS.out.has 0 _ _ rfl).1
  have y5 : Z.cell? ⟨w.heap.size + 1, 5, none⟩ = _ := (nd_facts (hS.out.has 1 _ _ rfl).1).2.2.2.2.2.1
  have z5 : Z.cell? ⟨w.heap.size + 1 + 1, 5, none⟩ = _ := (nd_facts (hS.out.has 2 _ _ rfl).1).2.2.2.2.2.1
  have HBR := Lib.hid (partborder_any level KL KR A1 A2 KL.length KR.length w.heap.size (w.heap.size + 1) (w.heap.size + 1 + 1) Z (rdS_new HR.out.k1) (rdS_new HR.out.k2) HW.out.1 HW.out.2.1 HW.out.2.2.1 HW.out.2.2.2.1 HW.out.2.2.2.2.1 HW.out.2.2.2.2.2.1 x0 y5 z5 ⟨hS.out.lt (i := 0) rfl, hS.out.lt (i := 1) rfl, hS.out.lt (i := 2) rfl⟩)
  rw [← HBS.out] at HBR
  clear y5 z5
  go_wp2_with fail
  refine HBR.out.mono ?_
  rintro e Y1 ⟨rfl, hb⟩
  clear x0 x1 x2 x3 x4 x5 x6 x7 f0 f1 f2 f3 f4 f5 f6 f7
  replace hS := Lib.hid (hS.out.call hb)
  replace HR := Lib.hid (HR.out.up hb)
  clear hb HBR HBS
  obtain ⟨x0, x1, x2, x3, x4, x5, x6, x7, f0, f1, f2, f3, f4, f5, f6, f7⟩ := nd_facts (hS.out.has 1 _ _ rfl).1
  obtain ⟨y0, y1, y2, y3, y4, y5, y6, y7, q0, q1, q2, q3, q4, q5, q6, q7⟩ := nd_facts (hS.out.has 2 _ _ rfl).1
  go_upto_region 9 with fail
  clear x0 x1 x2 x3 x4 x5 x6 x7 f0 f1 f2 f3 f4 f5 f6 f7
  clear y0 y1 y2 y3 y4 y5 y6 y7 q0 q1 q2 q3 q4 q5 q6 q7
  replace hS := Lib.hid ((((hS.out.setc 2 rfl 1 (.string bs)).setc 1 rfl 2 (.string bs)).setc 1 rfl 3 (.bool false)).setc 1 rfl 4 (.int .i64 cell))
  simp only [List.cons_append, List.nil_append, List.set_cons_zero, List.set_cons_succ] at hS
  replace HR := Lib.hid ((((HR.out.set ⟨w.heap.size + 1 + 1, 1, none⟩ (.string bs) (by simp only []; omega)).set ⟨w.heap.size + 1, 2, none⟩ (.string bs) (by simp only []; omega)).set ⟨w.heap.size + 1, 3, none⟩ (.bool false) (by simp only []; omega)).set ⟨w.heap.size + 1, 4, none⟩ (.int .i64 cell) (by simp only []; omega))
  generalize (((Y1.setCell _ _).setCell _ _).setCell _ _).setCell _ _ = W at hS HR ⊢
  have hd := Below.drew (Below.refl W.heap.size W)
  replace hS := Lib.hid (hS.out.call hd)
  replace HR := Lib.hid (HR.out.up hd)
  clear hd
  refine wp_region_held_drew (S := fun w' => Sx w.heap.size w w' [(w.heap.size, .cells #[.int .i64 level, .string low, .string high, .bool last, .int .i64 next, .slice A keys.length ca, .slice B vals.length cb, .slice C kids.length cc] 26), (w.heap.size + 1, .cells #[.int .i64 level, .string low, .string bs, .bool false, .int .i64 cell, .slice A1 KL.length KL.length, .slice B1 VL.length VL.length, .slice C1 CL.length CL.length] 26), (w.heap.size + 1 + 1, .cells #[.int .i64 level, .string bs, .string high, .bool last, .int .i64 next, .slice A2 KR.length KR.length, .slice B2 VR.length VR.length, .slice C2 CR.length CR.length] 26)]) (by kernel_rfl) hS.out (fun hcur => ?_)
  (try dsimp only at hcur)
  generalize W.drew = X at hS HR hcur ⊢
  refine wpAnyH_take (i := 0) (v := ?_) rfl (by decide +kernel) (by decide +kernel) (by decide +kernel) (fun _ _ _ h => h) (Or.inl ⟨by rfl, ?hy⟩) hcur ?_
  case hy =>
    intro w1 hSw
    (try dsimp only at hSw)
    obtain ⟨x0, x1, x2, x3, x4, x5, x6, x7, -, -, -, -, -, -, -, -⟩ := nd_facts (hSw.has 1 _ _ rfl).1
    obtain ⟨y0, y1, y2, y3, y4, y5, y6, y7, -, -, -, -, -, -, -, -⟩ := nd_facts (hSw.has 2 _ _ rfl).1
    go_simp
    (try with_reducible rfl)
  (try simp only [Act.put, List.getElem_toArray, List.getElem_cons_zero, List.getElem_cons_succ, List.setIfInBounds_toArray, List.set_cons_zero, List.set_cons_succ])
  refine wpAnyH_take (i := 1) (v := ?_) rfl (by decide +kernel) (by decide +kernel) (by decide +kernel) (fun _ _ _ h => h) (Or.inl ⟨by rfl, ?hy⟩) hcur ?_
  case hy =>
    intro w1 hSw
    (try dsimp only at hSw)
    obtain ⟨x0, x1, x2, x3, x4, x5, x6, x7, -, -, -, -, -, -, -, -⟩ := nd_facts (hSw.has 1 _ _ rfl).1
    obtain ⟨y0, y1, y2, y3, y4, y5, y6, y7, -, -, -, -, -, -, -, -⟩ := nd_facts (hSw.has 2 _ _ rfl).1
    go_simp
    (try with_reducible rfl)
  (try simp only [Act.put, List.getElem_toArray, List.getElem_cons_zero, List.getElem_cons_succ, List.setIfInBounds_toArray, List.set_cons_zero, List.set_cons_succ])
  refine wpAnyH_ready (rs := [2]) (by decide +kernel) (by simp) ?_
  refine AllReadyH.cons rfl (fun K hK => ?_) AllReadyH.nil
  obtain ⟨y0, y1, y2, y3, y4, y5, y6, y7, q0, q1, q2, q3, q4, q5, q6, q7⟩ := nd_facts (hS.out.has 1 _ _ rfl).1
  go_simp
  have hZ := hS.out.store 1 rfl (.int .i64 level) (.string low) (.string bs) (.bool false) (.int .i64 cell) (.slice A1 KL.length KL.length) (.slice B1 VL.length VL.length) (.slice C1 CL.length CL.length)
  have hR := HR.out.set8 _ (show w.heap.size + 1 < w.heap.size + 3 by omega) (.int .i64 level) (.string low) (.string bs) (.bool false) (.int .i64 cell) (.slice A1 KL.length KL.length) (.slice B1 VL.length VL.length) (.slice C1 CL.length CL.length)
  simp only [set8] at hZ hR
  replace hS := Lib.hid hZ
  replace HR := Lib.hid hR
  clear hZ hR
  simp only [List.cons_append, List.nil_append, List.set_cons_zero, List.set_cons_succ] at hS
  clear y0 y1 y2 y3 y4 y5 y6 y7 q0 q1 q2 q3 q4 q5 q6 q7
  refine hK.out _ _ (hS.out) (fun hcur2 => ?_)
  clear hK K
  replace hcur := hcur2
  (try dsimp only at hcur)
  clear hcur2
  (try simp only [Act.put, List.getElem_toArray, List.getElem_cons_zero, List.getElem_cons_succ, List.setIfInBounds_toArray, List.set_cons_zero, List.set_cons_succ])
  generalize World.setCell _ _ _ = X1 at hS HR hcur ⊢
  refine wpAnyH_ready (rs := [3]) (by decide +kernel) (by simp) ?_
  refine AllReadyH.cons rfl (fun K hK => ?_) AllReadyH.nil
  obtain ⟨y0, y1, y2, y3, y4, y5, y6, y7, q0, q1, q2, q3, q4, q5, q6, q7⟩ := nd_facts (hS.out.has 2 _ _ rfl).1
  go_simp
  have hZ := hS.out.store 2 rfl (.int .i64 level) (.string bs) (.string high) (.bool last) (.int .i64 next) (.slice A2 KR.length KR.length) (.slice B2 VR.length VR.length) (.slice C2 CR.length CR.length)
  have hR := HR.out.set8 _ (show w.heap.size + 2 < w.heap.size + 3 by omega) (.int .i64 level) (.string bs) (.string high) (.bool last) (.int .i64 next) (.slice A2 KR.length KR.length) (.slice B2 VR.length VR.length) (.slice C2 CR.length CR.length)
  simp only [set8] at hZ hR
  replace hS := Lib.hid hZ
  replace HR := Lib.hid hR
  clear hZ hR
  simp only [List.cons_append, List.nil_append, List.set_cons_zero, List.set_cons_succ] at hS
  clear y0 y1 y2 y3 y4 y5 y6 y7 q0 q1 q2 q3 q4 q5 q6 q7
  refine hK.out _ _ (hS.out) (fun hcur2 => ?_)
  clear hK K
  replace hcur := hcur2
  (try dsimp only at hcur)
  clear hcur2
  (try simp only [Act.put, List.getElem_toArray, List.getElem_cons_zero, List.getElem_cons_succ, List.setIfInBounds_toArray, List.set_cons_zero, List.set_cons_succ])
  generalize World.setCell _ _ _ = X2 at hS HR hcur ⊢
  refine wpAnyH_done (by decide +kernel) ?_ _
  clear hcur
  obtain ⟨rfl, rfl⟩ := HPL.out
  have hz1 := lies_new (d := ⟨level, low, bs, false, cell, KL, VL, CL⟩) HR.out.k1 HR.out.v1 HR.out.c1 HW.out.2.2.2.2.2.2.2.2.2.2.1 HW.out.2.2.2.2.2.2.2.2.2.2.2.2 HW.out.1 HW.out.2.2.2.2.1 HW.out.2.2.2.2.2.2.1 HW.out.2.2.2.2.2.2.2.2.1
  have hz2 := lies_new (d := ⟨level, bs, high, last, next, KR, VR, CR⟩) HR.out.k2 HR.out.v2 HR.out.c2 HW.out.2.2.2.2.2.2.2.2.2.2.2.2 HW.out.2.2.2.2.2.2.2.2.2.2.2.1 HW.out.2.1 HW.out.2.2.2.2.2.1 HW.out.2.2.2.2.2.2.2.1 HW.out.2.2.2.2.2.2.2.2.2.1
  have HFI := Lib.hid (And.intro (hz1.mono (Nat.le_add_right _ 3)) (And.intro (hz2.mono (Nat.le_add_right _ 3)) hS.out.below))
  clear hz1 hz2
  obtain ⟨x0, x1, x2, x3, x4, x5, x6, x7, f0, f1, f2, f3, f4, f5, f6, f7⟩ := nd_facts (hS.out.has 1 _ _ rfl).1
  obtain ⟨y0, y1, y2, y3, y4, y5, y6, y7, q0, q1, q2, q3, q4, q5, q6, q7⟩ := nd_facts (hS.out.has 2 _ _ rfl).1
  go_wp2_with fail
  exact bodyPost_ret (v := .tuple #[.agg #[.int .i64 level, .string low, .string bs, .bool false, .int .i64 cell, .slice A1 KL.length KL.length, .slice B1 VL.length VL.length, .slice C1 CL.length CL.length], .agg #[.int .i64 level, .string bs, .string high, .bool last, .int .i64 next, .slice A2 KR.length KR.length, .slice B2 VR.length VR.length, .slice C2 CR.length CR.length]]) (by simp [results, Try.results105, go_sem, *]) rfl ⟨_, _, _, _, _, _, _, _, _, _, _, _, by simp only [ndCells], HFI.out⟩

end Go.Proofs.Ytcoiadncennhpaa
