/- Contracts of package halve: halves, the border, part. -/
import Derived.Test.YtcoiadncennhpaaHalPl
import Derived.Test.YtcoiadncennhpaaOw
import Derived.Test.YtcoiadncennhpaaInLives
namespace Go.Proofs.Ytcoiadncennhpaa
open Go.RowKit

/-- A row that is new from a block on, where it has anything. -/
def NewB (B : Nat) (w : World) (E : TypeId) (A : Option Addr) (xs : List Value) : Prop := 0 < xs.length → ∃ g, A = some ⟨g, 0, none⟩ ∧ B ≤ g ∧ w.heap[g]? = some (.cells xs.toArray E (0, 0))
theorem NewB.up {B : Nat} {w w' : World} {E : TypeId} {A : Option Addr} {xs : List Value} (h : NewB B w E A xs) (hb : Below w.heap.size w w') : NewB B w' E A xs := fun h0 => by
  obtain ⟨g, e, hg, hh⟩ := h h0
  exact ⟨g, e, hg, (hb.block g (Array.getElem?_eq_some_iff.1 hh).1).trans hh⟩
theorem NewB.off {S : Nat → Prop} {B : Nat} {w w' : World} {E : TypeId} {A : Option Addr} {xs : List Value} (h : NewB B w E A xs) (ho : Off S w w') (hs : ∀ k, S k → k < B) : NewB B w' E A xs := fun h0 => by
  obtain ⟨g, e, hg, hh⟩ := h h0
  exact ⟨g, e, hg, (ho.block g (Array.getElem?_eq_some_iff.1 hh).1 (fun q => by have := hs _ q; omega)).trans hh⟩
theorem NewB.of_newly {w w' : World} {E : TypeId} {A : Option Addr} {xs : List Value} (h : Newly w w' E A xs) : NewB w.heap.size w' E A xs := fun h0 => ⟨_, (h h0).1, Nat.le_refl _, (h h0).2⟩
theorem NewB.mono {B B' : Nat} {w : World} {E : TypeId} {A : Option Addr} {xs : List Value} (h : NewB B w E A xs) (hb : B' ≤ B) : NewB B' w E A xs := fun h0 => by
  obtain ⟨g, e, hg, hh⟩ := h h0
  exact ⟨g, e, Nat.le_trans hb hg, hh⟩
theorem NewB.rd {B : Nat} {w : World} {E : TypeId} {A : Option Addr} {xs : List Value} (h : NewB B w E A xs) : Rd w w.heap.size 1 A xs.length xs := by
  by_cases h0 : 0 < xs.length
  · obtain ⟨g, rfl, _, hh⟩ := h h0
    exact Rd.new hh
  · obtain rfl : xs = [] := List.eq_nil_of_length_eq_zero (by omega)
    exact Rd.nil _ _ _ _
theorem off_in {B : Nat} (w : World) (p : Addr) (u : Value) (hp : p.block < B) : Off (fun k => k < B) w (w.setCell p u) := (Off.of_setCell w p u).mono (fun j _ e => by rw [e]; exact hp)
theorem NewB.set {B : Nat} {w : World} {E : TypeId} {A : Option Addr} {xs : List Value} (h : NewB B w E A xs) (p : Addr) (u : Value) (hp : p.block < B) : NewB B (w.setCell p u) E A xs := h.off (off_in w p u hp) (fun _ q => q)
theorem NewB.set8 {B : Nat} {w : World} {E : TypeId} {A : Option Addr} {xs : List Value} (h : NewB B w E A xs) (g : Nat) (hg : g < B) (a b c d e f x y : Value) : NewB B (set8 w g a b c d e f x y) E A xs := h.off (set8_off w g a b c d e f x y) (fun k q => by rw [q]; exact hg)
theorem NewB.fr {B : Nat} {w : World} {E : TypeId} {A : Option Addr} {xs : List Value} (h : NewB B w E A xs) : 0 < xs.length → ∀ a, A = some a → B ≤ a.block := fun h0 a e => by
  obtain ⟨g, e2, hg, _⟩ := h h0
  rw [e2] at e
  injection e with e
  subst e
  exact hg

theorem ret_two {A A' : Option Addr} {n n' m m' : Nat} (h : n = n') (k : m = m') : Ending.returned (.tuple #[.slice A n n, .slice A' m m]) = .returned (.tuple #[.slice A n' n', .slice A' m' m']) := by rw [h, k]
theorem cut_int (m : Nat) : ((m : Int) - (m : Int) / 2).toNat = cutN m := by unfold cutN; omega
set_option maxHeartbeats 400000 in
theorem halvS_any (A : Option Addr) (n ca m : Nat) (xs : List Value) (w : World) (hx : Rd w w.heap.size 1 A n xs) (h1 : ∀ u ∈ xs, u.oneCell' = true) (hn : n ≤ 1000000) (hca : n ≤ ca) (hm : m ≤ 1000000) :
    Calls Try.prog 127 #[.slice A n ca, .int .i64 m] w fun e w' => ∃ A1 A2, e = .returned (.tuple #[.slice A1 (xs.take (cutN m)).length (xs.take (cutN m)).length, .slice A2 (xs.drop (cutN m)).length (xs.drop (cutN m)).length]) ∧
      NewB w.heap.size w' 9 A1 (xs.take (cutN m)) ∧ NewB w.heap.size w' 9 A2 (xs.drop (cutN m)) ∧ Below w.heap.size w w' := by
  have hxl := hx.len1
  have e1 : part xs 0 ((m : Int) - (m : Int) / 2) = xs.take (cutN m) := by unfold part; rw [cut_int]; simp
  have e2 : part xs ((m : Int) - (m : Int) / 2) (n : Int) = xs.drop (cutN m) := by
    unfold part
    rw [cut_int, Int.toNat_natCast, List.take_of_length_le (by rw [List.length_drop]; omega)]
  have HX := Lib.hid hx
  have HA := Lib.hid (fun W hW => partS_any A n ca 0 ((m : Int) - (m : Int) / 2) xs W hW h1 hn hca)
  have HB := Lib.hid (fun W hW => partS_any A n ca ((m : Int) - (m : Int) / 2) (n : Int) xs W hW h1 hn hca)
  rw [e1] at HA
  rw [e2] at HB
  clear e1 e2 hx h1 hxl
  generalize xs.take (cutN m) = ys at HA ⊢
  generalize xs.drop (cutN m) = zs at HB ⊢
  go_enter Try.func127, Try.ntmps127
  go_wp2_with fail
  refine (HA.out _ HX.out).mono ?_
  rintro e W1 ⟨A1, rfl, hn1, hb1⟩
  have H1 := Lib.hid (And.intro (NewB.of_newly hn1) hb1)
  clear hn1 hb1
  go_wp2_with fail
  refine (HB.out _ (HX.out.up H1.out.2)).mono ?_
  rintro e W2 ⟨A2, rfl, hn2, hb2⟩
  have H2 := Lib.hid (And.intro (H1.out.1.up hb2) (And.intro ((NewB.of_newly hn2).mono H1.out.2.size) (below_of H1.out.2 hb2)))
  clear hn2 hb2 H1
  go_wp2_with fail
  go_ret2
  exact ⟨A1, A2, rfl, H2.out⟩
set_option maxHeartbeats 400000 in
theorem halvU_any (A : Option Addr) (n ca m : Nat) (xs : List Value) (w : World) (hx : Rd w w.heap.size 1 A n xs) (h1 : ∀ u ∈ xs, u.oneCell' = true) (hn : n ≤ 1000000) (hca : n ≤ ca) (hm : m ≤ 1000000) :
    Calls Try.prog 128 #[.slice A n ca, .int .i64 m] w fun e w' => ∃ A1 A2, e = .returned (.tuple #[.slice A1 (xs.take (cutN m)).length (xs.take (cutN m)).length, .slice A2 (xs.drop (cutN m)).length (xs.drop (cutN m)).length]) ∧
      NewB w.heap.size w' 35 A1 (xs.take (cutN m)) ∧ NewB w.heap.size w' 35 A2 (xs.drop (cutN m)) ∧ Below w.heap.size w w' := by
  have hxl := hx.len1
  have e1 : part xs 0 ((m : Int) - (m : Int) / 2) = xs.take (cutN m) := by unfold part; rw [cut_int]; simp
  have e2 : part xs ((m : Int) - (m : Int) / 2) (n : Int) = xs.drop (cutN m) := by
    unfold part
    rw [cut_int, Int.toNat_natCast, List.take_of_length_le (by rw [List.length_drop]; omega)]
  have HX := Lib.hid hx
  have HA := Lib.hid (fun W hW => partU_any A n ca 0 ((m : Int) - (m : Int) / 2) xs W hW h1 hn hca)
  have HB := Lib.hid (fun W hW => partU_any A n ca ((m : Int) - (m : Int) / 2) (n : Int) xs W hW h1 hn hca)
  rw [e1] at HA
  rw [e2] at HB
  clear e1 e2 hx h1 hxl
  generalize xs.take (cutN m) = ys at HA ⊢
  generalize xs.drop (cutN m) = zs at HB ⊢
  go_enter Try.func128, Try.ntmps128
  go_wp2_with fail
  refine (HA.out _ HX.out).mono ?_
  rintro e W1 ⟨A1, rfl, hn1, hb1⟩
  have H1 := Lib.hid (And.intro (NewB.of_newly hn1) hb1)
  clear hn1 hb1
  go_wp2_with fail
  refine (HB.out _ (HX.out.up H1.out.2)).mono ?_
  rintro e W2 ⟨A2, rfl, hn2, hb2⟩
  have H2 := Lib.hid (And.intro (H1.out.1.up hb2) (And.intro ((NewB.of_newly hn2).mono H1.out.2.size) (below_of H1.out.2 hb2)))
  clear hn2 hb2 H1
  go_wp2_with fail
  go_ret2
  exact ⟨A1, A2, rfl, H2.out⟩
set_option maxHeartbeats 400000 in
theorem halvI_any (A : Option Addr) (n ca m : Nat) (xs : List Value) (w : World) (hx : Rd w w.heap.size 1 A n xs) (h1 : ∀ u ∈ xs, u.oneCell' = true) (hn : n ≤ 1000000) (hca : n ≤ ca) (hm : m ≤ 1000000) :
    Calls Try.prog 129 #[.slice A n ca, .int .i64 m] w fun e w' => ∃ A1 A2, e = .returned (.tuple #[.slice A1 (xs.take (cutN m)).length (xs.take (cutN m)).length, .slice A2 (xs.drop (cutN m)).length (xs.drop (cutN m)).length]) ∧
      NewB w.heap.size w' 3 A1 (xs.take (cutN m)) ∧ NewB w.heap.size w' 3 A2 (xs.drop (cutN m)) ∧ Below w.heap.size w w' := by
  have hxl := hx.len1
  have e1 : part xs 0 ((m : Int) - (m : Int) / 2) = xs.take (cutN m) := by unfold part; rw [cut_int]; simp
  have e2 : part xs ((m : Int) - (m : Int) / 2) (n : Int) = xs.drop (cutN m) := by
    unfold part
    rw [cut_int, Int.toNat_natCast, List.take_of_length_le (by rw [List.length_drop]; omega)]
  have HX := Lib.hid hx
  have HA := Lib.hid (fun W hW => partI_any A n ca 0 ((m : Int) - (m : Int) / 2) xs W hW h1 hn hca)
  have HB := Lib.hid (fun W hW => partI_any A n ca ((m : Int) - (m : Int) / 2) (n : Int) xs W hW h1 hn hca)
  rw [e1] at HA
  rw [e2] at HB
  clear e1 e2 hx h1 hxl
  generalize xs.take (cutN m) = ys at HA ⊢
  generalize xs.drop (cutN m) = zs at HB ⊢
  go_enter Try.func129, Try.ntmps129
  go_wp2_with fail
  refine (HA.out _ HX.out).mono ?_
  rintro e W1 ⟨A1, rfl, hn1, hb1⟩
  have H1 := Lib.hid (And.intro (NewB.of_newly hn1) hb1)
  clear hn1 hb1
  go_wp2_with fail
  refine (HB.out _ (HX.out.up H1.out.2)).mono ?_
  rintro e W2 ⟨A2, rfl, hn2, hb2⟩
  have H2 := Lib.hid (And.intro (H1.out.1.up hb2) (And.intro ((NewB.of_newly hn2).mono H1.out.2.size) (below_of H1.out.2 hb2)))
  clear hn2 hb2 H1
  go_wp2_with fail
  go_ret2
  exact ⟨A1, A2, rfl, H2.out⟩

/-- The border, of the level and of the two keys that it parts. -/
def brd (level : Int) (a b : ByteArray) : ByteArray := if 0 < level then b else if Pl.ls a.data.toList b.data.toList = true then b.extract 0 (Pl.shr a.data.toList b.data.toList + 1) else ⟨#[]⟩
theorem bordS_eq (d : Nd) : bordS d = brd d.level (d.keys.getD (cutN d.keys.length - 1) ByteArray.empty) (d.keys.getD (cutN d.keys.length) ByteArray.empty) := rfl
theorem brd_size (level : Int) (a b : ByteArray) (hb : b.size ≤ maxLen) : (brd level a b).size ≤ maxLen := by
  unfold brd
  split
  · exact hb
  · split
    · rename_i h
      rw [pre_size _ _ (by have := Pl.shr_lt h; have hl : b.data.toList.length = b.size := by simp
                           omega)]
      have := Pl.shr_lt h
      have hl : b.data.toList.length = b.size := by simp
      omega
    · exact Nat.zero_le _
/-- What parts two keys. -/
def prt (a b : ByteArray) : ByteArray × Bool := if Pl.ls a.data.toList b.data.toList = true then (b.extract 0 (Pl.shr a.data.toList b.data.toList + 1), true) else (⟨#[]⟩, false)
theorem parting_any (a b : ByteArray) (w : World) (ha : a.size ≤ maxLen) (hb : b.size ≤ maxLen) : Calls Try.prog 131 #[.string a, .string b] w (Ret (.tuple #[.string (prt a b).1, .bool (prt a b).2]) w) := by
  unfold prt
  cases h : Pl.ls a.data.toList b.data.toList
  · rw [if_neg Bool.false_ne_true]; exact parting_no a b w ha hb h
  · rw [if_pos rfl]; exact parting_yes a b w ha hb h
theorem refparting_any (a b : ByteArray) (w : World) (ha : a.size ≤ maxLen) (hb : b.size ≤ maxLen) : Calls Try.prog 133 #[.string a, .string b] w (Ret (.tuple #[.string (prt a b).1, .bool (prt a b).2]) w) := by
  unfold prt
  cases h : Pl.ls a.data.toList b.data.toList
  · rw [if_neg Bool.false_ne_true]; exact refparting_no a b w ha hb h
  · rw [if_pos rfl]; exact refparting_yes a b w ha hb h
theorem brd_up {level : Int} (a b : ByteArray) (h : 0 < level) : brd level a b = b := if_pos h
theorem brd_leaf {level : Int} (a b : ByteArray) (h : ¬ 0 < level) : brd level a b = (prt a b).1 := by
  unfold brd prt
  rw [if_neg h]
  split <;> rfl

set_option maxRecDepth 100000 in
set_option maxHeartbeats 1000000 in
theorem partborder_any (level : Int) (ls rs : List ByteArray) (A1 A2 : Option Addr) (c1 c2 g0 g1 g2 : Nat) (W : World) (hL : RdS W A1 ls.length ls) (hR : RdS W A2 rs.length rs) (f1 : Fits ls) (f2 : Fits rs) (p1 : 0 < ls.length) (p2 : 0 < rs.length) (q1 : ls.length ≤ 1000000) (q2 : rs.length ≤ 1000000)
    (k0 : W.cell? ⟨g0, 0, none⟩ = some (.int .i64 level)) (k1 : W.cell? ⟨g1, 5, none⟩ = some (.slice A1 ls.length c1)) (k2 : W.cell? ⟨g2, 5, none⟩ = some (.slice A2 rs.length c2)) (hlt : g0 < W.heap.size ∧ g1 < W.heap.size ∧ g2 < W.heap.size) :
    Calls Try.prog 130 #[.pointer (some ⟨g0, 0, none⟩), .pointer (some ⟨g2, 0, none⟩), .pointer (some ⟨g1, 0, none⟩)] W (Ret (.string (brd level (ls.getD (ls.length - 1) ByteArray.empty) (rs.getD 0 ByteArray.empty))) W) := by
  obtain ⟨b1, o1, rfl, hb1, hc1⟩ := hL.spot p1
  obtain ⟨b2, o2, rfl, hb2, hc2⟩ := hR.spot p2
  have d1 := hc1 (ls.length - 1) (by omega)
  have d2 := hc2 0 p2
  rw [getD_at _ _ _ (show ls.length - 1 < ls.length by omega), getD_at _ _ _ p2]
  have s1 := f1 (ls.length - 1) (by omega)
  have s2 := f2 0 p2
  generalize ls[ls.length - 1] = x at d1 s1 ⊢
  generalize rs[0] = y at d2 s2 ⊢
  clear hL hR hc1 hc2 f1 f2
  rw [Nat.add_zero] at d2
  by_cases hl : 0 < level
  · have hl2 : decide (0 < level) = true := decide_eq_true hl
    rw [brd_up _ _ hl]
    clear hl
    go_enter Try.func130, Try.ntmps130
    go_wp2_with fail
    go_ret
    exact ⟨rfl, Below.refl _ _⟩
  · have hl2 : decide (0 < level) = false := decide_eq_false hl
    rw [brd_leaf _ _ hl]
    have HP := Lib.hid (fun W => parting_any x y W s1 s2)
    generalize (prt x y).1 = pa at HP ⊢
    generalize (prt x y).2 = pb at HP ⊢
    have HK := Lib.hid (And.intro k1 (And.intro k2 (And.intro d1 d2)))
    have HL := Lib.hid (And.intro hlt (And.intro hb1 hb2))
    have p2i : (0 : Int) < (rs.length : Int) := by omega
    have hw : IntKind.i64.wrap ((ls.length : Int) - 1) = ((ls.length - 1 : Nat) : Int) := by
      rw [IntWalk.i64_in _ (by omega)]; omega
    have hq2 : ((ls.length - 1 : Nat) : Int) < (ls.length : Int) := by omega
    generalize ls.length - 1 = q at HK hw hq2
    clear hl s1 s2 k1 k2 d1 d2 hb1 hb2 hlt
    go_enter Try.func130, Try.ntmps130
    go_upto_region 3 with fail
    clear k0 hl2
    refine wp_region_held_drew (S := fun w' => Below W.heap.size W w') (by kernel_rfl) (Below.drew (Below.refl _ _)) (fun hcur => ?_)
    replace hcur : Below W.heap.size W W.drew := hcur
    refine wpAnyH_take (i := 0) (v := ?_) rfl (by decide +kernel) (by decide +kernel) (by decide +kernel) (fun _ _ _ h => h) (Or.inl ⟨by rfl, ?hy⟩) hcur ?_
    case hy =>
      intro w1 hSw
      replace hSw : Below W.heap.size W w1 := hSw
      have c1 := (hSw.cell (p := ⟨g1, 5, none⟩) HL.out.1.2.1).trans HK.out.1
      have c2 := (hSw.cell (p := ⟨g2, 5, none⟩) HL.out.1.2.2).trans HK.out.2.1
      have c3 := (hSw.cell (p := ⟨b1, o1 + q, none⟩) HL.out.2.1).trans HK.out.2.2.1
      have c4 := (hSw.cell (p := ⟨b2, o2, none⟩) HL.out.2.2).trans HK.out.2.2.2
      go_simp
      (try with_reducible rfl)
    (try simp only [Act.put, List.getElem_toArray, List.getElem_cons_zero, List.getElem_cons_succ, List.setIfInBounds_toArray, List.set_cons_zero, List.set_cons_succ])
    refine wpAnyH_take (i := 1) (v := ?_) rfl (by decide +kernel) (by decide +kernel) (by decide +kernel) (fun _ _ _ h => h) (Or.inl ⟨by rfl, ?hy⟩) hcur ?_
    case hy =>
      intro w1 hSw
      replace hSw : Below W.heap.size W w1 := hSw
      have c1 := (hSw.cell (p := ⟨g1, 5, none⟩) HL.out.1.2.1).trans HK.out.1
      have c2 := (hSw.cell (p := ⟨g2, 5, none⟩) HL.out.1.2.2).trans HK.out.2.1
      have c3 := (hSw.cell (p := ⟨b1, o1 + q, none⟩) HL.out.2.1).trans HK.out.2.2.1
      have c4 := (hSw.cell (p := ⟨b2, o2, none⟩) HL.out.2.2).trans HK.out.2.2.2
      go_simp
      (try with_reducible rfl)
    (try simp only [Act.put, List.getElem_toArray, List.getElem_cons_zero, List.getElem_cons_succ, List.setIfInBounds_toArray, List.set_cons_zero, List.set_cons_succ])
    refine wpAnyH_take (i := 2) (v := ?_) rfl (by decide +kernel) (by decide +kernel) (by decide +kernel) (fun _ _ _ h => h) (Or.inl ⟨by rfl, ?hy⟩) hcur ?_
    case hy =>
      intro w1 hSw
      replace hSw : Below W.heap.size W w1 := hSw
      have c1 := (hSw.cell (p := ⟨g1, 5, none⟩) HL.out.1.2.1).trans HK.out.1
      have c2 := (hSw.cell (p := ⟨g2, 5, none⟩) HL.out.1.2.2).trans HK.out.2.1
      have c3 := (hSw.cell (p := ⟨b1, o1 + q, none⟩) HL.out.2.1).trans HK.out.2.2.1
      have c4 := (hSw.cell (p := ⟨b2, o2, none⟩) HL.out.2.2).trans HK.out.2.2.2
      go_simp
      (try with_reducible rfl)
    (try simp only [Act.put, List.getElem_toArray, List.getElem_cons_zero, List.getElem_cons_succ, List.setIfInBounds_toArray, List.set_cons_zero, List.set_cons_succ])
    refine wpAnyH_take (i := 3) (v := ?_) rfl (by decide +kernel) (by decide +kernel) (by decide +kernel) (fun _ _ _ h => h) (Or.inl ⟨by rfl, ?hy⟩) hcur ?_
    case hy =>
      intro w1 hSw
      replace hSw : Below W.heap.size W w1 := hSw
      have c1 := (hSw.cell (p := ⟨g1, 5, none⟩) HL.out.1.2.1).trans HK.out.1
      have c2 := (hSw.cell (p := ⟨g2, 5, none⟩) HL.out.1.2.2).trans HK.out.2.1
      have c3 := (hSw.cell (p := ⟨b1, o1 + q, none⟩) HL.out.2.1).trans HK.out.2.2.1
      have c4 := (hSw.cell (p := ⟨b2, o2, none⟩) HL.out.2.2).trans HK.out.2.2.2
      go_simp
      (try with_reducible rfl)
    (try simp only [Act.put, List.getElem_toArray, List.getElem_cons_zero, List.getElem_cons_succ, List.setIfInBounds_toArray, List.set_cons_zero, List.set_cons_succ])
    refine wpAnyH_take (i := 4) (v := ?_) rfl (by decide +kernel) (by decide +kernel) (by decide +kernel) (fun _ _ _ h => h) (Or.inl ⟨by rfl, ?hy⟩) hcur ?_
    case hy =>
      intro w1 hSw
      replace hSw : Below W.heap.size W w1 := hSw
      have c1 := (hSw.cell (p := ⟨g1, 5, none⟩) HL.out.1.2.1).trans HK.out.1
      have c2 := (hSw.cell (p := ⟨g2, 5, none⟩) HL.out.1.2.2).trans HK.out.2.1
      have c3 := (hSw.cell (p := ⟨b1, o1 + q, none⟩) HL.out.2.1).trans HK.out.2.2.1
      have c4 := (hSw.cell (p := ⟨b2, o2, none⟩) HL.out.2.2).trans HK.out.2.2.2
      go_simp
      (try with_reducible rfl)
    (try simp only [Act.put, List.getElem_toArray, List.getElem_cons_zero, List.getElem_cons_succ, List.setIfInBounds_toArray, List.set_cons_zero, List.set_cons_succ])
    refine wpAnyH_take (i := 5) (v := .int .i64 (q : Int)) rfl (by decide +kernel) (by decide +kernel) (by decide +kernel) (fun _ _ _ h => h) (Or.inl ⟨by rfl, ?hy⟩) hcur ?_
    case hy =>
      intro w1 hSw
      replace hSw : Below W.heap.size W w1 := hSw
      have c1 := (hSw.cell (p := ⟨g1, 5, none⟩) HL.out.1.2.1).trans HK.out.1
      have c2 := (hSw.cell (p := ⟨g2, 5, none⟩) HL.out.1.2.2).trans HK.out.2.1
      have c3 := (hSw.cell (p := ⟨b1, o1 + q, none⟩) HL.out.2.1).trans HK.out.2.2.1
      have c4 := (hSw.cell (p := ⟨b2, o2, none⟩) HL.out.2.2).trans HK.out.2.2.2
      go_simp
      skip
    (try simp only [Act.put, List.getElem_toArray, List.getElem_cons_zero, List.getElem_cons_succ, List.setIfInBounds_toArray, List.set_cons_zero, List.set_cons_succ])
    refine wpAnyH_take (i := 6) (v := ?_) rfl (by decide +kernel) (by decide +kernel) (by decide +kernel) (fun _ _ _ h => h) (Or.inl ⟨by rfl, ?hy⟩) hcur ?_
    case hy =>
      intro w1 hSw
      replace hSw : Below W.heap.size W w1 := hSw
      have c1 := (hSw.cell (p := ⟨g1, 5, none⟩) HL.out.1.2.1).trans HK.out.1
      have c2 := (hSw.cell (p := ⟨g2, 5, none⟩) HL.out.1.2.2).trans HK.out.2.1
      have c3 := (hSw.cell (p := ⟨b1, o1 + q, none⟩) HL.out.2.1).trans HK.out.2.2.1
      have c4 := (hSw.cell (p := ⟨b2, o2, none⟩) HL.out.2.2).trans HK.out.2.2.2
      go_simp
      (try with_reducible rfl)
    (try simp only [Act.put, List.getElem_toArray, List.getElem_cons_zero, List.getElem_cons_succ, List.setIfInBounds_toArray, List.set_cons_zero, List.set_cons_succ])
    refine wpAnyH_take (i := 7) (v := ?_) rfl (by decide +kernel) (by decide +kernel) (by decide +kernel) (fun _ _ _ h => h) (Or.inl ⟨by rfl, ?hy⟩) hcur ?_
    case hy =>
      intro w1 hSw
      replace hSw : Below W.heap.size W w1 := hSw
      have c1 := (hSw.cell (p := ⟨g1, 5, none⟩) HL.out.1.2.1).trans HK.out.1
      have c2 := (hSw.cell (p := ⟨g2, 5, none⟩) HL.out.1.2.2).trans HK.out.2.1
      have c3 := (hSw.cell (p := ⟨b1, o1 + q, none⟩) HL.out.2.1).trans HK.out.2.2.1
      have c4 := (hSw.cell (p := ⟨b2, o2, none⟩) HL.out.2.2).trans HK.out.2.2.2
      go_simp
      (try with_reducible rfl)
    (try simp only [Act.put, List.getElem_toArray, List.getElem_cons_zero, List.getElem_cons_succ, List.setIfInBounds_toArray, List.set_cons_zero, List.set_cons_succ])
    refine wpAnyH_take (i := 8) (v := ?_) rfl (by decide +kernel) (by decide +kernel) (by decide +kernel) (fun _ _ _ h => h) (Or.inl ⟨by rfl, ?hy⟩) hcur ?_
    case hy =>
      intro w1 hSw
      replace hSw : Below W.heap.size W w1 := hSw
      have c1 := (hSw.cell (p := ⟨g1, 5, none⟩) HL.out.1.2.1).trans HK.out.1
      have c2 := (hSw.cell (p := ⟨g2, 5, none⟩) HL.out.1.2.2).trans HK.out.2.1
      have c3 := (hSw.cell (p := ⟨b1, o1 + q, none⟩) HL.out.2.1).trans HK.out.2.2.1
      have c4 := (hSw.cell (p := ⟨b2, o2, none⟩) HL.out.2.2).trans HK.out.2.2.2
      go_simp
      (try with_reducible rfl)
    (try simp only [Act.put, List.getElem_toArray, List.getElem_cons_zero, List.getElem_cons_succ, List.setIfInBounds_toArray, List.set_cons_zero, List.set_cons_succ])
    refine wpAnyH_take (i := 9) (v := ?_) rfl (by decide +kernel) (by decide +kernel) (by decide +kernel) (fun _ _ _ h => h) (Or.inl ⟨by rfl, ?hy⟩) hcur ?_
    case hy =>
      intro w1 hSw
      replace hSw : Below W.heap.size W w1 := hSw
      have c1 := (hSw.cell (p := ⟨g1, 5, none⟩) HL.out.1.2.1).trans HK.out.1
      have c2 := (hSw.cell (p := ⟨g2, 5, none⟩) HL.out.1.2.2).trans HK.out.2.1
      have c3 := (hSw.cell (p := ⟨b1, o1 + q, none⟩) HL.out.2.1).trans HK.out.2.2.1
      have c4 := (hSw.cell (p := ⟨b2, o2, none⟩) HL.out.2.2).trans HK.out.2.2.2
      go_simp
      (try with_reducible rfl)
    (try simp only [Act.put, List.getElem_toArray, List.getElem_cons_zero, List.getElem_cons_succ, List.setIfInBounds_toArray, List.set_cons_zero, List.set_cons_succ])
    refine wpAnyH_take (i := 10) (v := ?_) rfl (by decide +kernel) (by decide +kernel) (by decide +kernel) (fun _ _ _ h => h) (Or.inl ⟨by rfl, ?hy⟩) hcur ?_
    case hy =>
      intro w1 hSw
      replace hSw : Below W.heap.size W w1 := hSw
      have c1 := (hSw.cell (p := ⟨g1, 5, none⟩) HL.out.1.2.1).trans HK.out.1
      have c2 := (hSw.cell (p := ⟨g2, 5, none⟩) HL.out.1.2.2).trans HK.out.2.1
      have c3 := (hSw.cell (p := ⟨b1, o1 + q, none⟩) HL.out.2.1).trans HK.out.2.2.1
      have c4 := (hSw.cell (p := ⟨b2, o2, none⟩) HL.out.2.2).trans HK.out.2.2.2
      go_simp
      (try with_reducible rfl)
    (try simp only [Act.put, List.getElem_toArray, List.getElem_cons_zero, List.getElem_cons_succ, List.setIfInBounds_toArray, List.set_cons_zero, List.set_cons_succ])
    refine wpAnyH_take (i := 11) (v := ?_) rfl (by decide +kernel) (by decide +kernel) (by decide +kernel) (fun _ _ _ h => h) (Or.inl ⟨by rfl, ?hy⟩) hcur ?_
    case hy =>
      intro w1 hSw
      replace hSw : Below W.heap.size W w1 := hSw
      have c1 := (hSw.cell (p := ⟨g1, 5, none⟩) HL.out.1.2.1).trans HK.out.1
      have c2 := (hSw.cell (p := ⟨g2, 5, none⟩) HL.out.1.2.2).trans HK.out.2.1
      have c3 := (hSw.cell (p := ⟨b1, o1 + q, none⟩) HL.out.2.1).trans HK.out.2.2.1
      have c4 := (hSw.cell (p := ⟨b2, o2, none⟩) HL.out.2.2).trans HK.out.2.2.2
      go_simp
      (try with_reducible rfl)
    (try simp only [Act.put, List.getElem_toArray, List.getElem_cons_zero, List.getElem_cons_succ, List.setIfInBounds_toArray, List.set_cons_zero, List.set_cons_succ])
    refine wpAnyH_ready (rs := [12]) (by decide +kernel) (by simp) ?_
    refine AllReadyH.cons rfl (fun K hK => ?_) AllReadyH.nil
    go_simp
    refine (HP.out _).mono ?_
    rintro e wn ⟨rfl, hbn⟩
    go_wp2_with fail
    refine hK.out _ _ (below_of hcur hbn) (fun _ => ?_)
    clear hK K
    replace hcur := below_of hcur hbn
    clear hbn
    (try simp only [Act.put, List.getElem_toArray, List.getElem_cons_zero, List.getElem_cons_succ, List.setIfInBounds_toArray, List.set_cons_zero, List.set_cons_succ])
    refine wpAnyH_take (i := 13) (v := ?_) rfl (by decide +kernel) (by decide +kernel) (by decide +kernel) (fun _ _ _ h => h) (Or.inl ⟨by rfl, ?hy⟩) hcur ?_
    case hy =>
      intro w1 hSw
      replace hSw : Below W.heap.size W w1 := hSw
      have c1 := (hSw.cell (p := ⟨g1, 5, none⟩) HL.out.1.2.1).trans HK.out.1
      have c2 := (hSw.cell (p := ⟨g2, 5, none⟩) HL.out.1.2.2).trans HK.out.2.1
      have c3 := (hSw.cell (p := ⟨b1, o1 + q, none⟩) HL.out.2.1).trans HK.out.2.2.1
      have c4 := (hSw.cell (p := ⟨b2, o2, none⟩) HL.out.2.2).trans HK.out.2.2.2
      go_simp
      (try with_reducible rfl)
    (try simp only [Act.put, List.getElem_toArray, List.getElem_cons_zero, List.getElem_cons_succ, List.setIfInBounds_toArray, List.set_cons_zero, List.set_cons_succ])
    refine wpAnyH_take (i := 14) (v := ?_) rfl (by decide +kernel) (by decide +kernel) (by decide +kernel) (fun _ _ _ h => h) (Or.inl ⟨by rfl, ?hy⟩) hcur ?_
    case hy =>
      intro w1 hSw
      replace hSw : Below W.heap.size W w1 := hSw
      have c1 := (hSw.cell (p := ⟨g1, 5, none⟩) HL.out.1.2.1).trans HK.out.1
      have c2 := (hSw.cell (p := ⟨g2, 5, none⟩) HL.out.1.2.2).trans HK.out.2.1
      have c3 := (hSw.cell (p := ⟨b1, o1 + q, none⟩) HL.out.2.1).trans HK.out.2.2.1
      have c4 := (hSw.cell (p := ⟨b2, o2, none⟩) HL.out.2.2).trans HK.out.2.2.2
      go_simp
      (try with_reducible rfl)
    (try simp only [Act.put, List.getElem_toArray, List.getElem_cons_zero, List.getElem_cons_succ, List.setIfInBounds_toArray, List.set_cons_zero, List.set_cons_succ])
    refine wpAnyH_take (i := 15) (v := ?_) rfl (by decide +kernel) (by decide +kernel) (by decide +kernel) (fun _ _ _ h => h) (Or.inl ⟨by rfl, ?hy⟩) hcur ?_
    case hy =>
      intro w1 hSw
      replace hSw : Below W.heap.size W w1 := hSw
      have c1 := (hSw.cell (p := ⟨g1, 5, none⟩) HL.out.1.2.1).trans HK.out.1
      have c2 := (hSw.cell (p := ⟨g2, 5, none⟩) HL.out.1.2.2).trans HK.out.2.1
      have c3 := (hSw.cell (p := ⟨b1, o1 + q, none⟩) HL.out.2.1).trans HK.out.2.2.1
      have c4 := (hSw.cell (p := ⟨b2, o2, none⟩) HL.out.2.2).trans HK.out.2.2.2
      go_simp
      (try with_reducible rfl)
    (try simp only [Act.put, List.getElem_toArray, List.getElem_cons_zero, List.getElem_cons_succ, List.setIfInBounds_toArray, List.set_cons_zero, List.set_cons_succ])
    refine wpAnyH_take (i := 16) (v := ?_) rfl (by decide +kernel) (by decide +kernel) (by decide +kernel) (fun _ _ _ h => h) (Or.inl ⟨by rfl, ?hy⟩) hcur ?_
    case hy =>
      intro w1 hSw
      replace hSw : Below W.heap.size W w1 := hSw
      have c1 := (hSw.cell (p := ⟨g1, 5, none⟩) HL.out.1.2.1).trans HK.out.1
      have c2 := (hSw.cell (p := ⟨g2, 5, none⟩) HL.out.1.2.2).trans HK.out.2.1
      have c3 := (hSw.cell (p := ⟨b1, o1 + q, none⟩) HL.out.2.1).trans HK.out.2.2.1
      have c4 := (hSw.cell (p := ⟨b2, o2, none⟩) HL.out.2.2).trans HK.out.2.2.2
      go_simp
      (try with_reducible rfl)
    (try simp only [Act.put, List.getElem_toArray, List.getElem_cons_zero, List.getElem_cons_succ, List.setIfInBounds_toArray, List.set_cons_zero, List.set_cons_succ])
    refine wpAnyH_take (i := 17) (v := ?_) rfl (by decide +kernel) (by decide +kernel) (by decide +kernel) (fun _ _ _ h => h) (Or.inl ⟨by rfl, ?hy⟩) hcur ?_
    case hy =>
      intro w1 hSw
      replace hSw : Below W.heap.size W w1 := hSw
      have c1 := (hSw.cell (p := ⟨g1, 5, none⟩) HL.out.1.2.1).trans HK.out.1
      have c2 := (hSw.cell (p := ⟨g2, 5, none⟩) HL.out.1.2.2).trans HK.out.2.1
      have c3 := (hSw.cell (p := ⟨b1, o1 + q, none⟩) HL.out.2.1).trans HK.out.2.2.1
      have c4 := (hSw.cell (p := ⟨b2, o2, none⟩) HL.out.2.2).trans HK.out.2.2.2
      go_simp
      (try with_reducible rfl)
    (try simp only [Act.put, List.getElem_toArray, List.getElem_cons_zero, List.getElem_cons_succ, List.setIfInBounds_toArray, List.set_cons_zero, List.set_cons_succ])
    refine wpAnyH_done (by decide +kernel) ?_ _
    go_wp2_with fail
    go_ret
    exact ⟨rfl, hcur⟩

end Go.Proofs.Ytcoiadncennhpaa
