/- Contracts of package sip: what a pen writes, two. -/
import Derived.Test.YthbafbgnclpbpaaPen2
namespace Go.Proofs.Ythbafbgnclpbpaa
open Go.RowKit

theorem pennum_nil (A : Option Addr) (n c : Nat) (w : World) : Calls Try.prog 32 #[.pointer none, .slice A n c] w fun e w' => e = .returned (.tuple #[]) ∧ w' = w := by
  go_enter Try.func32, Try.ntmps32
  go_wp2_with fail
  first | go_end0 | refine bodyPost_ret (results_none rfl _ _ _) rfl ?_
  exact ⟨rfl, rfl⟩

/-- A number with a sign as one without. -/
def turn (z : Int) : Nat := if 0 ≤ z then 2 * z.toNat else 2 * (-(z + 1)).toNat + 1
theorem turn_lt {z : Int} (h : -9223372036854775808 ≤ z ∧ z ≤ 9223372036854775807) : turn z < 18446744073709551616 := by unfold turn; split <;> omega

theorem xor_all (b : Nat) (h : b < 18446744073709551616) : 18446744073709551615 ^^^ b = 18446744073709551615 - b := by
  have e := congrArg BitVec.toNat (BitVec.allOnes_xor (x := BitVec.ofNat 64 b))
  rw [BitVec.toNat_xor, BitVec.toNat_not, BitVec.toNat_allOnes, BitVec.toNat_ofNat, Nat.mod_eq_of_lt (by omega)] at e
  exact e
theorem max_u64 : IntKind.u64.max = 18446744073709551615 := by decide
theorem turn_neg {z : Int} (h : -9223372036854775808 ≤ z) (h0 : z < 0) : bits .xor .u64 IntKind.u64.max (IntKind.u64.wrap (IntKind.u64.wrap z * 2)) = ((turn z : Nat) : Int) := by
  rw [max_u64, IntKind.wrap_u64, IntKind.wrap_u64, u64_xor _ _ (by omega) (by omega) (by omega) (by omega)]
  have e : (18446744073709551615 : Int).toNat = 18446744073709551615 := rfl
  rw [e, xor_all _ (by omega)]
  unfold turn
  rw [if_neg (by omega)]
  omega
theorem turn_pos {z : Int} (h : z ≤ 9223372036854775807) (h0 : 0 ≤ z) : IntKind.u64.wrap (IntKind.u64.wrap z * 2) = ((turn z : Nat) : Int) := by
  rw [IntKind.wrap_u64, IntKind.wrap_u64]
  unfold turn
  rw [if_pos h0]
  omega

theorem told_new {w : World} {bp : Nat} {r : Option Nat} {l : List Nat} (h : PenAt w bp r l) (xs : List Value) (T : TypeId) : Told (w.alloc (.cells xs.toArray T)) bp r w.heap.size xs := by
  have hl := h.lt
  refine ⟨by simp, by omega, fun e => by have := hl.2 _ e.symm; omega, fun j u hu => ?_⟩
  exact new_cell w xs.toArray T j u (by simpa using hu)

set_option maxRecDepth 100000 in
set_option maxHeartbeats 1000000 in
theorem penint_any (bp : Nat) (r : Option Nat) (l : List Nat) (zs : List Int) (g c : Nat) (w : World) (hp : PenAt w bp r l) (hn : ∀ z ∈ zs, -9223372036854775808 ≤ z ∧ z ≤ 9223372036854775807) (ht : Told w bp r g (i64s zs)) (hl : l.length + 11 * zs.length ≤ 900000) :
    Calls Try.prog 74 #[.pointer (some ⟨bp, 0, none⟩), .slice (some ⟨g, 0, none⟩) zs.length c] w (PenTo w bp r (l ++ zs.flatMap fun z => dig (turn z))) := by
  go_enter Try.func74, Try.ntmps74
  go_wp2_with fail
  go_loopw [5, 6, 9] (fun _ _ i wr => ∃ (j : Nat) (r' : Option Nat), j ≤ zs.length ∧ i = .int .i64 j ∧ PenRel w bp r wr r' (l ++ (zs.take j).flatMap fun z => dig (turn z))) (fun _ _ i _ => zs.length - (intOf i).toNat)
  case atStart => exact ⟨0, r, Nat.zero_le _, rfl, by simpa using PenRel.refl hp⟩
  case round =>
    obtain ⟨j, r1, hj, rfl, hrel1⟩ := hrel
    by_cases hlt : j < zs.length
    · have hcj := (ht.on hrel1).2.2.2 j _ (i64s_at zs j hlt)
      have hnj := hn _ (List.getElem_mem hlt)
      have Hft := Lib.hid (flat_take (fun z => dig (turn z)) zs j hlt)
      generalize zs[j] = z at hcj hnj Hft
      have hlen : (l ++ (zs.take j).flatMap fun z => dig (turn z)).length + 11 ≤ 900000 := by
        have := flat_len ((zs.take j).map turn)
        rw [List.flatMap_map, List.length_map, List.length_take, Nat.min_eq_left (by omega)] at this
        rw [List.length_append]; omega
      generalize hl1 : (l ++ (zs.take j).flatMap fun z => dig (turn z)) = l1 at hrel1 hlen
      have HL1 := Lib.hid hl1
      have Hnj := Lib.hid hnj
      have Hlen := Lib.hid hlen
      have Hrel := Lib.hid hrel1
      clear hl1 hlen hrel1 hnj
      by_cases hz : z < 0
      · go_wp2_with fail
        rw [turn_neg Hnj.out.1 hz]
        refine (pennum_any bp r1 l1 [turn z] wr.heap.size 1 _ (Hrel.out.1.below (below_alloc _ _)) (by intro n hn; simp at hn; subst hn; exact turn_lt Hnj.out) (told_new Hrel.out.1 (u64n [turn z]) _) (by have := Hlen.out; simp; omega)).mono ?_
        rintro e w2 ⟨rfl, r2, hrel2⟩
        have Hrel2 := Lib.hid (Hrel.out.trans (PenRel.of_below (below_alloc _ _) hrel2))
        clear hrel2
        go_wp2_with fail
        go_roundw
        case rel =>
          have h := Hrel2.out
          rw [List.flatMap_cons, List.flatMap_nil, List.append_nil, ← HL1.out, List.append_assoc, ← Hft.out] at h
          exact ⟨j + 1, _, by omega, by go_num, h⟩
        case measure => simp [intOf]; omega
      · go_wp2_with fail
        rw [turn_pos Hnj.out.2 (by omega)]
        refine (pennum_any bp r1 l1 [turn z] wr.heap.size 1 _ (Hrel.out.1.below (below_alloc _ _)) (by intro n hn; simp at hn; subst hn; exact turn_lt Hnj.out) (told_new Hrel.out.1 (u64n [turn z]) _) (by have := Hlen.out; simp; omega)).mono ?_
        rintro e w2 ⟨rfl, r2, hrel2⟩
        have Hrel2 := Lib.hid (Hrel.out.trans (PenRel.of_below (below_alloc _ _) hrel2))
        clear hrel2
        go_wp2_with fail
        go_roundw
        case rel =>
          have h := Hrel2.out
          rw [List.flatMap_cons, List.flatMap_nil, List.append_nil, ← HL1.out, List.append_assoc, ← Hft.out] at h
          exact ⟨j + 1, _, by omega, by go_num, h⟩
        case measure => simp [intOf]; omega
    · have hj' : j = zs.length := by omega
      subst hj'
      rw [List.take_length] at hrel1
      go_wp2_with fail
      go_end0
      exact ⟨rfl, _, hrel1⟩

/-- An append of which the run is known, as a law for the walk; two types. -/
theorem wpList_append_run2 {P : Program} {w w' : World} {ops : Array Oper} {rest : List Oper} {o : Oper} {a : Act} {Q : Exit → Act → World → Prop} (hgd : o.guard = none) (s x : Operand) (t u : TypeId)
    (ho : o.op = .call { callee := .builtin .append, args := #[s, x], argTypes := #[t, u] }) {sv xv v' : Value} (hs : a.eval s = sv) (hx : a.eval x = xv)
    (hrun : (Builtin.append_ #[t, u] o.type #[sv, xv]).run P w = .ok v' w') (h : wpList P ops Q rest (a.put o.dst v') w') : wpList P ops Q (o :: rest) a w := by
  refine wpList_plain hgd fun K hK => ?_
  unfold Oper.wp execOp
  simp only [ho, resolve, invoke, builtin, Sem.run_bind, Sem.run_pure, Result.andThen_ok, List.map_toArray, List.map_cons, List.map_nil, hs, hx, hrun]
  exact hK _ _ h

def bits1 (b : Bool) : Nat := if b then 1 else 0

set_option maxRecDepth 100000 in
set_option maxHeartbeats 1000000 in
theorem pentruth_any (bp : Nat) (r : Option Nat) (l : List Nat) (x : Bool) (g c : Nat) (w : World) (hp : PenAt w bp r l) (ht : Told w bp r g [.bool x]) (hl : l.length + 11 ≤ 900000) :
    Calls Try.prog 77 #[.pointer (some ⟨bp, 0, none⟩), .slice (some ⟨g, 0, none⟩) 1 c] w (PenTo w bp r (l ++ [bits1 x])) := by
  have hc0 := ht.2.2.2 0 _ rfl
  have hd : dig (bits1 x) = [bits1 x] := dig_small (by cases x <;> decide)
  have HD := Lib.hid hd
  have HP := Lib.hid hp
  clear hd
  cases x
  · go_enter Try.func77, Try.ntmps77
    go_wp2_with fail
    go_loopw [5, 6, 9] (fun _ _ i wr => (i = .int .i64 0 ∧ wr = w) ∨ (i = .int .i64 1 ∧ ∃ r', PenRel w bp r wr r' (l ++ [bits1 false]))) (fun _ _ i _ => 1 - (intOf i).toNat)
    case atStart => exact .inl ⟨rfl, rfl⟩
    case round =>
      rcases hrel with ⟨rfl, rfl⟩ | ⟨rfl, r1, hrel1⟩
      · go_wp2_with fail
        refine (pennum_any bp r l [0] wr.heap.size 1 _ (HP.out.below (below_alloc _ _)) (by intro n hn; simp at hn; subst hn; omega) (told_new HP.out (u64n [0]) _) (by simp; omega)).mono ?_
        rintro e w2 ⟨rfl, r2, hrel2⟩
        have hrel3 := PenRel.of_below (below_alloc _ _) hrel2
        rw [List.flatMap_cons, List.flatMap_nil, List.append_nil, show dig 0 = [bits1 false] from HD.out] at hrel3
        have Hrel3 := Lib.hid hrel3
        clear hrel2 hrel3
        go_wp2_with fail
        go_roundw
        case rel => exact .inr ⟨rfl, r2, Hrel3.out⟩
        case measure => simp [intOf]
      · go_wp2_with fail
        go_end0
        exact ⟨rfl, r1, hrel1⟩
  · go_enter Try.func77, Try.ntmps77
    go_wp2_with fail
    go_loopw [5, 6, 9] (fun _ _ i wr => (i = .int .i64 0 ∧ wr = w) ∨ (i = .int .i64 1 ∧ ∃ r', PenRel w bp r wr r' (l ++ [bits1 true]))) (fun _ _ i _ => 1 - (intOf i).toNat)
    case atStart => exact .inl ⟨rfl, rfl⟩
    case round =>
      rcases hrel with ⟨rfl, rfl⟩ | ⟨rfl, r1, hrel1⟩
      · go_wp2_with fail
        refine (pennum_any bp r l [1] wr.heap.size 1 _ (HP.out.below (below_alloc _ _)) (by intro n hn; simp at hn; subst hn; omega) (told_new HP.out (u64n [1]) _) (by simp; omega)).mono ?_
        rintro e w2 ⟨rfl, r2, hrel2⟩
        have hrel3 := PenRel.of_below (below_alloc _ _) hrel2
        rw [List.flatMap_cons, List.flatMap_nil, List.append_nil, show dig 1 = [bits1 true] from HD.out] at hrel3
        have Hrel3 := Lib.hid hrel3
        clear hrel2 hrel3
        go_wp2_with fail
        go_roundw
        case rel => exact .inr ⟨rfl, r2, Hrel3.out⟩
        case measure => simp [intOf]
      · go_wp2_with fail
        go_end0
        exact ⟨rfl, r1, hrel1⟩

set_option maxRecDepth 100000 in
set_option maxHeartbeats 1000000 in
theorem pentext_any (bp : Nat) (r : Option Nat) (l : List Nat) (s : ByteArray) (w : World) (hp : PenAt w bp r l) (hl : l.length + 11 + s.size ≤ 900000) :
    Calls Try.prog 35 #[.pointer (some ⟨bp, 0, none⟩), .string s] w (PenTo w bp r (l ++ (dig s.size ++ tb s))) := by
  have hs : s.size ≤ 9223372036854775807 := by omega
  go_enter Try.func35, Try.ntmps35
  go_wp2_with fail
  have hsz : (s.size : Int) = ((s.size : Nat) : Int) := rfl
  refine (pennum_any bp r l [s.size] w.heap.size 1 _ (hp.below (below_alloc _ _)) (by intro n hn; simp at hn; subst hn; omega) (told_new hp (u64n [s.size]) _) (by simp; omega)).mono ?_
  rintro e w2 ⟨rfl, r2, hrel2⟩
  have hrel := PenRel.of_below (below_alloc _ _) hrel2
  rw [List.flatMap_cons, List.flatMap_nil, List.append_nil] at hrel
  have hdl := dig_len s.size
  obtain ⟨⟨V, cv, rfl, hb, ho, hne⟩, hoff, hnew⟩ := id hrel
  obtain ⟨A', c', w3, hrun, c1, f1, hrel3⟩ := pen_pushs hb ho hne s (by rw [List.length_append]; omega) 38
  have hlen2 : (l ++ dig s.size).length + s.size ≤ 1000000 := by rw [List.length_append]; omega
  have Hrel := Lib.hid (hrel.trans hrel3)
  have HL := Lib.hid (List.append_assoc l (dig s.size) (tb s))
  have hc : w2.cell? ⟨bp, 0, none⟩ = some (.slice V (l ++ dig s.size).length cv) := by simp [World.cell?, hb]
  generalize hl2 : l ++ dig s.size = l2 at *
  have Hrun := Lib.hid hrun
  have Htl := Lib.hid (tb_length s)
  clear hl2 hrun hrel hrel3 hdl hb ho hne hoff hnew hrel2 hp hlen2
  go_wp2_with (at_builtin; refine wpList_append_run2 rfl (.tmp 16) (.tmp 17) 38 9 rfl rfl rfl Hrun.out ?_)
  go_end0
  have h := Hrel.out
  rw [HL.out] at h
  exact ⟨rfl, _, h⟩

theorem penlen_any (bp : Nat) (r : Option Nat) (l : List Nat) (w : World) (hp : PenAt w bp r l) (hl : l.length ≤ 900000) :
    Calls Try.prog 27 #[.pointer (some ⟨bp, 0, none⟩)] w fun e w' => e = .returned (.int .i64 (l.length : Int)) ∧ w' = w := by
  obtain ⟨V, cv, rfl, hb, ho, hne⟩ := id hp
  have hc : w.cell? ⟨bp, 0, none⟩ = some (.slice V l.length cv) := by simp [World.cell?, hb]
  clear hb ho hne hp
  go_enter Try.func27, Try.ntmps27
  go_wp2_with fail
  go_ret
  exact ⟨rfl, rfl⟩

end Go.Proofs.Ythbafbgnclpbpaa
