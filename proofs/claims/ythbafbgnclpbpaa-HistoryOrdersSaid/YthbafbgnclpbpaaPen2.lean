/- Contracts of package sip: what a pen writes. -/
import Derived.Test.YthbafbgnclpbpaaPen
import Derived.Test.YthbafbgnclpbpaaClone
namespace Go.Proofs.Ythbafbgnclpbpaa
open Go.RowKit

/-- A row of numbers, of which a pen is told. -/
def Told (w : World) (bp : Nat) (r : Option Nat) (g : Nat) (xs : List Value) : Prop := g < w.heap.size ∧ g ≠ bp ∧ some g ≠ r ∧ ∀ (j : Nat) (u : Value), xs[j]? = some u → w.cell? ⟨g, j, none⟩ = some u
theorem Told.on {w w' : World} {bp : Nat} {r r' : Option Nat} {l : List Nat} {g : Nat} {xs : List Value} (h : Told w bp r g xs) (k : PenRel w bp r w' r' l) : Told w' bp r' g xs := by
  obtain ⟨h1, h2, h3, h4⟩ := h
  refine ⟨Nat.lt_of_lt_of_le h1 k.2.1.size, h2, ?_, fun j u hu => ?_⟩
  · rcases k.2.2 with e | ⟨q, e, hq⟩
    · rw [e]; exact h3
    · rw [e]; intro h; injection h with h; omega
  · rw [k.2.1.cell (p := ⟨g, j, none⟩) h1 (fun e => e.elim h2 h3)]
    exact h4 j u hu

/-- Numbers as cells. -/
def u64n (ns : List Nat) : List Value := ns.map fun (n : Nat) => .int .u64 (n : Int)

theorem flat_take {α : Type} (f : α → List Nat) (xs : List α) (j : Nat) (h : j < xs.length) : (xs.take (j + 1)).flatMap f = (xs.take j).flatMap f ++ f xs[j] := by
  rw [List.take_succ_eq_append_getElem h, List.flatMap_append]; simp

theorem flat_len (xs : List Nat) : (xs.flatMap dig).length ≤ 11 * xs.length := by
  induction xs with
  | nil => simp
  | cons x xs ih => rw [List.flatMap_cons, List.length_append, List.length_cons]; have := dig_len x; omega

set_option maxRecDepth 100000 in
set_option maxHeartbeats 1000000 in
theorem pennum_any (bp : Nat) (r : Option Nat) (l : List Nat) (ns : List Nat) (g c : Nat) (w : World) (hp : PenAt w bp r l) (hn : ∀ n ∈ ns, n < 18446744073709551616) (ht : Told w bp r g (u64n ns)) (hl : l.length + 11 * ns.length ≤ 900000) :
    Calls Try.prog 32 #[.pointer (some ⟨bp, 0, none⟩), .slice (some ⟨g, 0, none⟩) ns.length c] w (PenTo w bp r (l ++ ns.flatMap dig)) := by
  go_enter Try.func32, Try.ntmps32
  go_wp2_with fail
  go_loopw [5, 10] (fun _ i wr => ∃ (j : Nat) (r' : Option Nat), j ≤ ns.length ∧ i = .int .i64 j ∧ PenRel w bp r wr r' (l ++ (ns.take j).flatMap dig)) (fun _ i _ => ns.length - (intOf i).toNat)
  case atStart => exact ⟨0, r, Nat.zero_le _, rfl, by simpa using PenRel.refl hp⟩
  case round =>
    obtain ⟨j, r1, hj, rfl, hrel1⟩ := hrel
    by_cases hlt : j < ns.length
    · have hcj := (ht.on hrel1).2.2.2 j _ (by rw [u64n, List.getElem?_map, List.getElem?_eq_getElem hlt]; rfl)
      have hnj := hn _ (List.getElem_mem hlt)
      have Hft := Lib.hid (flat_take dig ns j hlt)
      generalize ns[j] = n at hcj hnj Hft
      have hlen : (l ++ (ns.take j).flatMap dig).length + 11 ≤ 900000 := by
        have := flat_len (ns.take j)
        rw [List.length_take, Nat.min_eq_left (by omega)] at this
        rw [List.length_append]; omega
      generalize hl1 : l ++ (ns.take j).flatMap dig = l1 at hrel1 hlen
      have HL1 := Lib.hid hl1
      clear hl1
      go_wp2_with fail
      go_loopw [5] (fun m wr' => ∃ (q : Nat) (r2 : Option Nat) (l2 : List Nat), m = .int .u64 q ∧ q < 18446744073709551616 ∧ Hid (l2 ++ dig q = l1 ++ dig n) ∧ PenRel w bp r wr' r2 l2) (fun m _ => (intOf m).toNat)
      case atStart => exact ⟨n, r1, l1, rfl, hnj, rfl, hrel1⟩
      case round =>
        obtain ⟨q, r2, l2, rfl, hq, hsum, hrel2⟩ := hrel
        have hlen2 : l2.length + 1 ≤ l1.length + 11 := by
          have e := congrArg List.length hsum.out
          rw [List.length_append, List.length_append] at e
          have := dig_len n
          have := dig_pos q
          omega
        obtain ⟨⟨V, cv, rfl, hb, ho, hne⟩, hoff, hnew⟩ := id hrel2
        by_cases hbig : 128 ≤ q
        · obtain ⟨A', c', w1, hrun, c1, f1, hrel3⟩ := pen_push hb ho hne (by omega) (q % 128 + 128) (bits .or .u8 ((q : Int) % 256) 128) (by rw [or_u8 _ (by omega) (by omega)]; omega) 38
          have hc : wr.cell? ⟨bp, 0, none⟩ = some (.slice V l2.length cv) := by simp [World.cell?, hb]
          have Hq := Lib.hid hq
          have Hrun := Lib.hid hrun
          have hbig' : (128 : Int) ≤ (q : Int) := by omega
          have Hrel := Lib.hid (hrel2.trans hrel3)
          have Hlen := Lib.hid hlen
          have Hd := Lib.hid (dig_step hbig hq)
          clear hb ho hne hoff hnew hq hlen2 hrel2 hnj hbig hcj hrun hrel3 hlen hrel1
          go_wp2_with (at_builtin; refine wpList_append_run rfl (.tmp 22) (.tmp 26) 38 rfl rfl rfl Hrun.out ?_)
          go_roundw
          case rel =>
            refine ⟨q / 128, _, _, rfl, by have := Hq.out; omega, ?_, Hrel.out⟩
            show _ = _
            rw [← hsum.out, Hd.out]; simp
          case measure =>
            simp only [intOf]
            omega
        · have hsum' := hsum.out
          rw [dig_small (Nat.lt_of_not_le hbig)] at hsum'
          obtain ⟨A', c', w1, hrun, c1, f1, hrel3⟩ := pen_push hb ho hne (by omega) q (q : Int) rfl 38
          have hc : wr.cell? ⟨bp, 0, none⟩ = some (.slice V l2.length cv) := by simp [World.cell?, hb]
          have Hrun := Lib.hid hrun
          have hbig' : ¬ (128 : Int) ≤ (q : Int) := by omega
          have Hrel := Lib.hid (hrel2.trans hrel3)
          have Hsum := Lib.hid hsum'
          clear hb ho hne hoff hnew hq hlen2 hrel2 hnj hbig hcj hrun hrel3 hlen hrel1 hsum hsum'
          go_wp2_with (at_builtin; refine wpList_append_run rfl (.tmp 34) (.tmp 37) 38 rfl rfl rfl Hrun.out ?_)
          go_roundw
          case rel =>
            have h := Hrel.out
            rw [Hsum.out, ← HL1.out, List.append_assoc, ← Hft.out] at h
            exact ⟨j + 1, _, by omega, by go_num, h⟩
          case measure => simp [intOf]; omega
    · have hj' : j = ns.length := by omega
      subst hj'
      rw [List.take_length] at hrel1
      go_wp2_with fail
      go_end0
      exact ⟨rfl, _, hrel1⟩

end Go.Proofs.Ythbafbgnclpbpaa
