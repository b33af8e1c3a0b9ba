/- Rows of bytes that are made: the reference's numbers and texts, a pen's bytes. -/
import Derived.Test.YthbafbgnclpbpaaPen3
import Derived.Laws.BytesArg
import Derived.Laws.Cover3
namespace Go.Proofs.Ythbafbgnclpbpaa
open Go.RowKit

/-- A call hands back a new row of bytes. -/
def Made (l : List Nat) (w : World) (e : Ending) (w' : World) : Prop :=
  ∃ A c, e = .returned (.slice A l.length c) ∧ w'.ownsRow w.heap.size 5 1 (.slice A l.length c) l.length (u8s l) ∧ Below w.heap.size w w'

/-- A byte behind an own row. -/
theorem row_push {B : Nat} {w : World} {A : Option Addr} {c : Nat} {l : List Nat} (ho : w.ownsRow B 5 1 (.slice A l.length c) l.length (u8s l)) (hB : B ≤ w.heap.size) (hl : l.length ≤ 1000000) (x : Nat) (xv : Int) (hxv : xv = (x : Int)) (ty : TypeId) :
    ∃ A' c' w1, (Builtin.append_ #[38, 38] ty #[.slice A l.length c, .slice (some ⟨w.heap.size, 0, none⟩) 1 1]).run Try.prog (w.alloc (.cells #[.int .u8 xv] 5)) = .ok (.slice A' (l.length + 1) c') w1 ∧
      w1.ownsRow B 5 1 (.slice A' (l.length + 1) c') (l.length + 1) (u8s (l ++ [x])) ∧ Below B w w1 := by
  subst hxv
  obtain ⟨i, hi, hz, hs, hb⟩ := info_parts pen_info
  obtain ⟨v', w1, hrun, h2, h3, _, h5⟩ := run_append_own_at (P := Try.prog) (w.alloc (.cells #[.int .u8 (x : Int)] 5)) B 38 ty 5 i (.int .u8 0) 1 1 Try.underlying38 hi hz hs hb rfl (by omega) (.slice A l.length c) l.length (u8s l) (ho.alloc _)
    ⟨w.heap.size, 0, none⟩ 1 1 [.int .u8 (x : Int)] rfl (cell_one_new w _ _) (by intro u hu; simp at hu; subst hu; rfl) (by unfold maxLen; omega) (by omega) (by simp; omega)
  obtain ⟨A', c', rfl, _⟩ := owns_slice h2
  refine ⟨A', c', w1, hrun, by rw [u8s_append]; exact h2, ((Below.refl B w).alloc hB _).grown h3 (by simp; omega) (fun k hk => (ho.lt k hk).1)⟩

/-- A text behind an own row. -/
theorem row_pushs {B : Nat} {w : World} {A : Option Addr} {c : Nat} {l : List Nat} (ho : w.ownsRow B 5 1 (.slice A l.length c) l.length (u8s l)) (hB : B ≤ w.heap.size) (s : ByteArray) (hl : l.length + s.size ≤ 1000000) (ty : TypeId) :
    ∃ A' c' w1, (Builtin.append_ #[38, 9] ty #[.slice A l.length c, .string s]).run Try.prog w = .ok (.slice A' (l.length + s.size) c') w1 ∧
      w1.ownsRow B 5 1 (.slice A' (l.length + s.size) c') (l.length + s.size) (u8s (l ++ tb s)) ∧ Below B w w1 := by
  obtain ⟨i, hi, hz, hs, hb⟩ := info_parts pen_info
  obtain ⟨v', w1, hrun, h2, h3, _⟩ := Lib.run_append_own_string (P := Try.prog) w B 38 9 ty 5 i Try.underlying38 Try.underlying9 hi hz hs hb (.slice A l.length c) l.length (u8s l) ho s (by unfold maxLen; omega) (by omega) hB
  have e : Lib.strCells s = u8s (tb s) := by simp [Lib.strCells, u8s, tb]
  obtain ⟨A', c', rfl, _⟩ := owns_slice h2
  exact ⟨A', c', w1, hrun, by rw [u8s_append, ← e]; exact h2, (Below.refl B w).grown h3 hB (fun k hk => (ho.lt k hk).1)⟩

set_option maxRecDepth 100000 in
set_option maxHeartbeats 1000000 in
theorem refnum_any (n : Nat) (w : World) (hn : n < 18446744073709551616) :
    Calls Try.prog 75 #[.int .u64 (n : Int)] w (Made (dig n) w) := by
  have Hn := Lib.hid hn
  clear hn
  go_enter Try.func75, Try.ntmps75
  go_wp2_with fail
  go_loopw [0, 3] (fun m out wr => ∃ (q : Nat) (A : Option Addr) (c : Nat) (l : List Nat), m = .int .u64 q ∧ out = .slice A l.length c ∧ Hid (q < 18446744073709551616 ∧ l ++ dig q = dig n ∧ wr.ownsRow w.heap.size 5 1 (.slice A l.length c) l.length (u8s l) ∧ Below w.heap.size w wr)) (fun m _ _ => (intOf m).toNat)
  case atStart => exact ⟨n, none, 0, [], rfl, rfl, Hn.out, rfl, World.ownsRow_nil _ _ _ _, Below.refl _ _⟩
  case round =>
    obtain ⟨q, A, c, l, rfl, rfl, H⟩ := hrel
    have hlen2 : l.length + 1 ≤ 11 := by
      have e := congrArg List.length H.out.2.1
      rw [List.length_append] at e
      have := dig_len n
      have := dig_pos q
      omega
    by_cases hbig : 128 ≤ q
    · obtain ⟨A', c', w1, hrun, ho', hb'⟩ := row_push H.out.2.2.1 H.out.2.2.2.size (by omega) (q % 128 + 128) ((q % 128 + 128 : Nat) : Int) rfl 38
      have Hrun := Lib.hid hrun
      have H' := Lib.hid (And.intro ho' (H.out.2.2.2.trans hb'))
      have hbig' : (127 : Int) < (q : Int) := by omega
      have hdv : IntKind.u64.wrap ((q : Int) / 128) = ((q / 128 : Nat) : Int) := by have := H.out.1; rw [IntKind.wrap_u64]; omega
      have Hd := Lib.hid (dig_step hbig H.out.1)
      clear hrun ho' hb' hbig hlen2
      go_wp2_with (at_builtin; refine wpList_append_run rfl (.tmp 6) (.tmp 11) 38 rfl rfl rfl Hrun.out ?_)
      go_roundw
      case rel =>
        refine ⟨q / 128, A', c', l ++ [q % 128 + 128], rfl, by simp, by have := H.out.1; omega, ?_, ?_, H'.out.2⟩
        · rw [← H.out.2.1, Hd.out]; simp
        · rw [List.length_append]; exact H'.out.1
      case measure =>
        simp only [intOf]
        omega
    · have hsum' := H.out.2.1
      rw [dig_small (Nat.lt_of_not_le hbig)] at hsum'
      obtain ⟨A', c', w1, hrun, ho', hb'⟩ := row_push H.out.2.2.1 H.out.2.2.2.size (by omega) q (q : Int) rfl 38
      have Hrun := Lib.hid hrun
      have H' := Lib.hid (And.intro ho' (H.out.2.2.2.trans hb'))
      have hbig' : ¬ (127 : Int) < (q : Int) := by omega
      have Hsum := Lib.hid hsum'
      clear hrun ho' hb' hbig hlen2 hsum'
      go_wp2_with (at_builtin; refine wpList_append_run rfl (.tmp 15) (.tmp 18) 38 rfl rfl rfl Hrun.out ?_)
      go_ret
      have h := H'.out
      refine ⟨A', c', ?_, ?_, h.2⟩
      · rw [← Hsum.out, List.length_append]; rfl
      · rw [← Hsum.out, List.length_append]; exact h.1

theorem refturn_any (z : Int) (w : World) (h : -9223372036854775808 ≤ z ∧ z ≤ 9223372036854775807) :
    Calls Try.prog 76 #[.int .i64 z] w fun e w' => e = .returned (.int .u64 ((turn z : Nat) : Int)) ∧ w' = w := by
  by_cases h0 : 0 ≤ z
  · go_enter Try.func76, Try.ntmps76
    go_wp2_with fail
    go_ret
    refine ⟨ret_u64 ?_, rfl⟩
    unfold turn
    split <;> omega
  · go_enter Try.func76, Try.ntmps76
    go_wp2_with fail
    go_ret
    refine ⟨ret_u64 ?_, rfl⟩
    unfold turn
    split <;> omega

set_option maxHeartbeats 400000 in
theorem reftext_any (t : ByteArray) (w : World) (hs : t.size ≤ 100000) :
    Calls Try.prog 78 #[.string t] w (Made (dig t.size ++ tb t) w) := by
  have hs' : t.size ≤ 9223372036854775807 := by omega
  have hs2 : t.size < 18446744073709551616 := by omega
  have hw : IntKind.u64.wrap (t.size : Int) = ((t.size : Nat) : Int) := by rw [IntKind.wrap_u64]; omega
  go_enter Try.func78, Try.ntmps78
  go_wp2_with fail
  refine (refnum_any t.size w hs2).mono ?_
  rintro e w1 ⟨A, c, rfl, ho, hb⟩
  have hdl := dig_len t.size
  obtain ⟨A', c', w2, hrun, ho', hb'⟩ := row_pushs ho hb.size t (by omega) 38
  have Hrun := Lib.hid hrun
  have H' := Lib.hid (And.intro ho' (hb.trans hb'))
  have Htl := Lib.hid (tb_length t)
  clear hrun ho' hb' ho hb hdl hw
  go_wp2_with (at_builtin; refine wpList_append_run2 rfl (.tmp 6) (.tmp 7) 38 9 rfl rfl rfl Hrun.out ?_)
  go_ret
  refine ⟨A', c', ?_, ?_, H'.out.2⟩
  · rw [List.length_append, Htl.out]; rfl
  · rw [List.length_append, Htl.out]; exact H'.out.1

/-- Bytes as a text. -/
def bstr (l : List Nat) : ByteArray := ⟨(l.map UInt8.ofNat).toArray⟩
set_option maxRecDepth 100000 in
theorem conv_any {w : World} {A : Option Addr} {n c : Nat} {l : List Nat} (h : Rd w w.heap.size 1 A n (u8s l)) : (convert 38 9 (.slice A n c)).run Try.prog w = .ok (.string (bstr l)) w := by
  have hl : (u8s l).length = n := h.len1
  rw [u8s_length] at hl
  subst hl
  rcases A with _ | ad
  · have h0 : l = [] := by
      rcases Nat.eq_zero_or_pos l.length with h0 | h0
      · exact List.eq_nil_of_length_eq_zero h0
      · obtain ⟨_, _, h, _⟩ := h.2 h0; cases h
    subst h0
    exact run_convert_bytes_nil w 38 5 Try.underlying38 Try.underlying5 _ c 9 Try.underlying9
  · by_cases h0 : 0 < l.length
    · obtain ⟨b, off, e, _, hc⟩ := h.2 h0
      injection e with e; subst e
      have hr := run_convert_bytes_arg (P := Try.prog) w 38 5 Try.underlying38 Try.underlying5 b off l.length c (l.map fun (n : Nat) => (n : Int)) (by simp) (fun i hi => hc i _ (by simp [u8s, hi])) 9 Try.underlying9
      rw [hr]
      simp [strOfNums, bstr]
    · have h1 : l = [] := List.eq_nil_of_length_eq_zero (by omega)
      subst h1
      rw [run_convert_bytes_string w 38 9 5 (some ad) _ c Try.underlying38 Try.underlying5 Try.underlying9]
      exact run_bytesToString w ad 0 c [] (by rfl)

theorem eql_nil (A : Option Addr) (l c : Nat) (W : World) : (binOp .eql 38 (.slice A l c) (.slice none 0 0)).run Try.prog W = .ok (.bool A.isNone) W := by
  have h := run_equal_slice_nil (P := Try.prog) W 38 5 A l c Try.underlying38
  simp [binOp, h]

set_option maxRecDepth 100000 in
/-- The clone of bytes. -/
theorem bclone_any (A : Option Addr) (c : Nat) (l : List Nat) (w : World) (h : Rd w w.heap.size 1 A l.length (u8s l)) (hl : l.length ≤ 1000000) :
    Calls Try.prog 79 #[.slice A l.length c] w (Made l w) := by
  rcases A with _ | ad
  · have h0 : l = [] := by
      rcases Nat.eq_zero_or_pos l.length with h0 | h0
      · exact List.eq_nil_of_length_eq_zero h0
      · obtain ⟨_, _, h, _⟩ := h.2 h0; cases h
    subst h0
    have hq := fun W => eql_nil none 0 c W
    go_enter Try.func79, Try.ntmps79
    go_wp2_with fail
    go_ret
    exact ⟨none, 0, rfl, World.ownsRow_nil _ _ _ _, Below.refl _ _⟩
  · obtain ⟨A', c', w1, hrun, ho, hb, _⟩ := run_clone (P := Try.prog) 38 38 5 (.int .u8 0) 1 Try.underlying38 pen_info rfl (by omega) (some ad) l.length c (u8s l) h (u8s_one l) hl
    have Hrun := Lib.hid hrun
    have H := Lib.hid (And.intro ho hb)
    clear hrun ho hb h
    have hq := fun W => eql_nil (some ad) l.length c W
    go_enter Try.func79, Try.ntmps79
    go_wp2_with (at_builtin; refine wpList_append_run rfl (.tmp 5) (.tmp 6) 38 rfl rfl rfl Hrun.out ?_)
    go_ret
    exact ⟨A', c', rfl, H.out⟩

theorem Made.rd {w w' : World} {A : Option Addr} {c n : Nat} {l : List Nat} {B : Nat} (h : w'.ownsRow B 5 1 (.slice A n c) n (u8s l)) : Rd w' w'.heap.size 1 A n (u8s l) := Rd.of_own h

theorem penbytes_any (bp : Nat) (r : Option Nat) (l : List Nat) (w : World) (hp : PenAt w bp r l) (hl : l.length ≤ 900000) :
    Calls Try.prog 28 #[.pointer (some ⟨bp, 0, none⟩)] w (Made l w) := by
  obtain ⟨V, cv, rfl, hb, ho, hne⟩ := id hp
  have hc : w.cell? ⟨bp, 0, none⟩ = some (.slice V l.length cv) := by simp [World.cell?, hb]
  have Hr := Lib.hid (Rd.of_own ho)
  clear hb ho hne hp
  go_enter Try.func28, Try.ntmps28
  go_wp2_with fail
  refine (bclone_any V cv l w Hr.out (by omega)).mono ?_
  rintro e w1 ⟨A, c, rfl, H⟩
  have H' := Lib.hid H
  clear H
  go_wp2_with fail
  go_ret
  exact ⟨A, c, rfl, H'.out⟩

end Go.Proofs.Ythbafbgnclpbpaa
