/- Contracts of package sorted: Find, Floor, Below, Rising; and the reference's. -/
import Derived.Test.YtcoiadncennhpaaSorted
namespace Go.Proofs.Ytcoiadncennhpaa
open Go.RowKit

theorem box2_a (w : World) (u v : Value) (T U : TypeId) : ((w.alloc (.cells #[u] T)).alloc (.cells #[v] U)).cell? ⟨w.heap.size, 0, none⟩ = some u := by
  rw [World.cell?_alloc_lt _ _ ⟨w.heap.size, 0, none⟩ (by simp), World.cell?_alloc_new]; rfl
theorem box2_b (w : World) (u v : Value) (T U : TypeId) : ((w.alloc (.cells #[u] T)).alloc (.cells #[v] U)).cell? ⟨w.heap.size + 1, 0, none⟩ = some v := by
  have h := World.cell?_alloc_new (w := w.alloc (.cells #[u] T)) #[v] U 0
  rw [World.size_alloc] at h
  rw [h]; rfl
theorem box2_below (w : World) (a b : Obj) : Below w.heap.size w ((w.alloc a).alloc b) := below_of (below_alloc w a) (below_alloc _ b)
theorem box2_size (w : World) (a b : Obj) : ((w.alloc a).alloc b).heap.size = w.heap.size + 2 := by simp

theorem ret_ib {a b : Int} {c d : Bool} (h : a = b) (k : c = d) : Ending.returned (.tuple #[.int .i64 a, .bool c]) = .returned (.tuple #[.int .i64 b, .bool d]) := by rw [h, k]
theorem val_bool {a b : Bool} (h : a = b) : Value.bool a = .bool b := by rw [h]
theorem val_i64 {a b : Int} (h : a = b) : Value.int .i64 a = .int .i64 b := by rw [h]
theorem str_beq (a b : ByteArray) : (a.toList == b.toList) = (a.data.toList == b.data.toList) := by rw [ByteArray.toList_eq, ByteArray.toList_eq]

set_option maxHeartbeats 400000 in
theorem find_any (A : Option Addr) (n c : Nat) (ss : List ByteArray) (k : ByteArray) (w : World) (h : RdS w A n ss) (hf : Fits ss) (hk : k.size ≤ maxLen) (hn : n ≤ 9223372036854775807) :
    Calls Try.prog 85 #[.slice A n c, .string k] w (Ret (.tuple #[.int .i64 (Pl.findAt ss k.data.toList : Nat), .bool (Pl.findIs ss k.data.toList)]) w) := by
  have hlen := Lib.hid h.len
  have hal := Pl.findAt_le ss k.data.toList
  have Hat : Hid (Pl.firstOf (Pl.pGe ss k.data.toList) n = Pl.findAt ss k.data.toList) := by rw [← hlen.out]; exact rfl
  have Hal := Lib.hid hal
  clear hal
  go_enter Try.func85, Try.ntmps85
  go_wp2_with fail
  have ca := box2_a w (.slice A n c) (.string k) 22 9
  have cb := box2_b w (.slice A n c) (.string k) 22 9
  have hW := box2_below w (.cells #[.slice A n c] 22) (.cells #[.string k] 9)
  have hz := box2_size w (.cells #[.slice A n c] 22) (.cells #[.string k] 9)
  have Hz := Lib.hid hz
  clear hz
  generalize ((w.alloc (.cells #[.slice A n c] 22)).alloc (.cells #[.string k] 9)) = W at ca cb hW Hz ⊢
  refine (findclofirst_any A n c ss k _ _ _ (h.up hW) hf hk ca cb (by rw [Hz.out]; simp) (by rw [Hz.out]; simp) hn).mono ?_
  rintro e w1 ⟨rfl, hb1⟩
  have ca1 := (hb1.cell (p := ⟨w.heap.size, 0, none⟩) (by rw [Hz.out]; simp)).trans ca
  have cb1 := (hb1.cell (p := ⟨w.heap.size + 1, 0, none⟩) (by rw [Hz.out]; simp)).trans cb
  have hr := h.up (below_of hW hb1)
  have HB := below_of hW hb1
  clear ca cb hb1 hW Hz
  rw [Hat.out]
  have hal : Pl.findAt ss k.data.toList ≤ n := by rw [← hlen.out]; exact Hal.out
  go_wp2_with fail
  by_cases hlt : Pl.findAt ss k.data.toList < n
  · obtain ⟨b, off, rfl, hb, hcell⟩ := hr.spot (by omega)
    have hjl : Pl.findAt ss k.data.toList < ss.length := by rw [hlen.out]; exact hlt
    have hcj := hcell _ hjl
    have hp := Pl.tx_eq ss _ hjl
    have hfin : Pl.findIs ss k.data.toList = (ss[Pl.findAt ss k.data.toList].toList == k.toList) := by
      unfold Pl.findIs; rw [hp, str_beq, decide_eq_true hjl, Bool.true_and]
    have Hfin := Lib.hid hfin
    clear hcell hp hfin
    have t1 : decide ((Pl.findAt ss k.data.toList : Int) < (n : Int)) = true := by simp; omega
    have t2 : decide (Pl.findAt ss k.data.toList < n) = true := by simp; omega
    generalize Pl.findAt ss k.data.toList = at_ at *
    go_quiet (fail)
    go_wp2_with fail
    go_ret2
    exact ⟨ret_ib rfl Hfin.out.symm, below_drewN HB _⟩
  · have t1 : decide ((Pl.findAt ss k.data.toList : Int) < (n : Int)) = false := by simp; omega
    have t2 : decide (Pl.findAt ss k.data.toList < n) = false := by simp; omega
    have hfin : Pl.findIs ss k.data.toList = false := by unfold Pl.findIs; rw [hlen.out, t2, Bool.false_and]
    have Hfin := Lib.hid hfin
    clear hfin
    generalize Pl.findAt ss k.data.toList = at_ at *
    go_quiet (fail)
    go_wp2_with fail
    go_ret2
    exact ⟨ret_ib rfl Hfin.out.symm, below_drewN HB _⟩

theorem floor_any (A : Option Addr) (n c : Nat) (ss : List ByteArray) (k : ByteArray) (w : World) (h : RdS w A n ss) (hf : Fits ss) (hk : k.size ≤ maxLen) (hn : n ≤ 9223372036854775807) :
    Calls Try.prog 79 #[.slice A n c, .string k] w (Ret (.int .i64 ((Pl.overAt ss k.data.toList : Int) - 1)) w) := by
  have hlen := Lib.hid h.len
  have hal := Pl.overAt_le ss k.data.toList
  have Hat : Hid (Pl.firstOf (Pl.pGt ss k.data.toList) n = Pl.overAt ss k.data.toList) := by rw [← hlen.out]; exact rfl
  have Hal := Lib.hid hal
  clear hal
  go_enter Try.func79, Try.ntmps79
  go_wp2_with fail
  have ca := box2_a w (.slice A n c) (.string k) 22 9
  have cb := box2_b w (.slice A n c) (.string k) 22 9
  have hW := box2_below w (.cells #[.slice A n c] 22) (.cells #[.string k] 9)
  have hz := box2_size w (.cells #[.slice A n c] 22) (.cells #[.string k] 9)
  have Hz := Lib.hid hz
  clear hz
  generalize ((w.alloc (.cells #[.slice A n c] 22)).alloc (.cells #[.string k] 9)) = W at ca cb hW Hz ⊢
  refine (overclofirst_any A n c ss k _ _ _ (h.up hW) hf hk ca cb (by rw [Hz.out]; simp) (by rw [Hz.out]; simp) hn).mono ?_
  rintro e w1 ⟨rfl, hb1⟩
  have HB := below_of hW hb1
  rw [Hat.out]
  have hal : Pl.overAt ss k.data.toList ≤ n := by rw [← hlen.out]; exact Hal.out
  go_wp2_with fail
  go_ret
  exact ⟨rfl, HB⟩

theorem below_any (A : Option Addr) (n c : Nat) (ss : List ByteArray) (k : ByteArray) (w : World) (h : RdS w A n ss) (hf : Fits ss) (hk : k.size ≤ maxLen) (hn : n ≤ 9223372036854775807) :
    Calls Try.prog 80 #[.slice A n c, .string k] w (Ret (.int .i64 ((Pl.findAt ss k.data.toList : Int) - 1)) w) := by
  have hlen := Lib.hid h.len
  have hal : Pl.findAt ss k.data.toList ≤ n := by rw [← hlen.out]; exact Pl.findAt_le ss k.data.toList
  have HB := Below.refl w.heap.size w
  go_enter Try.func80, Try.ntmps80
  go_wp2_with fail
  refine (find_any A n c ss k _ h hf hk hn).mono ?_
  rintro e wn ⟨rfl, hbn⟩
  replace HB := below_of (show Below w.heap.size w _ from (by first | exact HB | exact below_drewN HB _ | exact Below.drew HB | exact below_of HB (below_alloc _ _) | exact below_of (below_drewN HB _) (below_alloc _ _))) hbn
  clear hbn
  go_wp2_with fail
  go_ret
  exact ⟨rfl, HB⟩

set_option maxHeartbeats 400000 in
theorem rising_any (A : Option Addr) (n c : Nat) (ss : List ByteArray) (w : World) (h : RdS w A n ss) (hf : Fits ss) (hn : n ≤ 9223372036854775807) :
    Calls Try.prog 116 #[.slice A n c] w (Ret (.bool (Pl.rises ss)) w) := by
  have hlen := Lib.hid h.len
  have HR := Lib.hid (Pl.rises_iff ss)
  go_enter Try.func116, Try.ntmps116
  go_wp2_with fail
  go_loopw [3, 7] (fun _ i wr => ∃ k : Nat, (k = 0 ∨ k < n) ∧ i = .int .i64 k ∧ Hid (∀ j, j < k → Pl.ls (Pl.tx ss j) (Pl.tx ss (j + 1)) = true) ∧ Below w.heap.size w wr) (fun _ i _ => n - (intOf i).toNat)
  case atStart => exact ⟨0, .inl rfl, rfl, fun j hj => absurd hj (Nat.not_lt_zero _), Below.refl _ _⟩
  case round =>
    obtain ⟨k, hk, rfl, hpre, hbel⟩ := hrel
    have HB := hbel
    by_cases hlt : k + 1 < n
    · obtain ⟨b, off, rfl, hb, hcell⟩ := (h.up hbel).spot (by omega)
      have hj0 : k < ss.length := by rw [hlen.out]; omega
      have hj1 : k + 1 < ss.length := by rw [hlen.out]; omega
      have c0 := hcell _ hj0
      have c1 := hcell _ hj1
      have hp0 := Pl.tx_eq ss _ hj0
      have hp1 := Pl.tx_eq ss _ hj1
      have Hp := Lib.hid (show Pl.ls (Pl.tx ss k) (Pl.tx ss (k + 1)) = Pl.ls ss[k].data.toList ss[k + 1].data.toList by rw [hp0, hp1])
      have hf0 := hf _ hj0
      have hf1 := hf _ hj1
      clear hcell hp0 hp1 hk
      go_upto_region 4 with fail
      go_cut [20] (fun s wx => s = .bool (!Pl.ls ss[k].data.toList ss[k + 1].data.toList) ∧ Below w.heap.size w wx)
      case first =>
        have s1 : IntKind.i64.wrap ((k : Int) + 1) = (k : Int) + 1 := IntWalk.i64_in _ (by omega)
        have s2 : 0 ≤ (k : Int) + 1 := by omega
        have s3 : ((k : Int) + 1).toNat = k + 1 := by omega
        have s4 : (k : Int) + 1 < (n : Int) := by omega
        go_region_with (go_at_call 98; refine (compare_any _ _ _ hf0 hf1).mono ?_; rintro e wn ⟨rfl, hbn⟩)
        all_goals
          go_wp2_with fail
          go_meet
          exact ⟨val_bool (by rw [Bool.eq_iff_iff]; simp [Pl.cmp_ge]), below_of (Below.drew HB) hbn⟩
      case rest =>
        obtain ⟨rfl, HB'⟩ := hcut
        cases hls : Pl.ls ss[k].data.toList ss[k + 1].data.toList
        · have Hls := Lib.hid hls
          clear hls
          go_wp2_with fail
          go_ret
          refine ⟨ret_bool ?_, HB'⟩
          symm
          rw [Bool.eq_false_iff]
          intro hr
          have := HR.out.1 hr k hj1
          rw [Hp.out, Hls.out] at this
          cases this
        · have Hls := Lib.hid hls
          clear hls
          go_wp2_with fail
          go_roundw
          case rel =>
            refine ⟨k + 1, by omega, by go_num, fun j hj => ?_, HB'⟩
            rcases Nat.lt_succ_iff_lt_or_eq.1 hj with g | rfl
            · exact hpre.out j g
            · rw [Hp.out, Hls.out]
          case measure => simp [intOf]; omega
    · go_wp2_with fail
      go_ret
      refine ⟨ret_bool ?_, HB⟩
      symm
      rw [HR.out]
      intro i hi
      exact hpre.out i (by rw [hlen.out] at hi; omega)
end Go.Proofs.Ytcoiadncennhpaa
