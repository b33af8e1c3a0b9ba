/- Contracts of the reference's rows (bowerref04). -/
import Derived.Test.YtcoiadncennhpaaMake3
namespace Go.Proofs.Ytcoiadncennhpaa
open Go.RowKit

set_option maxHeartbeats 400000 in
theorem refrising_any (A : Option Addr) (n c : Nat) (ss : List ByteArray) (w : World) (h : RdS w A n ss) (hf : Fits ss) (hn : n ≤ 9223372036854775807) :
    Calls Try.prog 69 #[.slice A n c] w (Ret (.bool (Pl.rises ss)) w) := by
  have hlen := Lib.hid h.len
  have HR := Lib.hid (Pl.rises_iff ss)
  go_enter Try.func69, Try.ntmps69
  go_wp2_with fail
  go_loopw [3] (fun i wr => ∃ k : Nat, (k = 0 ∨ k < n) ∧ i = .int .i64 ((k + 1 : Nat) : Int) ∧ Hid (∀ j, j < k → Pl.ls (Pl.tx ss j) (Pl.tx ss (j + 1)) = true) ∧ Below w.heap.size w wr) (fun i _ => n - (intOf i).toNat)
  case atStart => exact ⟨0, .inl rfl, rfl, fun j hj => absurd hj (Nat.not_lt_zero _), Below.refl _ _⟩
  case round =>
    obtain ⟨k, hk, rfl, hpre, hbel⟩ := hrel
    have HB := hbel
    by_cases hlt : k + 1 < n
    · obtain ⟨b, off, rfl, hb, hcell⟩ := (h.up hbel).spot (by omega)
      have hj0 : k < ss.length := by rw [hlen.out]; omega
      have hj1 : k + 1 < ss.length := by rw [hlen.out]; omega
      have c0 := hcell _ hj0
      have c1 := hcell _ hj1
      have hp0 := Pl.tx_eq ss _ hj0
      have hp1 := Pl.tx_eq ss _ hj1
      have Hp := Lib.hid (show Pl.ls (Pl.tx ss k) (Pl.tx ss (k + 1)) = Pl.ls ss[k].data.toList ss[k + 1].data.toList by rw [hp0, hp1])
      have hf0 := hf _ hj0
      have hf1 := hf _ hj1
      clear hcell hp0 hp1 hk
      go_upto_region 4 with fail
      go_cut [20] (fun s wx => s = .bool (!Pl.ls ss[k].data.toList ss[k + 1].data.toList) ∧ Below w.heap.size w wx)
      case first =>
        have s1 : IntKind.i64.wrap ((k : Int) + 1 - 1) = (k : Int) := by rw [IntWalk.i64_in _ (by omega)]; omega
        have s2 : 0 ≤ (k : Int) + 1 := by omega
        have s3 : ((k : Int) + 1).toNat = k + 1 := by omega
        have s4 : (k : Int) + 1 < (n : Int) := by omega
        have s6 : IntKind.i64.wrap (k : Int) = (k : Int) := IntWalk.i64_in _ (by omega)
        have s7 : (k : Int) < (n : Int) := by omega
        go_region_with (go_at_call 99; refine (refless_any _ _ _ hf0 hf1).mono ?_; rintro e wn ⟨rfl, hbn⟩)
        all_goals
          go_wp2_with fail
          go_meet
          exact ⟨rfl, below_of (Below.drew HB) hbn⟩
      case rest =>
        obtain ⟨rfl, HB'⟩ := hcut
        cases hls : Pl.ls ss[k].data.toList ss[k + 1].data.toList
        · have Hls := Lib.hid hls
          clear hls
          go_wp2_with fail
          go_ret
          refine ⟨ret_bool ?_, HB'⟩
          symm
          rw [Bool.eq_false_iff]
          intro hr
          have := HR.out.1 hr k hj1
          rw [Hp.out, Hls.out] at this
          cases this
        · have Hls := Lib.hid hls
          clear hls
          go_wp2_with fail
          go_roundw
          case rel =>
            refine ⟨k + 1, by omega, by go_num, fun j hj => ?_, HB'⟩
            rcases Nat.lt_succ_iff_lt_or_eq.1 hj with g | rfl
            · exact hpre.out j g
            · rw [Hp.out, Hls.out]
          case measure => simp [intOf]; omega
    · go_wp2_with fail
      go_ret
      refine ⟨ret_bool ?_, HB⟩
      symm
      rw [HR.out]
      intro i hi
      exact hpre.out i (by rw [hlen.out] at hi; omega)

/-- Is a text in a row? -/
def hasB (ss : List ByteArray) (k : ByteArray) : Bool := ss.any fun s => s.toList == k.toList
theorem hasB_iff (ss : List ByteArray) (k : ByteArray) : hasB ss k = true ↔ k ∈ ss := by
  unfold hasB
  rw [List.any_eq_true]
  constructor
  · rintro ⟨s, hs, h⟩
    rw [beq_iff_eq, ByteArray.toList_eq, ByteArray.toList_eq] at h
    have : s = k := ByteArray.ext (Array.toList_inj.1 h)
    subst this; exact hs
  · intro h; exact ⟨k, h, by simp⟩

set_option maxHeartbeats 400000 in
theorem refsameS_any (A B : Option Addr) (n c m d : Nat) (ss ts : List ByteArray) (w : World) (h : RdS w A n ss) (k : RdS w B m ts) (hn : n ≤ 9223372036854775807) :
    Calls Try.prog 77 #[.slice A n c, .slice B m d] w (Ret (.bool (decide (ss = ts))) w) := by
  have hlen := Lib.hid h.len
  have klen := Lib.hid k.len
  by_cases hnm : n = m
  · subst hnm
    have t0 : ((n : Int) != (n : Int)) = false := by simp
    go_enter Try.func77, Try.ntmps77
    go_wp2_with fail
    go_loopw [5] (fun i wr => ∃ j : Nat, j ≤ n ∧ i = .int .i64 j ∧ Hid (∀ q (hq : q < ss.length) (hq' : q < ts.length), q < j → ss[q] = ts[q]) ∧ Below w.heap.size w wr) (fun i _ => n - (intOf i).toNat)
    case atStart => exact ⟨0, Nat.zero_le _, rfl, fun q _ _ hq => absurd hq (Nat.not_lt_zero _), Below.refl _ _⟩
    case round =>
      obtain ⟨j, hj, rfl, hpre, hbel⟩ := hrel
      by_cases hlt : j < n
      · obtain ⟨b, off, rfl, hb, hcell⟩ := (h.up hbel).spot (by omega)
        obtain ⟨b', off', rfl, hb', hcell'⟩ := (k.up hbel).spot (by omega)
        have hjl : j < ss.length := by rw [hlen.out]; exact hlt
        have hjk : j < ts.length := by rw [klen.out]; exact hlt
        have cj := hcell _ hjl
        have cj' := hcell' _ hjk
        clear hcell hcell'
        cases ht : (ss[j].toList == ts[j].toList)
        · have Ht := Lib.hid ht
          go_wp2_with fail
          go_quiet (fail)
          go_wp2_with fail
          go_ret
          refine ⟨ret_bool ?_, below_drewN hbel _⟩
          symm
          apply decide_eq_false
          rintro rfl
          have := Ht.out
          simp at this
        · have Ht := Lib.hid ht
          go_wp2_with fail
          go_quiet (fail)
          go_wp2_with fail
          go_roundw
          case rel =>
            refine ⟨j + 1, by omega, by go_num, fun q hq hq' hqj => ?_, below_drewN hbel _⟩
            rcases Nat.lt_succ_iff_lt_or_eq.1 hqj with g | rfl
            · exact hpre.out q hq hq' g
            · have := Ht.out
              rw [beq_iff_eq, ByteArray.toList_eq, ByteArray.toList_eq] at this
              exact ByteArray.ext (Array.toList_inj.1 this)
          case measure => simp [intOf]; omega
      · go_wp2_with fail
        go_ret
        refine ⟨ret_bool ?_, hbel⟩
        symm
        apply decide_eq_true
        have e1 := hlen.out
        have e2 := klen.out
        exact List.ext_getElem (by omega) fun q hq hq' => hpre.out q hq hq' (by omega)
  · have t0 : ((n : Int) != (m : Int)) = true := by rw [bne_iff_ne]; omega
    have hne : decide (ss = ts) = false := decide_eq_false (by rintro rfl; exact hnm (h.len.symm.trans k.len))
    have Hne := Lib.hid hne
    clear hne hnm
    go_enter Try.func77, Try.ntmps77
    go_wp2_with fail
    go_ret
    exact ⟨ret_bool Hne.out.symm, Below.refl _ _⟩

end Go.Proofs.Ytcoiadncennhpaa
