/- Contracts of the reference's rows (bowerref04). -/
import Derived.Test.YtggjlnjpokdfpaaMake3
namespace Go.Proofs.Ytggjlnjpokdfpaa
open Go.RowKit

set_option maxHeartbeats 400000 in
theorem refrising_any (A : Option Addr) (n c : Nat) (ss : List ByteArray) (w : World) (h : RdS w A n ss) (hf : Fits ss) (hn : n ≤ 9223372036854775807) :
    Calls Try.prog 28 #[.slice A n c] w (Ret (.bool (Pl.rises ss)) w) := by
  have hlen := Lib.hid h.len
  have HR := Lib.hid (Pl.rises_iff ss)
  go_enter Try.func28, Try.ntmps28
  go_wp2_with fail
  go_loopw [3] (fun i wr => ∃ k : Nat, (k = 0 ∨ k < n) ∧ i = .int .i64 ((k + 1 : Nat) : Int) ∧ Hid (∀ j, j < k → Pl.ls (Pl.tx ss j) (Pl.tx ss (j + 1)) = true) ∧ Below w.heap.size w wr) (fun i _ => n - (intOf i).toNat)
  case atStart => exact ⟨0, .inl rfl, rfl, fun j hj => absurd hj (Nat.not_lt_zero _), Below.refl _ _⟩
  case round =>
    obtain ⟨k, hk, rfl, hpre, hbel⟩ := hrel
    have HB := hbel
    by_cases hlt : k + 1 < n
    · obtain ⟨b, off, rfl, hb, hcell⟩ := (h.up hbel).spot (by omega)
      have hj0 : k < ss.length := by rw [hlen.out]; omega
      have hj1 : k + 1 < ss.length := by rw [hlen.out]; omega
      have c0 := hcell _ hj0
      have c1 := hcell _ hj1
      have hp0 := Pl.tx_eq ss _ hj0
      have hp1 := Pl.tx_eq ss _ hj1
      have Hp := Lib.hid (show Pl.ls (Pl.tx ss k) (Pl.tx ss (k + 1)) = Pl.ls ss[k].data.toList ss[k + 1].data.toList by rw [hp0, hp1])
      have hf0 := hf _ hj0
      have hf1 := hf _ hj1
      clear hcell hp0 hp1 hk
      go_upto_region 4 with fail
      go_cut [20] (fun s wx => s = .bool (!Pl.ls ss[k].data.toList ss[k + 1].data.toList) ∧ Below w.heap.size w wx)
      case first =>
        have s1 : IntKind.i64.wrap ((k : Int) + 1 - 1) = (k : Int) := by rw [IntWalk.i64_in _ (by omega)]; omega
        have s2 : 0 ≤ (k : Int) + 1 := by omega
        have s3 : ((k : Int) + 1).toNat = k + 1 := by omega
        have s4 : (k : Int) + 1 < (n : Int) := by omega
        have s6 : IntKind.i64.wrap (k : Int) = (k : Int) := IntWalk.i64_in _ (by omega)
        have s7 : (k : Int) < (n : Int) := by omega
        go_region_with (go_at_call 64; refine (refless_any _ _ _ hf0 hf1).mono ?_; rintro e wn ⟨rfl, hbn⟩)
        all_goals
          go_wp2_with fail
          go_meet
          exact ⟨rfl, below_of (Below.drew HB) hbn⟩
      case rest =>
        obtain ⟨rfl, HB'⟩ := hcut
        cases hls : Pl.ls ss[k].data.toList ss[k + 1].data.toList
        · have Hls := Lib.hid hls
          clear hls
          go_wp2_with fail
          go_ret
          refine ⟨ret_bool ?_, HB'⟩
          symm
          rw [Bool.eq_false_iff]
          intro hr
          have := HR.out.1 hr k hj1
          rw [Hp.out, Hls.out] at this
          cases this
        · have Hls := Lib.hid hls
          clear hls
          go_wp2_with fail
          go_roundw
          case rel =>
            refine ⟨k + 1, by omega, by go_num, fun j hj => ?_, HB'⟩
            rcases Nat.lt_succ_iff_lt_or_eq.1 hj with g | rfl
            · exact hpre.out j g
            · rw [Hp.out, Hls.out]
          case measure => simp [intOf]; omega
    · go_wp2_with fail
      go_ret
      refine ⟨ret_bool ?_, HB⟩
      symm
      rw [HR.out]
      intro i hi
      exact hpre.out i (by rw [hlen.out] at hi; omega)

/-- Is a text in a row? -/
def hasB (ss : List ByteArray) (k : ByteArray) : Bool := ss.any fun s => s.toList == k.toList
theorem hasB_iff (ss : List ByteArray) (k : ByteArray) : hasB ss k = true ↔ k ∈ ss := by
  unfold hasB
  rw [List.any_eq_true]
  constructor
  · rintro ⟨s, hs, h⟩
    rw [beq_iff_eq, ByteArray.toList_eq, ByteArray.toList_eq] at h
    have : s = k := ByteArray.ext (Array.toList_inj.1 h)
    subst this; exact hs
  · intro h; exact ⟨k, h, by simp⟩

set_option maxHeartbeats 400000 in
theorem refhas_any (A : Option Addr) (n c : Nat) (ss : List ByteArray) (k : ByteArray) (w : World) (h : RdS w A n ss) (hn : n ≤ 9223372036854775807) :
    Calls Try.prog 32 #[.slice A n c, .string k] w (Ret (.bool (hasB ss k)) w) := by
  have hlen := Lib.hid h.len
  go_enter Try.func32, Try.ntmps32
  go_wp2_with fail
  go_loopw [5] (fun i wr => ∃ j : Nat, j ≤ n ∧ i = .int .i64 j ∧ Hid (∀ m (hm : m < ss.length), m < j → (ss[m].toList == k.toList) = false) ∧ Below w.heap.size w wr) (fun i _ => n - (intOf i).toNat)
  case atStart => exact ⟨0, Nat.zero_le _, rfl, fun m _ hm => absurd hm (Nat.not_lt_zero _), Below.refl _ _⟩
  case round =>
    obtain ⟨j, hj, rfl, hpre, hbel⟩ := hrel
    by_cases hlt : j < n
    · obtain ⟨b, off, rfl, hb, hcell⟩ := (h.up hbel).spot (by omega)
      have hjl : j < ss.length := by rw [hlen.out]; exact hlt
      have cj := hcell _ hjl
      clear hcell
      cases ht : (ss[j].toList == k.toList)
      · have Ht := Lib.hid ht
        go_wp2_with fail
        go_roundw
        case rel =>
          refine ⟨j + 1, by omega, by go_num, fun m hm hmj => ?_, hbel⟩
          rcases Nat.lt_succ_iff_lt_or_eq.1 hmj with g | rfl
          · exact hpre.out m hm g
          · exact Ht.out
        case measure => simp [intOf]; omega
      · have Ht := Lib.hid ht
        go_wp2_with fail
        go_ret
        refine ⟨ret_bool ?_, hbel⟩
        symm
        unfold hasB
        rw [List.any_eq_true]
        exact ⟨_, List.getElem_mem hjl, Ht.out⟩
    · go_wp2_with fail
      go_ret
      refine ⟨ret_bool ?_, hbel⟩
      symm
      unfold hasB
      rw [List.any_eq_false]
      intro s hs
      obtain ⟨m, hm, rfl⟩ := List.getElem_of_mem hs
      rw [hpre.out m hm (by have := hlen.out; omega)]
      exact Bool.false_ne_true

end Go.Proofs.Ytggjlnjpokdfpaa
