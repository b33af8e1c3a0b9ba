/- Contracts of package op and its reference: names, what is used. -/
import Derived.Test.YthbafbgnclpbpaaOpB
namespace Go.Proofs.Ythbafbgnclpbpaa
open Go.RowKit

def kNames : List ByteArray := [⟨#[]⟩, ⟨#[103, 101, 116]⟩, ⟨#[105, 110, 115, 101, 114, 116]⟩, ⟨#[112, 117, 116]⟩, ⟨#[100, 101, 108, 101, 116, 101]⟩, ⟨#[100, 114, 111, 112]⟩, ⟨#[109, 105, 110]⟩, ⟨#[109, 97, 120]⟩, ⟨#[110, 101, 120, 116]⟩, ⟨#[112, 114, 101, 118]⟩, ⟨#[115, 99, 97, 110]⟩]
def kName (k : Int) : ByteArray := if 1 ≤ k ∧ k ≤ 10 then kNames.getD k.toNat ⟨#[]⟩ else ⟨#[]⟩
def usesS (k : Int) : ByteArray := if k = 1 ∨ k = 4 ∨ k = 8 ∨ k = 9 then ⟨#[107]⟩ else if k = 2 ∨ k = 3 ∨ k = 5 then ⟨#[107, 118]⟩ else if k = 6 ∨ k = 7 then ⟨#[45]⟩ else if k = 10 then ⟨#[107, 116, 108]⟩ else ⟨#[]⟩

set_option maxHeartbeats 1000000 in
theorem opname_any (k : Int) (w : World) : Calls Try.prog 47 #[.int .i64 k] w (Ret (.string (kName k)) w) := by
  rcases kind_cases k with rfl | rfl | rfl | rfl | rfl | rfl | rfl | rfl | rfl | rfl | h
  case inr.inr.inr.inr.inr.inr.inr.inr.inr.inr =>
    have hv : kName k = ⟨#[]⟩ := if_neg (by omega)
    rw [hv]
    have e1 : (k == (1 : Int)) = false := by rw [beq_eq_false_iff_ne]; omega
    have e2 : (k == (2 : Int)) = false := by rw [beq_eq_false_iff_ne]; omega
    have e3 : (k == (3 : Int)) = false := by rw [beq_eq_false_iff_ne]; omega
    have e4 : (k == (4 : Int)) = false := by rw [beq_eq_false_iff_ne]; omega
    have e5 : (k == (5 : Int)) = false := by rw [beq_eq_false_iff_ne]; omega
    have e6 : (k == (6 : Int)) = false := by rw [beq_eq_false_iff_ne]; omega
    have e7 : (k == (7 : Int)) = false := by rw [beq_eq_false_iff_ne]; omega
    have e8 : (k == (8 : Int)) = false := by rw [beq_eq_false_iff_ne]; omega
    have e9 : (k == (9 : Int)) = false := by rw [beq_eq_false_iff_ne]; omega
    have e10 : (k == (10 : Int)) = false := by rw [beq_eq_false_iff_ne]; omega
    clear hv h
    go_enter Try.func47, Try.ntmps47
    go_wp2_with fail
    go_ret
    exact ⟨rfl, Below.refl _ _⟩
  all_goals
    go_enter Try.func47, Try.ntmps47
    go_wp2_with fail
    go_ret
    exact ⟨rfl, Below.refl _ _⟩

set_option maxHeartbeats 1000000 in
theorem refuses0_any (k : Int) (w : World) : Calls Try.prog 85 #[.int .i64 k] w (Ret (.string (usesS k)) w) := by
  rcases kind_cases k with rfl | rfl | rfl | rfl | rfl | rfl | rfl | rfl | rfl | rfl | h
  case inr.inr.inr.inr.inr.inr.inr.inr.inr.inr =>
    have hv : usesS k = ⟨#[]⟩ := (by unfold usesS; rw [if_neg (by omega), if_neg (by omega), if_neg (by omega), if_neg (by omega)])
    rw [hv]
    have e1 : (k == (1 : Int)) = false := by rw [beq_eq_false_iff_ne]; omega
    have e2 : (k == (2 : Int)) = false := by rw [beq_eq_false_iff_ne]; omega
    have e3 : (k == (3 : Int)) = false := by rw [beq_eq_false_iff_ne]; omega
    have e4 : (k == (4 : Int)) = false := by rw [beq_eq_false_iff_ne]; omega
    have e5 : (k == (5 : Int)) = false := by rw [beq_eq_false_iff_ne]; omega
    have e6 : (k == (6 : Int)) = false := by rw [beq_eq_false_iff_ne]; omega
    have e7 : (k == (7 : Int)) = false := by rw [beq_eq_false_iff_ne]; omega
    have e8 : (k == (8 : Int)) = false := by rw [beq_eq_false_iff_ne]; omega
    have e9 : (k == (9 : Int)) = false := by rw [beq_eq_false_iff_ne]; omega
    have e10 : (k == (10 : Int)) = false := by rw [beq_eq_false_iff_ne]; omega
    clear hv h
    go_enter Try.func85, Try.ntmps85
    go_wp2_with fail
    go_ret
    exact ⟨rfl, Below.refl _ _⟩
  all_goals
    go_enter Try.func85, Try.ntmps85
    go_wp2_with fail
    go_ret
    exact ⟨rfl, Below.refl _ _⟩


set_option maxHeartbeats 1000000 in
theorem refname_any (k : Int) (w : World) : Calls Try.prog 48 #[.int .i64 k] w (Ret (.string (kName k)) w) := by
  rcases kind_cases k with rfl | rfl | rfl | rfl | rfl | rfl | rfl | rfl | rfl | rfl | h
  case inr.inr.inr.inr.inr.inr.inr.inr.inr.inr =>
    have hv : kName k = ⟨#[]⟩ := if_neg (by omega)
    rw [hv]
    by_cases h0 : k = 0
    · subst h0
      go_enter Try.func48, Try.ntmps48
      go_wp2_with fail
      go_ret
      exact ⟨rfl, below_alloc _ _⟩
    · rcases (show k < 0 ∨ (¬ k < 0 ∧ 11 ≤ k) by omega) with g | ⟨g, g'⟩
      · go_enter Try.func48, Try.ntmps48
        go_wp2_with fail
        go_ret
        exact ⟨rfl, below_alloc _ _⟩
      · go_enter Try.func48, Try.ntmps48
        go_wp2_with fail
        go_ret
        exact ⟨rfl, below_alloc _ _⟩
  all_goals
    go_enter Try.func48, Try.ntmps48
    go_wp2_with fail
    go_ret
    exact ⟨rfl, below_alloc _ _⟩

end Go.Proofs.Ythbafbgnclpbpaa

namespace Go.Proofs.Ythbafbgnclpbpaa
open Go.RowKit

theorem usesS_size (k : Int) : (usesS k).size ≤ 3 := by
  unfold usesS
  split
  · decide
  · split
    · decide
    · split
      · decide
      · split <;> decide

set_option maxHeartbeats 1000000 in
theorem refuses_any (k : Int) (x : Nat) (w : World) : Calls Try.prog 86 #[.int .i64 k, .int .u8 (x : Int)] w (Ret (.bool (decide (x ∈ tb (usesS k)))) w) := by
  have hU := Lib.hid (refuses0_any k)
  have hs := usesS_size k
  generalize usesS k = s at hU hs ⊢
  have hs2 : s.size ≤ 9223372036854775807 := by omega
  have hl := tb_length s
  go_enter Try.func86, Try.ntmps86
  go_wp2_with fail
  refine (hU.out _).mono ?_
  rintro e w1 ⟨rfl, hb1⟩
  go_wp2_with fail
  go_loopw [6] (fun i wr => ∃ j : Nat, j ≤ s.size ∧ i = .int .i64 j ∧ Hid (∀ q (hq : q < (tb s).length), q < j → (tb s)[q] ≠ x) ∧ wr = w1) (fun i _ => s.size - (intOf i).toNat)
  case atStart => exact ⟨0, Nat.zero_le _, rfl, fun q _ hq => absurd hq (Nat.not_lt_zero _), rfl⟩
  case round =>
    obtain ⟨j, hj, rfl, hpre, rfl⟩ := hrel
    by_cases hlt : j < s.size
    · have hat : (tb s)[j]'(by omega) = s[j].toNat := by simp [tb]; rfl
      have HA := Lib.hid hat
      clear hat
      by_cases he : s[j].toNat = x
      · have ht : ((s[j].toNat : Int) == (x : Int)) = true := by rw [beq_iff_eq]; omega
        have HE := Lib.hid he
        clear he
        go_wp2_with fail
        go_ret
        refine ⟨ret_bool ?_, hb1⟩
        symm
        apply decide_eq_true
        rw [← HE.out, ← HA.out]
        exact List.getElem_mem _
      · have ht : ((s[j].toNat : Int) == (x : Int)) = false := by rw [beq_eq_false_iff_ne]; omega
        have HE := Lib.hid he
        clear he
        go_wp2_with fail
        go_roundw
        case rel =>
          refine ⟨j + 1, by omega, by go_num, fun q hq hqj => ?_, trivial⟩
          rcases Nat.lt_succ_iff_lt_or_eq.1 hqj with g | rfl
          · exact hpre.out q hq g
          · rw [HA.out]; exact HE.out
        case measure => simp [intOf]; omega
    · go_wp2_with fail
      go_ret
      refine ⟨ret_bool ?_, hb1⟩
      symm
      apply decide_eq_false
      intro hm
      obtain ⟨q, hq, he⟩ := List.getElem_of_mem hm
      exact hpre.out q hq (by omega) he

theorem uses_k (k : Int) : decide (107 ∈ tb (usesS k)) = usesKey k := by
  rcases kind_cases k with rfl | rfl | rfl | rfl | rfl | rfl | rfl | rfl | rfl | rfl | h
  case inr.inr.inr.inr.inr.inr.inr.inr.inr.inr =>
    have e : usesS k = ⟨#[]⟩ := by unfold usesS; rw [if_neg (by omega), if_neg (by omega), if_neg (by omega), if_neg (by omega)]
    rw [e, show usesKey k = false from decide_eq_false (by omega)]; rfl
  all_goals decide
theorem uses_t (k : Int) : decide (116 ∈ tb (usesS k)) = usesTo k := by
  rcases kind_cases k with rfl | rfl | rfl | rfl | rfl | rfl | rfl | rfl | rfl | rfl | h
  case inr.inr.inr.inr.inr.inr.inr.inr.inr.inr =>
    have e : usesS k = ⟨#[]⟩ := by unfold usesS; rw [if_neg (by omega), if_neg (by omega), if_neg (by omega), if_neg (by omega)]
    rw [e, show usesTo k = false from decide_eq_false (by omega)]; rfl
  all_goals decide
theorem uses_v (k : Int) : decide (118 ∈ tb (usesS k)) = usesVal k := by
  rcases kind_cases k with rfl | rfl | rfl | rfl | rfl | rfl | rfl | rfl | rfl | rfl | h
  case inr.inr.inr.inr.inr.inr.inr.inr.inr.inr =>
    have e : usesS k = ⟨#[]⟩ := by unfold usesS; rw [if_neg (by omega), if_neg (by omega), if_neg (by omega), if_neg (by omega)]
    rw [e, show usesVal k = false from decide_eq_false (by omega)]; rfl
  all_goals decide
theorem uses_l (k : Int) : decide (108 ∈ tb (usesS k)) = usesTo k := by
  rcases kind_cases k with rfl | rfl | rfl | rfl | rfl | rfl | rfl | rfl | rfl | rfl | h
  case inr.inr.inr.inr.inr.inr.inr.inr.inr.inr =>
    have e : usesS k = ⟨#[]⟩ := by unfold usesS; rw [if_neg (by omega), if_neg (by omega), if_neg (by omega), if_neg (by omega)]
    rw [e, show usesTo k = false from decide_eq_false (by omega)]; rfl
  all_goals decide
theorem uses_none (k : Int) : (usesS k).toList.isEmpty = !isKind k := by
  rw [ByteArray.toList_eq]
  rcases kind_cases k with rfl | rfl | rfl | rfl | rfl | rfl | rfl | rfl | rfl | rfl | h
  case inr.inr.inr.inr.inr.inr.inr.inr.inr.inr =>
    have e : usesS k = ⟨#[]⟩ := by unfold usesS; rw [if_neg (by omega), if_neg (by omega), if_neg (by omega), if_neg (by omega)]
    rw [e, show isKind k = false from decide_eq_false (by omega)]; rfl
  all_goals decide

theorem refkey_any (k : ByteArray) (w : World) (hk : k.size ≤ maxLen) : Calls Try.prog 87 #[.string k] w (Ret (.bool (goodK k)) w) := by
  unfold maxLen at hk
  by_cases h1 : 1 ≤ k.size
  · by_cases h2 : k.size ≤ 64
    · have e : goodK k = true := decide_eq_true ⟨h1, h2⟩
      rw [e]
      have t1 : (1 : Int) ≤ (k.size : Int) := by omega
      have t2 : (k.size : Int) ≤ 64 := by omega
      go_enter Try.func87, Try.ntmps87
      go_wp2_with fail
      go_ret
      exact ⟨rfl, Below.refl _ _⟩
    · have e : goodK k = false := decide_eq_false (by omega)
      rw [e]
      have t1 : (1 : Int) ≤ (k.size : Int) := by omega
      have t2 : ¬ (k.size : Int) ≤ 64 := by omega
      go_enter Try.func87, Try.ntmps87
      go_wp2_with fail
      go_ret
      exact ⟨rfl, Below.refl _ _⟩
  · have e : goodK k = false := decide_eq_false (by omega)
    rw [e]
    have t1 : ¬ (1 : Int) ≤ (k.size : Int) := by omega
    go_enter Try.func87, Try.ntmps87
    go_wp2_with fail
    go_ret
    exact ⟨rfl, Below.refl _ _⟩

end Go.Proofs.Ythbafbgnclpbpaa

namespace Go.Proofs.Ythbafbgnclpbpaa
open Go.RowKit

set_option maxRecDepth 100000 in
set_option maxHeartbeats 16000000 in
theorem refsound16_any (o : OpD) (w : World) (ho : OpOk o) : Calls Try.prog 42 #[.agg (opCells o)] w (Ret (.bool (opB o)) w) := by
  have hn := OpAt.new w o 58
  have hb := below_alloc w (.cells (opCells o) 58)
  have hz : w.heap.size < (w.alloc (.cells (opCells o) 58)).heap.size := by simp
  obtain ⟨kind, key, upto, val, limit⟩ := o
  have hk := ho.key
  have ht := ho.upto
  simp only [] at hk ht
  have hB : opB ⟨kind, key, upto, val, limit⟩ = (isKind kind && ((!usesKey kind || goodK key) && ((!usesTo kind || (goodK upto && !Pl.ls upto.data.toList key.data.toList)) && (!usesTo kind || decide (0 ≤ limit ∧ limit ≤ 4096))))) := rfl
  have HU := Lib.hid (refuses0_any kind)
  have HUk := Lib.hid (fun W => Calls.to (refuses_any kind 107 W) (congrArg Value.bool (uses_k kind)))
  have he := uses_none kind
  have h10 : (kind == (10 : Int)) = usesTo kind := by rw [Bool.eq_iff_iff, beq_iff_eq]; exact (decide_eq_true_iff (p := kind = 10)).symm
  simp only [opCells] at hn hb hz ⊢
  generalize isKind kind = ik at hB he
  generalize usesKey kind = ku at hB HUk
  generalize usesTo kind = tu at hB h10
  generalize usesS kind = us at he HU
  have HK := Lib.hid (And.intro hk ht)
  rw [hB]
  clear hB ho hk ht
  generalize hv : (ik && ((!ku || goodK key) && ((!tu || (goodK upto && !Pl.ls upto.data.toList key.data.toList)) && (!tu || decide (0 ≤ limit ∧ limit ≤ 4096))))) = v
  cases ik
  · have HV := Lib.hid hv
    clear hv
    simp only [Bool.not_false] at he
    go_enter Try.func42, Try.ntmps42
    go_wp2_with fail
    generalize w.alloc _ = W at hn hb hz ⊢
    obtain ⟨x0, x1, x2, x3, x4⟩ := id hn
    simp only [] at x0 x1 x2 x3 x4
    refine (HU.out _).mono ?_
    rintro e wn ⟨rfl, hbn⟩
    replace hb := below_of hb hbn
    replace hn := hn.up hbn hz
    replace hz := Nat.lt_of_lt_of_le hz hbn.size
    clear hbn x0 x1 x2 x3 x4
    obtain ⟨x0, x1, x2, x3, x4⟩ := id hn
    simp only [] at x0 x1 x2 x3 x4
    go_wp2_with fail
    go_ret
    exact ⟨ret_bool HV.out, hb⟩
  · simp only [Bool.not_true] at he
    cases ku
    · cases tu
      · have HV := Lib.hid hv
        clear hv
        go_enter Try.func42, Try.ntmps42
        go_wp2_with fail
        generalize w.alloc _ = W at hn hb hz ⊢
        obtain ⟨x0, x1, x2, x3, x4⟩ := id hn
        simp only [] at x0 x1 x2 x3 x4
        refine (HU.out _).mono ?_
        rintro e wn ⟨rfl, hbn⟩
        replace hb := below_of hb hbn
        replace hn := hn.up hbn hz
        replace hz := Nat.lt_of_lt_of_le hz hbn.size
        clear hbn x0 x1 x2 x3 x4
        obtain ⟨x0, x1, x2, x3, x4⟩ := id hn
        simp only [] at x0 x1 x2 x3 x4
        go_wp2_with fail
        refine (HUk.out _).mono ?_
        rintro e wn ⟨rfl, hbn⟩
        replace hb := below_of hb hbn
        replace hn := hn.up hbn hz
        replace hz := Nat.lt_of_lt_of_le hz hbn.size
        clear hbn x0 x1 x2 x3 x4
        obtain ⟨x0, x1, x2, x3, x4⟩ := id hn
        simp only [] at x0 x1 x2 x3 x4
        go_wp2_with fail
        go_ret
        exact ⟨ret_bool HV.out, hb⟩
      · cases hgt : goodK upto <;> cases hls : Pl.ls upto.data.toList key.data.toList <;> cases hlm : decide (0 ≤ limit ∧ limit ≤ 4096)
        all_goals
          rw [hgt, hls, hlm] at hv
          have HV := Lib.hid hv
          have HG := Lib.hid (And.intro hgt hls)
          clear hv hgt hls
          go_enter Try.func42, Try.ntmps42
          go_wp2_with fail
          generalize w.alloc _ = W at hn hb hz ⊢
          obtain ⟨x0, x1, x2, x3, x4⟩ := id hn
          simp only [] at x0 x1 x2 x3 x4
          refine (HU.out _).mono ?_
          rintro e wn ⟨rfl, hbn⟩
          replace hb := below_of hb hbn
          replace hn := hn.up hbn hz
          replace hz := Nat.lt_of_lt_of_le hz hbn.size
          clear hbn x0 x1 x2 x3 x4
          obtain ⟨x0, x1, x2, x3, x4⟩ := id hn
          simp only [] at x0 x1 x2 x3 x4
          go_wp2_with fail
          refine (HUk.out _).mono ?_
          rintro e wn ⟨rfl, hbn⟩
          replace hb := below_of hb hbn
          replace hn := hn.up hbn hz
          replace hz := Nat.lt_of_lt_of_le hz hbn.size
          clear hbn x0 x1 x2 x3 x4
          obtain ⟨x0, x1, x2, x3, x4⟩ := id hn
          simp only [] at x0 x1 x2 x3 x4
          go_wp2_with fail
          skip
          refine (Calls.to (refkey_any upto _ HK.out.2) (congrArg Value.bool HG.out.1)).mono ?_
          rintro e wn ⟨rfl, hbn⟩
          replace hb := below_of hb hbn
          replace hn := hn.up hbn hz
          replace hz := Nat.lt_of_lt_of_le hz hbn.size
          clear hbn x0 x1 x2 x3 x4
          obtain ⟨x0, x1, x2, x3, x4⟩ := id hn
          simp only [] at x0 x1 x2 x3 x4
          go_wp2_with fail
          first
          | go_ret
            exact ⟨ret_bool HV.out, hb⟩
          | refine (Calls.to (refless_any upto key _ HK.out.2 HK.out.1) (congrArg Value.bool HG.out.2)).mono ?_
            first
            | skip
              rintro e wn ⟨rfl, hbn⟩
              replace hb := below_of hb hbn
              replace hn := hn.up hbn hz
              replace hz := Nat.lt_of_lt_of_le hz hbn.size
              clear hbn x0 x1 x2 x3 x4
              obtain ⟨x0, x1, x2, x3, x4⟩ := id hn
              simp only [] at x0 x1 x2 x3 x4
              go_wp2_with fail
              go_ret
              exact ⟨ret_bool HV.out, hb⟩
            | rcases (show limit < 0 ∨ (0 ≤ limit ∧ 4096 < limit) ∨ (0 ≤ limit ∧ limit ≤ 4096) by omega) with l | ⟨l, l'⟩ | ⟨l, l'⟩
              · first
                | exact (absurd (of_decide_eq_true hlm) (by omega))
                | exact (of_decide_eq_false hlm (by omega)).elim
                | clear hlm
                  have t1 : ¬ 0 ≤ limit := by omega
                  rintro e wn ⟨rfl, hbn⟩
                  replace hb := below_of hb hbn
                  replace hn := hn.up hbn hz
                  replace hz := Nat.lt_of_lt_of_le hz hbn.size
                  clear hbn x0 x1 x2 x3 x4
                  obtain ⟨x0, x1, x2, x3, x4⟩ := id hn
                  simp only [] at x0 x1 x2 x3 x4
                  go_wp2_with fail
                  go_ret
                  exact ⟨ret_bool HV.out, hb⟩
              · first
                | exact (absurd (of_decide_eq_true hlm) (by omega))
                | exact (of_decide_eq_false hlm (by omega)).elim
                | clear hlm
                  have t1 : decide (limit ≤ 4096) = false := decide_eq_false (by omega)
                  rintro e wn ⟨rfl, hbn⟩
                  replace hb := below_of hb hbn
                  replace hn := hn.up hbn hz
                  replace hz := Nat.lt_of_lt_of_le hz hbn.size
                  clear hbn x0 x1 x2 x3 x4
                  obtain ⟨x0, x1, x2, x3, x4⟩ := id hn
                  simp only [] at x0 x1 x2 x3 x4
                  go_wp2_with fail
                  go_ret
                  exact ⟨ret_bool HV.out, hb⟩
              · first
                | exact (absurd (of_decide_eq_true hlm) (by omega))
                | exact (of_decide_eq_false hlm (by omega)).elim
                | clear hlm
                  skip
                  rintro e wn ⟨rfl, hbn⟩
                  replace hb := below_of hb hbn
                  replace hn := hn.up hbn hz
                  replace hz := Nat.lt_of_lt_of_le hz hbn.size
                  clear hbn x0 x1 x2 x3 x4
                  obtain ⟨x0, x1, x2, x3, x4⟩ := id hn
                  simp only [] at x0 x1 x2 x3 x4
                  go_wp2_with fail
                  go_ret
                  exact ⟨ret_bool HV.out, hb⟩
    · cases hgk : goodK key
      · rw [hgk] at hv
        have HV := Lib.hid hv
        have HGK := Lib.hid hgk
        clear hv hgk
        go_enter Try.func42, Try.ntmps42
        go_wp2_with fail
        generalize w.alloc _ = W at hn hb hz ⊢
        obtain ⟨x0, x1, x2, x3, x4⟩ := id hn
        simp only [] at x0 x1 x2 x3 x4
        refine (HU.out _).mono ?_
        rintro e wn ⟨rfl, hbn⟩
        replace hb := below_of hb hbn
        replace hn := hn.up hbn hz
        replace hz := Nat.lt_of_lt_of_le hz hbn.size
        clear hbn x0 x1 x2 x3 x4
        obtain ⟨x0, x1, x2, x3, x4⟩ := id hn
        simp only [] at x0 x1 x2 x3 x4
        go_wp2_with fail
        refine (HUk.out _).mono ?_
        rintro e wn ⟨rfl, hbn⟩
        replace hb := below_of hb hbn
        replace hn := hn.up hbn hz
        replace hz := Nat.lt_of_lt_of_le hz hbn.size
        clear hbn x0 x1 x2 x3 x4
        obtain ⟨x0, x1, x2, x3, x4⟩ := id hn
        simp only [] at x0 x1 x2 x3 x4
        go_wp2_with fail
        refine (Calls.to (refkey_any key _ HK.out.1) (congrArg Value.bool HGK.out)).mono ?_
        rintro e wn ⟨rfl, hbn⟩
        replace hb := below_of hb hbn
        replace hn := hn.up hbn hz
        replace hz := Nat.lt_of_lt_of_le hz hbn.size
        clear hbn x0 x1 x2 x3 x4
        obtain ⟨x0, x1, x2, x3, x4⟩ := id hn
        simp only [] at x0 x1 x2 x3 x4
        go_wp2_with fail
        go_ret
        exact ⟨ret_bool HV.out, hb⟩
      · rw [hgk] at hv
        have HGK := Lib.hid hgk
        clear hgk
        cases tu
        · have HV := Lib.hid hv
          clear hv
          go_enter Try.func42, Try.ntmps42
          go_wp2_with fail
          generalize w.alloc _ = W at hn hb hz ⊢
          obtain ⟨x0, x1, x2, x3, x4⟩ := id hn
          simp only [] at x0 x1 x2 x3 x4
          refine (HU.out _).mono ?_
          rintro e wn ⟨rfl, hbn⟩
          replace hb := below_of hb hbn
          replace hn := hn.up hbn hz
          replace hz := Nat.lt_of_lt_of_le hz hbn.size
          clear hbn x0 x1 x2 x3 x4
          obtain ⟨x0, x1, x2, x3, x4⟩ := id hn
          simp only [] at x0 x1 x2 x3 x4
          go_wp2_with fail
          refine (HUk.out _).mono ?_
          rintro e wn ⟨rfl, hbn⟩
          replace hb := below_of hb hbn
          replace hn := hn.up hbn hz
          replace hz := Nat.lt_of_lt_of_le hz hbn.size
          clear hbn x0 x1 x2 x3 x4
          obtain ⟨x0, x1, x2, x3, x4⟩ := id hn
          simp only [] at x0 x1 x2 x3 x4
          go_wp2_with fail
          refine (Calls.to (refkey_any key _ HK.out.1) (congrArg Value.bool HGK.out)).mono ?_
          rintro e wn ⟨rfl, hbn⟩
          replace hb := below_of hb hbn
          replace hn := hn.up hbn hz
          replace hz := Nat.lt_of_lt_of_le hz hbn.size
          clear hbn x0 x1 x2 x3 x4
          obtain ⟨x0, x1, x2, x3, x4⟩ := id hn
          simp only [] at x0 x1 x2 x3 x4
          go_wp2_with fail
          go_ret
          exact ⟨ret_bool HV.out, hb⟩
        · cases hgt : goodK upto <;> cases hls : Pl.ls upto.data.toList key.data.toList <;> cases hlm : decide (0 ≤ limit ∧ limit ≤ 4096)
          all_goals
            rw [hgt, hls, hlm] at hv
            have HV := Lib.hid hv
            have HG := Lib.hid (And.intro hgt hls)
            clear hv hgt hls
            go_enter Try.func42, Try.ntmps42
            go_wp2_with fail
            generalize w.alloc _ = W at hn hb hz ⊢
            obtain ⟨x0, x1, x2, x3, x4⟩ := id hn
            simp only [] at x0 x1 x2 x3 x4
            refine (HU.out _).mono ?_
            rintro e wn ⟨rfl, hbn⟩
            replace hb := below_of hb hbn
            replace hn := hn.up hbn hz
            replace hz := Nat.lt_of_lt_of_le hz hbn.size
            clear hbn x0 x1 x2 x3 x4
            obtain ⟨x0, x1, x2, x3, x4⟩ := id hn
            simp only [] at x0 x1 x2 x3 x4
            go_wp2_with fail
            refine (HUk.out _).mono ?_
            rintro e wn ⟨rfl, hbn⟩
            replace hb := below_of hb hbn
            replace hn := hn.up hbn hz
            replace hz := Nat.lt_of_lt_of_le hz hbn.size
            clear hbn x0 x1 x2 x3 x4
            obtain ⟨x0, x1, x2, x3, x4⟩ := id hn
            simp only [] at x0 x1 x2 x3 x4
            go_wp2_with fail
            refine (Calls.to (refkey_any key _ HK.out.1) (congrArg Value.bool HGK.out)).mono ?_
            rintro e wn ⟨rfl, hbn⟩
            replace hb := below_of hb hbn
            replace hn := hn.up hbn hz
            replace hz := Nat.lt_of_lt_of_le hz hbn.size
            clear hbn x0 x1 x2 x3 x4
            obtain ⟨x0, x1, x2, x3, x4⟩ := id hn
            simp only [] at x0 x1 x2 x3 x4
            go_wp2_with fail
            refine (Calls.to (refkey_any upto _ HK.out.2) (congrArg Value.bool HG.out.1)).mono ?_
            rintro e wn ⟨rfl, hbn⟩
            replace hb := below_of hb hbn
            replace hn := hn.up hbn hz
            replace hz := Nat.lt_of_lt_of_le hz hbn.size
            clear hbn x0 x1 x2 x3 x4
            obtain ⟨x0, x1, x2, x3, x4⟩ := id hn
            simp only [] at x0 x1 x2 x3 x4
            go_wp2_with fail
            first
            | go_ret
              exact ⟨ret_bool HV.out, hb⟩
            | refine (Calls.to (refless_any upto key _ HK.out.2 HK.out.1) (congrArg Value.bool HG.out.2)).mono ?_
              first
              | skip
                rintro e wn ⟨rfl, hbn⟩
                replace hb := below_of hb hbn
                replace hn := hn.up hbn hz
                replace hz := Nat.lt_of_lt_of_le hz hbn.size
                clear hbn x0 x1 x2 x3 x4
                obtain ⟨x0, x1, x2, x3, x4⟩ := id hn
                simp only [] at x0 x1 x2 x3 x4
                go_wp2_with fail
                go_ret
                exact ⟨ret_bool HV.out, hb⟩
              | rcases (show limit < 0 ∨ (0 ≤ limit ∧ 4096 < limit) ∨ (0 ≤ limit ∧ limit ≤ 4096) by omega) with l | ⟨l, l'⟩ | ⟨l, l'⟩
                · first
                  | exact (absurd (of_decide_eq_true hlm) (by omega))
                  | exact (of_decide_eq_false hlm (by omega)).elim
                  | clear hlm
                    have t1 : ¬ 0 ≤ limit := by omega
                    rintro e wn ⟨rfl, hbn⟩
                    replace hb := below_of hb hbn
                    replace hn := hn.up hbn hz
                    replace hz := Nat.lt_of_lt_of_le hz hbn.size
                    clear hbn x0 x1 x2 x3 x4
                    obtain ⟨x0, x1, x2, x3, x4⟩ := id hn
                    simp only [] at x0 x1 x2 x3 x4
                    go_wp2_with fail
                    go_ret
                    exact ⟨ret_bool HV.out, hb⟩
                · first
                  | exact (absurd (of_decide_eq_true hlm) (by omega))
                  | exact (of_decide_eq_false hlm (by omega)).elim
                  | clear hlm
                    have t1 : decide (limit ≤ 4096) = false := decide_eq_false (by omega)
                    rintro e wn ⟨rfl, hbn⟩
                    replace hb := below_of hb hbn
                    replace hn := hn.up hbn hz
                    replace hz := Nat.lt_of_lt_of_le hz hbn.size
                    clear hbn x0 x1 x2 x3 x4
                    obtain ⟨x0, x1, x2, x3, x4⟩ := id hn
                    simp only [] at x0 x1 x2 x3 x4
                    go_wp2_with fail
                    go_ret
                    exact ⟨ret_bool HV.out, hb⟩
                · first
                  | exact (absurd (of_decide_eq_true hlm) (by omega))
                  | exact (of_decide_eq_false hlm (by omega)).elim
                  | clear hlm
                    skip
                    rintro e wn ⟨rfl, hbn⟩
                    replace hb := below_of hb hbn
                    replace hn := hn.up hbn hz
                    replace hz := Nat.lt_of_lt_of_le hz hbn.size
                    clear hbn x0 x1 x2 x3 x4
                    obtain ⟨x0, x1, x2, x3, x4⟩ := id hn
                    simp only [] at x0 x1 x2 x3 x4
                    go_wp2_with fail
                    go_ret
                    exact ⟨ret_bool HV.out, hb⟩

end Go.Proofs.Ythbafbgnclpbpaa

namespace Go.Proofs.Ythbafbgnclpbpaa
open Go.RowKit

def readsB (o : OpD) : Bool := opB o && decide (o.kind = 1 ∨ 6 ≤ o.kind)
theorem opB_kind {o : OpD} (h : opB o = true) : 1 ≤ o.kind ∧ o.kind ≤ 10 := by
  unfold opB at h
  rw [Bool.and_eq_true] at h
  exact of_decide_eq_true h.1

set_option maxHeartbeats 2000000 in
theorem opreads_any (o : OpD) (w : World) (ho : OpOk o) : Calls Try.prog 45 #[.agg (opCells o)] w (Ret (.bool (readsB o)) w) := by
  have hn := OpAt.new w o 58
  have hb := below_alloc w (.cells (opCells o) 58)
  have hr : readsB o = (opB o && decide (o.kind = 1 ∨ 6 ≤ o.kind)) := rfl
  have hq := opB_kind (o := o)
  have HC := Lib.hid (fun W => opcheck_any o W ho)
  generalize opB o = b at hr hq HC
  generalize readsB o = v at hr ⊢
  obtain ⟨kind, key, upto, val, limit⟩ := o
  simp only [opCells] at hn hb HC ⊢
  simp only [] at hr hq
  have HR := Lib.hid hr
  clear hr
  rcases (show kind = 2 ∨ kind = 3 ∨ kind = 4 ∨ kind = 5 ∨ (kind ≠ 2 ∧ kind ≠ 3 ∧ kind ≠ 4 ∧ kind ≠ 5) by omega) with rfl | rfl | rfl | rfl | ⟨n2, n3, n4, n5⟩
  case inr.inr.inr.inr =>
    have e2 : (kind == (2 : Int)) = false := by rw [beq_eq_false_iff_ne]; omega
    have e3 : (kind == (3 : Int)) = false := by rw [beq_eq_false_iff_ne]; omega
    have e4 : (kind == (4 : Int)) = false := by rw [beq_eq_false_iff_ne]; omega
    have e5 : (kind == (5 : Int)) = false := by rw [beq_eq_false_iff_ne]; omega
    have hv : v = b := by
      rw [HR.out]
      cases b
      · rfl
      · have := hq rfl
        rw [Bool.true_and]
        exact decide_eq_true (by omega)
    have HV := Lib.hid hv
    clear hv n2 n3 n4 n5 hq
    go_enter Try.func45, Try.ntmps45
    go_wp2_with fail
    generalize w.alloc _ = W at hn hb ⊢
    refine (HC.out _).mono ?_
    rintro e wn ⟨rfl, hbn⟩
    replace hb := below_of hb hbn
    cases b
    · rw [if_neg Bool.false_ne_true]
      go_wp2_with fail
      go_ret
      exact ⟨ret_bool HV.out.symm, hb⟩
    · rw [if_pos rfl]
      go_wp2_with fail
      go_ret
      exact ⟨ret_bool HV.out.symm, hb⟩
  all_goals
    have HV := Lib.hid (HR.out.trans (show (b && decide _) = false by rw [decide_eq_false (by omega), Bool.and_false]))
    go_enter Try.func45, Try.ntmps45
    go_wp2_with fail
    go_ret
    exact ⟨ret_bool HV.out.symm, hb⟩

set_option maxHeartbeats 2000000 in
theorem refreads_any (o : OpD) (w : World) (ho : OpOk o) : Calls Try.prog 46 #[.agg (opCells o)] w (Ret (.bool (readsB o)) w) := by
  have hn := OpAt.new w o 58
  have hb := below_alloc w (.cells (opCells o) 58)
  have hz : w.heap.size < (w.alloc (.cells (opCells o) 58)).heap.size := by simp
  have hr : readsB o = (opB o && decide (o.kind = 1 ∨ 6 ≤ o.kind)) := rfl
  have HC := Lib.hid (fun W => refsound16_any o W ho)
  generalize opB o = b at hr HC
  generalize readsB o = v at hr ⊢
  obtain ⟨kind, key, upto, val, limit⟩ := o
  simp only [opCells] at hn hb hz HC ⊢
  simp only [] at hr
  have HR := Lib.hid hr
  clear hr
  have hd : decide (kind = 1 ∨ 6 ≤ kind) = ((kind == (1 : Int)) || decide (6 ≤ kind)) := by
    rw [Bool.eq_iff_iff, Bool.or_eq_true, beq_iff_eq, decide_eq_true_iff, decide_eq_true_iff]
  have HD := Lib.hid hd
  clear hd
  cases b
  · go_enter Try.func46, Try.ntmps46
    go_wp2_with fail
    generalize w.alloc _ = W at hn hb hz ⊢
    refine (HC.out _).mono ?_
    rintro e wn ⟨rfl, hbn⟩
    replace hb := below_of hb hbn
    go_wp2_with fail
    go_ret
    exact ⟨ret_bool HR.out.symm, hb⟩
  · by_cases h1 : kind = 1
    · have e1 : (kind == (1 : Int)) = true := by simp [h1]
      have HV := Lib.hid (HR.out.trans (by rw [HD.out, e1]))
      clear h1
      go_enter Try.func46, Try.ntmps46
      go_wp2_with fail
      generalize w.alloc _ = W at hn hb hz ⊢
      refine (HC.out _).mono ?_
      rintro e wn ⟨rfl, hbn⟩
      replace hb := below_of hb hbn
      replace hn := hn.up hbn hz
      obtain ⟨x0, x1, x2, x3, x4⟩ := id hn
      simp only [] at x0 x1 x2 x3 x4
      go_wp2_with fail
      go_ret
      exact ⟨ret_bool HV.out.symm, hb⟩
    · have e1 : (kind == (1 : Int)) = false := by simp [h1]
      by_cases h6 : 6 ≤ kind
      · have HV := Lib.hid (HR.out.trans (by rw [HD.out, e1, decide_eq_true h6]))
        clear h1
        go_enter Try.func46, Try.ntmps46
        go_wp2_with fail
        generalize w.alloc _ = W at hn hb hz ⊢
        refine (HC.out _).mono ?_
        rintro e wn ⟨rfl, hbn⟩
        replace hb := below_of hb hbn
        replace hn := hn.up hbn hz
        obtain ⟨x0, x1, x2, x3, x4⟩ := id hn
        simp only [] at x0 x1 x2 x3 x4
        go_wp2_with fail
        go_ret
        exact ⟨ret_bool HV.out.symm, hb⟩
      · have HV := Lib.hid (HR.out.trans (by rw [HD.out, e1, decide_eq_false h6]))
        have t6 : decide (6 ≤ kind) = false := decide_eq_false h6
        clear h1
        go_enter Try.func46, Try.ntmps46
        go_wp2_with fail
        generalize w.alloc _ = W at hn hb hz ⊢
        refine (HC.out _).mono ?_
        rintro e wn ⟨rfl, hbn⟩
        replace hb := below_of hb hbn
        replace hn := hn.up hbn hz
        obtain ⟨x0, x1, x2, x3, x4⟩ := id hn
        simp only [] at x0 x1 x2 x3 x4
        go_wp2_with fail
        go_ret
        exact ⟨ret_bool HV.out.symm, hb⟩

end Go.Proofs.Ythbafbgnclpbpaa

namespace Go.Proofs.Ythbafbgnclpbpaa
open Go.RowKit

def plainV (ik ku tu vu : Bool) (o : OpD) : OpD :=
  if ik = true then ⟨o.kind, if ku = true then o.key else ⟨#[]⟩, if tu = true then o.upto else ⟨#[]⟩, if vu = true then o.val else 0, if tu = true then o.limit else 0⟩ else ⟨0, ⟨#[]⟩, ⟨#[]⟩, 0, 0⟩
/-- An operation with what it uses alone. -/
def plainO (o : OpD) : OpD := plainV (isKind o.kind) (usesKey o.kind) (usesTo o.kind) (usesVal o.kind) o

theorem alloc_cell {w : World} {g i : Nat} {v : Value} (h : w.cell? ⟨g, i, none⟩ = some v) (hg : g < w.heap.size) (o : Obj) : (w.alloc o).cell? ⟨g, i, none⟩ = some v := ((below_alloc w o).cell (p := ⟨g, i, none⟩) hg).trans h
theorem alloc_frozen {w : World} {g i : Nat} {b : Bool} (h : w.frozen? ⟨g, i, none⟩ = b) (hg : g < w.heap.size) (o : Obj) : (w.alloc o).frozen? ⟨g, i, none⟩ = b := ((below_alloc w o).frozen (p := ⟨g, i, none⟩) hg).trans h
theorem alloc_cell2 {w : World} {g i : Nat} {v : Value} (h : w.cell? ⟨g, i, none⟩ = some v) (hg : g < w.heap.size) (o o' : Obj) : ((w.alloc o).alloc o').cell? ⟨g, i, none⟩ = some v := alloc_cell (alloc_cell h hg o) (by simp; omega) o'
theorem alloc_frozen2 {w : World} {g i : Nat} {b : Bool} (h : w.frozen? ⟨g, i, none⟩ = b) (hg : g < w.heap.size) (o o' : Obj) : ((w.alloc o).alloc o').frozen? ⟨g, i, none⟩ = b := alloc_frozen (alloc_frozen h hg o) (by simp; omega) o'
theorem five_set {w W : World} (hb : Below w.heap.size w W) (g : Nat) (a b c d e : Value) (hg : w.heap.size ≤ g + 1) :
    Below w.heap.size w (((((W.setCell ⟨g + 1, 0, none⟩ a).setCell ⟨g + 1, 1, none⟩ b).setCell ⟨g + 1, 2, none⟩ c).setCell ⟨g + 1, 3, none⟩ d).setCell ⟨g + 1, 4, none⟩ e) :=
  ((((hb.setCell (p := ⟨g + 1, 0, none⟩) hg a).setCell (p := ⟨g + 1, 1, none⟩) hg b).setCell (p := ⟨g + 1, 2, none⟩) hg c).setCell (p := ⟨g + 1, 3, none⟩) hg d).setCell (p := ⟨g + 1, 4, none⟩) hg e

set_option maxRecDepth 100000 in
set_option maxHeartbeats 8000000 in
theorem opplain_any (o : OpD) (w : World) : Calls Try.prog 43 #[.agg (opCells o)] w (Ret (.agg (opCells (plainO o))) w) := by
  have hn := (OpAt.new w o 58).up (below_alloc _ (.cells #[.int .i64 0, .string ⟨#[]⟩, .string ⟨#[]⟩, .int .u64 0, .int .i64 0] 58)) (by simp)
  have hrs : ((w.alloc (.cells (opCells o) 58)).alloc (.cells #[.int .i64 0, .string ⟨#[]⟩, .string ⟨#[]⟩, .int .u64 0, .int .i64 0] 58)).heap[w.heap.size + 1]? = some (.cells #[.int .i64 0, .string ⟨#[]⟩, .string ⟨#[]⟩, .int .u64 0, .int .i64 0] 58 (0, 0)) := by
    have e : (w.alloc (.cells (opCells o) 58)).heap.size = w.heap.size + 1 := by simp
    rw [← e]
    exact heap_alloc_new _ _
  have hb := below_of (below_alloc w (.cells (opCells o) 58)) (below_alloc _ (.cells #[.int .i64 0, .string ⟨#[]⟩, .string ⟨#[]⟩, .int .u64 0, .int .i64 0] 58))
  have hsz : w.heap.size + 1 < ((w.alloc (.cells (opCells o) 58)).alloc (.cells #[.int .i64 0, .string ⟨#[]⟩, .string ⟨#[]⟩, .int .u64 0, .int .i64 0] 58)).heap.size := by simp
  have HU := Lib.hid (used_any o.kind)
  have hp : plainO o = plainV (isKind o.kind) (usesKey o.kind) (usesTo o.kind) (usesVal o.kind) o := rfl
  rw [hp]
  clear hp
  simp only [usesV] at HU
  generalize isKind o.kind = ik at HU ⊢
  generalize usesKey o.kind = ku at HU ⊢
  generalize usesTo o.kind = tu at HU ⊢
  generalize usesVal o.kind = vu at HU ⊢
  obtain ⟨kind, key, upto, val, limit⟩ := o
  simp only [opCells] at hn hb hrs hsz HU
  cases ik
  · have HP : plainV false ku tu vu ⟨kind, key, upto, val, limit⟩ = ⟨0, ⟨#[]⟩, ⟨#[]⟩, 0, 0⟩ := rfl
    rw [HP]
    simp only [opCells]
    go_enter Try.func43, Try.ntmps43
    go_wp2_with fail
    generalize (w.alloc _).alloc _ = W at hn hb hrs hsz ⊢
    obtain ⟨x0, x1, x2, x3, x4⟩ := id hn
    simp only [] at x0 x1 x2 x3 x4
    (try go_wp2_with fail)
    refine (HU.out _).mono ?_
    rintro e wn ⟨rfl, hbn⟩
    have rs3 := (hbn.block (w.heap.size + 1) hsz).trans hrs
    replace hb := below_of hb hbn
    replace hn := hn.up hbn (by omega)
    replace hsz := Nat.lt_of_lt_of_le hsz hbn.size
    have t0 : wn.cell? ⟨w.heap.size + 1, 0, none⟩ = some (.int .i64 0) := by simp [World.cell?, rs3]
    have t1 : wn.cell? ⟨w.heap.size + 1, 1, none⟩ = some (.string ⟨#[]⟩) := by simp [World.cell?, rs3]
    have t2 : wn.cell? ⟨w.heap.size + 1, 2, none⟩ = some (.string ⟨#[]⟩) := by simp [World.cell?, rs3]
    have t3 : wn.cell? ⟨w.heap.size + 1, 3, none⟩ = some (.int .u64 0) := by simp [World.cell?, rs3]
    have t4 : wn.cell? ⟨w.heap.size + 1, 4, none⟩ = some (.int .i64 0) := by simp [World.cell?, rs3]
    have f0 : wn.frozen? ⟨w.heap.size + 1, 0, none⟩ = false := by simp [World.frozen?, rs3]
    have f1 : wn.frozen? ⟨w.heap.size + 1, 1, none⟩ = false := by simp [World.frozen?, rs3]
    have f2 : wn.frozen? ⟨w.heap.size + 1, 2, none⟩ = false := by simp [World.frozen?, rs3]
    have f3 : wn.frozen? ⟨w.heap.size + 1, 3, none⟩ = false := by simp [World.frozen?, rs3]
    have f4 : wn.frozen? ⟨w.heap.size + 1, 4, none⟩ = false := by simp [World.frozen?, rs3]
    clear hbn rs3 hrs x0 x1 x2 x3 x4
    obtain ⟨x0, x1, x2, x3, x4⟩ := id hn
    simp only [] at x0 x1 x2 x3 x4
    have A0 := alloc_cell x0 (show w.heap.size < wn.heap.size by omega)
    have B0 := alloc_cell t0 hsz
    have C0 := alloc_frozen f0 hsz
    have D0 := alloc_cell2 x0 (show w.heap.size < wn.heap.size by omega)
    have E0 := alloc_cell2 t0 hsz
    have G0 := alloc_frozen2 f0 hsz
    have A1 := alloc_cell x1 (show w.heap.size < wn.heap.size by omega)
    have B1 := alloc_cell t1 hsz
    have C1 := alloc_frozen f1 hsz
    have D1 := alloc_cell2 x1 (show w.heap.size < wn.heap.size by omega)
    have E1 := alloc_cell2 t1 hsz
    have G1 := alloc_frozen2 f1 hsz
    have A2 := alloc_cell x2 (show w.heap.size < wn.heap.size by omega)
    have B2 := alloc_cell t2 hsz
    have C2 := alloc_frozen f2 hsz
    have D2 := alloc_cell2 x2 (show w.heap.size < wn.heap.size by omega)
    have E2 := alloc_cell2 t2 hsz
    have G2 := alloc_frozen2 f2 hsz
    have A3 := alloc_cell x3 (show w.heap.size < wn.heap.size by omega)
    have B3 := alloc_cell t3 hsz
    have C3 := alloc_frozen f3 hsz
    have D3 := alloc_cell2 x3 (show w.heap.size < wn.heap.size by omega)
    have E3 := alloc_cell2 t3 hsz
    have G3 := alloc_frozen2 f3 hsz
    have A4 := alloc_cell x4 (show w.heap.size < wn.heap.size by omega)
    have B4 := alloc_cell t4 hsz
    have C4 := alloc_frozen f4 hsz
    have D4 := alloc_cell2 x4 (show w.heap.size < wn.heap.size by omega)
    have E4 := alloc_cell2 t4 hsz
    have G4 := alloc_frozen2 f4 hsz
    go_wp2_with fail
    exact bodyPost_ret (v := .agg #[.int .i64 0, .string ⟨#[]⟩, .string ⟨#[]⟩, .int .u64 0, .int .i64 0]) (by simp [results, Try.results43, go_sem, *]) rfl ⟨rfl, below_of (five_set hb w.heap.size _ _ _ _ _ (Nat.le_succ _)) (below_alloc _ _)⟩
  · cases ku <;> cases tu <;> cases vu
    · simp only [plainV, opCells, if_pos rfl, if_neg Bool.false_ne_true]
      go_enter Try.func43, Try.ntmps43
      go_wp2_with fail
      generalize (w.alloc _).alloc _ = W at hn hb hrs hsz ⊢
      obtain ⟨x0, x1, x2, x3, x4⟩ := id hn
      simp only [] at x0 x1 x2 x3 x4
      (try go_wp2_with fail)
      refine (HU.out _).mono ?_
      rintro e wn ⟨rfl, hbn⟩
      have rs3 := (hbn.block (w.heap.size + 1) hsz).trans hrs
      replace hb := below_of hb hbn
      replace hn := hn.up hbn (by omega)
      replace hsz := Nat.lt_of_lt_of_le hsz hbn.size
      have t0 : wn.cell? ⟨w.heap.size + 1, 0, none⟩ = some (.int .i64 0) := by simp [World.cell?, rs3]
      have t1 : wn.cell? ⟨w.heap.size + 1, 1, none⟩ = some (.string ⟨#[]⟩) := by simp [World.cell?, rs3]
      have t2 : wn.cell? ⟨w.heap.size + 1, 2, none⟩ = some (.string ⟨#[]⟩) := by simp [World.cell?, rs3]
      have t3 : wn.cell? ⟨w.heap.size + 1, 3, none⟩ = some (.int .u64 0) := by simp [World.cell?, rs3]
      have t4 : wn.cell? ⟨w.heap.size + 1, 4, none⟩ = some (.int .i64 0) := by simp [World.cell?, rs3]
      have f0 : wn.frozen? ⟨w.heap.size + 1, 0, none⟩ = false := by simp [World.frozen?, rs3]
      have f1 : wn.frozen? ⟨w.heap.size + 1, 1, none⟩ = false := by simp [World.frozen?, rs3]
      have f2 : wn.frozen? ⟨w.heap.size + 1, 2, none⟩ = false := by simp [World.frozen?, rs3]
      have f3 : wn.frozen? ⟨w.heap.size + 1, 3, none⟩ = false := by simp [World.frozen?, rs3]
      have f4 : wn.frozen? ⟨w.heap.size + 1, 4, none⟩ = false := by simp [World.frozen?, rs3]
      clear hbn rs3 hrs x0 x1 x2 x3 x4
      obtain ⟨x0, x1, x2, x3, x4⟩ := id hn
      simp only [] at x0 x1 x2 x3 x4
      have A0 := alloc_cell x0 (show w.heap.size < wn.heap.size by omega)
      have B0 := alloc_cell t0 hsz
      have C0 := alloc_frozen f0 hsz
      have D0 := alloc_cell2 x0 (show w.heap.size < wn.heap.size by omega)
      have E0 := alloc_cell2 t0 hsz
      have G0 := alloc_frozen2 f0 hsz
      have A1 := alloc_cell x1 (show w.heap.size < wn.heap.size by omega)
      have B1 := alloc_cell t1 hsz
      have C1 := alloc_frozen f1 hsz
      have D1 := alloc_cell2 x1 (show w.heap.size < wn.heap.size by omega)
      have E1 := alloc_cell2 t1 hsz
      have G1 := alloc_frozen2 f1 hsz
      have A2 := alloc_cell x2 (show w.heap.size < wn.heap.size by omega)
      have B2 := alloc_cell t2 hsz
      have C2 := alloc_frozen f2 hsz
      have D2 := alloc_cell2 x2 (show w.heap.size < wn.heap.size by omega)
      have E2 := alloc_cell2 t2 hsz
      have G2 := alloc_frozen2 f2 hsz
      have A3 := alloc_cell x3 (show w.heap.size < wn.heap.size by omega)
      have B3 := alloc_cell t3 hsz
      have C3 := alloc_frozen f3 hsz
      have D3 := alloc_cell2 x3 (show w.heap.size < wn.heap.size by omega)
      have E3 := alloc_cell2 t3 hsz
      have G3 := alloc_frozen2 f3 hsz
      have A4 := alloc_cell x4 (show w.heap.size < wn.heap.size by omega)
      have B4 := alloc_cell t4 hsz
      have C4 := alloc_frozen f4 hsz
      have D4 := alloc_cell2 x4 (show w.heap.size < wn.heap.size by omega)
      have E4 := alloc_cell2 t4 hsz
      have G4 := alloc_frozen2 f4 hsz
      go_wp2_with fail
      all_goals
        exact bodyPost_ret (v := .agg #[.int .i64 kind, .string ⟨#[]⟩, .string ⟨#[]⟩, .int .u64 0, .int .i64 0]) (by simp [results, Try.results43, go_sem, *]) rfl ⟨rfl, five_set (below_of (below_of hb (below_alloc _ _)) (below_alloc _ _)) w.heap.size _ _ _ _ _ (Nat.le_succ _)⟩
    · simp only [plainV, opCells, if_pos rfl, if_neg Bool.false_ne_true]
      go_enter Try.func43, Try.ntmps43
      go_wp2_with fail
      generalize (w.alloc _).alloc _ = W at hn hb hrs hsz ⊢
      obtain ⟨x0, x1, x2, x3, x4⟩ := id hn
      simp only [] at x0 x1 x2 x3 x4
      (try go_wp2_with fail)
      refine (HU.out _).mono ?_
      rintro e wn ⟨rfl, hbn⟩
      have rs3 := (hbn.block (w.heap.size + 1) hsz).trans hrs
      replace hb := below_of hb hbn
      replace hn := hn.up hbn (by omega)
      replace hsz := Nat.lt_of_lt_of_le hsz hbn.size
      have t0 : wn.cell? ⟨w.heap.size + 1, 0, none⟩ = some (.int .i64 0) := by simp [World.cell?, rs3]
      have t1 : wn.cell? ⟨w.heap.size + 1, 1, none⟩ = some (.string ⟨#[]⟩) := by simp [World.cell?, rs3]
      have t2 : wn.cell? ⟨w.heap.size + 1, 2, none⟩ = some (.string ⟨#[]⟩) := by simp [World.cell?, rs3]
      have t3 : wn.cell? ⟨w.heap.size + 1, 3, none⟩ = some (.int .u64 0) := by simp [World.cell?, rs3]
      have t4 : wn.cell? ⟨w.heap.size + 1, 4, none⟩ = some (.int .i64 0) := by simp [World.cell?, rs3]
      have f0 : wn.frozen? ⟨w.heap.size + 1, 0, none⟩ = false := by simp [World.frozen?, rs3]
      have f1 : wn.frozen? ⟨w.heap.size + 1, 1, none⟩ = false := by simp [World.frozen?, rs3]
      have f2 : wn.frozen? ⟨w.heap.size + 1, 2, none⟩ = false := by simp [World.frozen?, rs3]
      have f3 : wn.frozen? ⟨w.heap.size + 1, 3, none⟩ = false := by simp [World.frozen?, rs3]
      have f4 : wn.frozen? ⟨w.heap.size + 1, 4, none⟩ = false := by simp [World.frozen?, rs3]
      clear hbn rs3 hrs x0 x1 x2 x3 x4
      obtain ⟨x0, x1, x2, x3, x4⟩ := id hn
      simp only [] at x0 x1 x2 x3 x4
      have A0 := alloc_cell x0 (show w.heap.size < wn.heap.size by omega)
      have B0 := alloc_cell t0 hsz
      have C0 := alloc_frozen f0 hsz
      have D0 := alloc_cell2 x0 (show w.heap.size < wn.heap.size by omega)
      have E0 := alloc_cell2 t0 hsz
      have G0 := alloc_frozen2 f0 hsz
      have A1 := alloc_cell x1 (show w.heap.size < wn.heap.size by omega)
      have B1 := alloc_cell t1 hsz
      have C1 := alloc_frozen f1 hsz
      have D1 := alloc_cell2 x1 (show w.heap.size < wn.heap.size by omega)
      have E1 := alloc_cell2 t1 hsz
      have G1 := alloc_frozen2 f1 hsz
      have A2 := alloc_cell x2 (show w.heap.size < wn.heap.size by omega)
      have B2 := alloc_cell t2 hsz
      have C2 := alloc_frozen f2 hsz
      have D2 := alloc_cell2 x2 (show w.heap.size < wn.heap.size by omega)
      have E2 := alloc_cell2 t2 hsz
      have G2 := alloc_frozen2 f2 hsz
      have A3 := alloc_cell x3 (show w.heap.size < wn.heap.size by omega)
      have B3 := alloc_cell t3 hsz
      have C3 := alloc_frozen f3 hsz
      have D3 := alloc_cell2 x3 (show w.heap.size < wn.heap.size by omega)
      have E3 := alloc_cell2 t3 hsz
      have G3 := alloc_frozen2 f3 hsz
      have A4 := alloc_cell x4 (show w.heap.size < wn.heap.size by omega)
      have B4 := alloc_cell t4 hsz
      have C4 := alloc_frozen f4 hsz
      have D4 := alloc_cell2 x4 (show w.heap.size < wn.heap.size by omega)
      have E4 := alloc_cell2 t4 hsz
      have G4 := alloc_frozen2 f4 hsz
      go_wp2_with fail
      all_goals
        exact bodyPost_ret (v := .agg #[.int .i64 kind, .string ⟨#[]⟩, .string ⟨#[]⟩, .int .u64 (val : Int), .int .i64 0]) (by simp [results, Try.results43, go_sem, *]) rfl ⟨rfl, five_set (below_of (below_of hb (below_alloc _ _)) (below_alloc _ _)) w.heap.size _ _ _ _ _ (Nat.le_succ _)⟩
    · simp only [plainV, opCells, if_pos rfl, if_neg Bool.false_ne_true]
      go_enter Try.func43, Try.ntmps43
      go_wp2_with fail
      generalize (w.alloc _).alloc _ = W at hn hb hrs hsz ⊢
      obtain ⟨x0, x1, x2, x3, x4⟩ := id hn
      simp only [] at x0 x1 x2 x3 x4
      (try go_wp2_with fail)
      refine (HU.out _).mono ?_
      rintro e wn ⟨rfl, hbn⟩
      have rs3 := (hbn.block (w.heap.size + 1) hsz).trans hrs
      replace hb := below_of hb hbn
      replace hn := hn.up hbn (by omega)
      replace hsz := Nat.lt_of_lt_of_le hsz hbn.size
      have t0 : wn.cell? ⟨w.heap.size + 1, 0, none⟩ = some (.int .i64 0) := by simp [World.cell?, rs3]
      have t1 : wn.cell? ⟨w.heap.size + 1, 1, none⟩ = some (.string ⟨#[]⟩) := by simp [World.cell?, rs3]
      have t2 : wn.cell? ⟨w.heap.size + 1, 2, none⟩ = some (.string ⟨#[]⟩) := by simp [World.cell?, rs3]
      have t3 : wn.cell? ⟨w.heap.size + 1, 3, none⟩ = some (.int .u64 0) := by simp [World.cell?, rs3]
      have t4 : wn.cell? ⟨w.heap.size + 1, 4, none⟩ = some (.int .i64 0) := by simp [World.cell?, rs3]
      have f0 : wn.frozen? ⟨w.heap.size + 1, 0, none⟩ = false := by simp [World.frozen?, rs3]
      have f1 : wn.frozen? ⟨w.heap.size + 1, 1, none⟩ = false := by simp [World.frozen?, rs3]
      have f2 : wn.frozen? ⟨w.heap.size + 1, 2, none⟩ = false := by simp [World.frozen?, rs3]
      have f3 : wn.frozen? ⟨w.heap.size + 1, 3, none⟩ = false := by simp [World.frozen?, rs3]
      have f4 : wn.frozen? ⟨w.heap.size + 1, 4, none⟩ = false := by simp [World.frozen?, rs3]
      clear hbn rs3 hrs x0 x1 x2 x3 x4
      obtain ⟨x0, x1, x2, x3, x4⟩ := id hn
      simp only [] at x0 x1 x2 x3 x4
      have A0 := alloc_cell x0 (show w.heap.size < wn.heap.size by omega)
      have B0 := alloc_cell t0 hsz
      have C0 := alloc_frozen f0 hsz
      have D0 := alloc_cell2 x0 (show w.heap.size < wn.heap.size by omega)
      have E0 := alloc_cell2 t0 hsz
      have G0 := alloc_frozen2 f0 hsz
      have A1 := alloc_cell x1 (show w.heap.size < wn.heap.size by omega)
      have B1 := alloc_cell t1 hsz
      have C1 := alloc_frozen f1 hsz
      have D1 := alloc_cell2 x1 (show w.heap.size < wn.heap.size by omega)
      have E1 := alloc_cell2 t1 hsz
      have G1 := alloc_frozen2 f1 hsz
      have A2 := alloc_cell x2 (show w.heap.size < wn.heap.size by omega)
      have B2 := alloc_cell t2 hsz
      have C2 := alloc_frozen f2 hsz
      have D2 := alloc_cell2 x2 (show w.heap.size < wn.heap.size by omega)
      have E2 := alloc_cell2 t2 hsz
      have G2 := alloc_frozen2 f2 hsz
      have A3 := alloc_cell x3 (show w.heap.size < wn.heap.size by omega)
      have B3 := alloc_cell t3 hsz
      have C3 := alloc_frozen f3 hsz
      have D3 := alloc_cell2 x3 (show w.heap.size < wn.heap.size by omega)
      have E3 := alloc_cell2 t3 hsz
      have G3 := alloc_frozen2 f3 hsz
      have A4 := alloc_cell x4 (show w.heap.size < wn.heap.size by omega)
      have B4 := alloc_cell t4 hsz
      have C4 := alloc_frozen f4 hsz
      have D4 := alloc_cell2 x4 (show w.heap.size < wn.heap.size by omega)
      have E4 := alloc_cell2 t4 hsz
      have G4 := alloc_frozen2 f4 hsz
      go_wp2_with fail
      all_goals
        exact bodyPost_ret (v := .agg #[.int .i64 kind, .string ⟨#[]⟩, .string upto, .int .u64 0, .int .i64 limit]) (by simp [results, Try.results43, go_sem, *]) rfl ⟨rfl, five_set (below_of (below_of hb (below_alloc _ _)) (below_alloc _ _)) w.heap.size _ _ _ _ _ (Nat.le_succ _)⟩
    · simp only [plainV, opCells, if_pos rfl, if_neg Bool.false_ne_true]
      go_enter Try.func43, Try.ntmps43
      go_wp2_with fail
      generalize (w.alloc _).alloc _ = W at hn hb hrs hsz ⊢
      obtain ⟨x0, x1, x2, x3, x4⟩ := id hn
      simp only [] at x0 x1 x2 x3 x4
      (try go_wp2_with fail)
      refine (HU.out _).mono ?_
      rintro e wn ⟨rfl, hbn⟩
      have rs3 := (hbn.block (w.heap.size + 1) hsz).trans hrs
      replace hb := below_of hb hbn
      replace hn := hn.up hbn (by omega)
      replace hsz := Nat.lt_of_lt_of_le hsz hbn.size
      have t0 : wn.cell? ⟨w.heap.size + 1, 0, none⟩ = some (.int .i64 0) := by simp [World.cell?, rs3]
      have t1 : wn.cell? ⟨w.heap.size + 1, 1, none⟩ = some (.string ⟨#[]⟩) := by simp [World.cell?, rs3]
      have t2 : wn.cell? ⟨w.heap.size + 1, 2, none⟩ = some (.string ⟨#[]⟩) := by simp [World.cell?, rs3]
      have t3 : wn.cell? ⟨w.heap.size + 1, 3, none⟩ = some (.int .u64 0) := by simp [World.cell?, rs3]
      have t4 : wn.cell? ⟨w.heap.size + 1, 4, none⟩ = some (.int .i64 0) := by simp [World.cell?, rs3]
      have f0 : wn.frozen? ⟨w.heap.size + 1, 0, none⟩ = false := by simp [World.frozen?, rs3]
      have f1 : wn.frozen? ⟨w.heap.size + 1, 1, none⟩ = false := by simp [World.frozen?, rs3]
      have f2 : wn.frozen? ⟨w.heap.size + 1, 2, none⟩ = false := by simp [World.frozen?, rs3]
      have f3 : wn.frozen? ⟨w.heap.size + 1, 3, none⟩ = false := by simp [World.frozen?, rs3]
      have f4 : wn.frozen? ⟨w.heap.size + 1, 4, none⟩ = false := by simp [World.frozen?, rs3]
      clear hbn rs3 hrs x0 x1 x2 x3 x4
      obtain ⟨x0, x1, x2, x3, x4⟩ := id hn
      simp only [] at x0 x1 x2 x3 x4
      have A0 := alloc_cell x0 (show w.heap.size < wn.heap.size by omega)
      have B0 := alloc_cell t0 hsz
      have C0 := alloc_frozen f0 hsz
      have D0 := alloc_cell2 x0 (show w.heap.size < wn.heap.size by omega)
      have E0 := alloc_cell2 t0 hsz
      have G0 := alloc_frozen2 f0 hsz
      have A1 := alloc_cell x1 (show w.heap.size < wn.heap.size by omega)
      have B1 := alloc_cell t1 hsz
      have C1 := alloc_frozen f1 hsz
      have D1 := alloc_cell2 x1 (show w.heap.size < wn.heap.size by omega)
      have E1 := alloc_cell2 t1 hsz
      have G1 := alloc_frozen2 f1 hsz
      have A2 := alloc_cell x2 (show w.heap.size < wn.heap.size by omega)
      have B2 := alloc_cell t2 hsz
      have C2 := alloc_frozen f2 hsz
      have D2 := alloc_cell2 x2 (show w.heap.size < wn.heap.size by omega)
      have E2 := alloc_cell2 t2 hsz
      have G2 := alloc_frozen2 f2 hsz
      have A3 := alloc_cell x3 (show w.heap.size < wn.heap.size by omega)
      have B3 := alloc_cell t3 hsz
      have C3 := alloc_frozen f3 hsz
      have D3 := alloc_cell2 x3 (show w.heap.size < wn.heap.size by omega)
      have E3 := alloc_cell2 t3 hsz
      have G3 := alloc_frozen2 f3 hsz
      have A4 := alloc_cell x4 (show w.heap.size < wn.heap.size by omega)
      have B4 := alloc_cell t4 hsz
      have C4 := alloc_frozen f4 hsz
      have D4 := alloc_cell2 x4 (show w.heap.size < wn.heap.size by omega)
      have E4 := alloc_cell2 t4 hsz
      have G4 := alloc_frozen2 f4 hsz
      go_wp2_with fail
      all_goals
        exact bodyPost_ret (v := .agg #[.int .i64 kind, .string ⟨#[]⟩, .string upto, .int .u64 (val : Int), .int .i64 limit]) (by simp [results, Try.results43, go_sem, *]) rfl ⟨rfl, five_set (below_of (below_of hb (below_alloc _ _)) (below_alloc _ _)) w.heap.size _ _ _ _ _ (Nat.le_succ _)⟩
    · simp only [plainV, opCells, if_pos rfl, if_neg Bool.false_ne_true]
      go_enter Try.func43, Try.ntmps43
      go_wp2_with fail
      generalize (w.alloc _).alloc _ = W at hn hb hrs hsz ⊢
      obtain ⟨x0, x1, x2, x3, x4⟩ := id hn
      simp only [] at x0 x1 x2 x3 x4
      (try go_wp2_with fail)
      refine (HU.out _).mono ?_
      rintro e wn ⟨rfl, hbn⟩
      have rs3 := (hbn.block (w.heap.size + 1) hsz).trans hrs
      replace hb := below_of hb hbn
      replace hn := hn.up hbn (by omega)
      replace hsz := Nat.lt_of_lt_of_le hsz hbn.size
      have t0 : wn.cell? ⟨w.heap.size + 1, 0, none⟩ = some (.int .i64 0) := by simp [World.cell?, rs3]
      have t1 : wn.cell? ⟨w.heap.size + 1, 1, none⟩ = some (.string ⟨#[]⟩) := by simp [World.cell?, rs3]
      have t2 : wn.cell? ⟨w.heap.size + 1, 2, none⟩ = some (.string ⟨#[]⟩) := by simp [World.cell?, rs3]
      have t3 : wn.cell? ⟨w.heap.size + 1, 3, none⟩ = some (.int .u64 0) := by simp [World.cell?, rs3]
      have t4 : wn.cell? ⟨w.heap.size + 1, 4, none⟩ = some (.int .i64 0) := by simp [World.cell?, rs3]
      have f0 : wn.frozen? ⟨w.heap.size + 1, 0, none⟩ = false := by simp [World.frozen?, rs3]
      have f1 : wn.frozen? ⟨w.heap.size + 1, 1, none⟩ = false := by simp [World.frozen?, rs3]
      have f2 : wn.frozen? ⟨w.heap.size + 1, 2, none⟩ = false := by simp [World.frozen?, rs3]
      have f3 : wn.frozen? ⟨w.heap.size + 1, 3, none⟩ = false := by simp [World.frozen?, rs3]
      have f4 : wn.frozen? ⟨w.heap.size + 1, 4, none⟩ = false := by simp [World.frozen?, rs3]
      clear hbn rs3 hrs x0 x1 x2 x3 x4
      obtain ⟨x0, x1, x2, x3, x4⟩ := id hn
      simp only [] at x0 x1 x2 x3 x4
      have A0 := alloc_cell x0 (show w.heap.size < wn.heap.size by omega)
      have B0 := alloc_cell t0 hsz
      have C0 := alloc_frozen f0 hsz
      have D0 := alloc_cell2 x0 (show w.heap.size < wn.heap.size by omega)
      have E0 := alloc_cell2 t0 hsz
      have G0 := alloc_frozen2 f0 hsz
      have A1 := alloc_cell x1 (show w.heap.size < wn.heap.size by omega)
      have B1 := alloc_cell t1 hsz
      have C1 := alloc_frozen f1 hsz
      have D1 := alloc_cell2 x1 (show w.heap.size < wn.heap.size by omega)
      have E1 := alloc_cell2 t1 hsz
      have G1 := alloc_frozen2 f1 hsz
      have A2 := alloc_cell x2 (show w.heap.size < wn.heap.size by omega)
      have B2 := alloc_cell t2 hsz
      have C2 := alloc_frozen f2 hsz
      have D2 := alloc_cell2 x2 (show w.heap.size < wn.heap.size by omega)
      have E2 := alloc_cell2 t2 hsz
      have G2 := alloc_frozen2 f2 hsz
      have A3 := alloc_cell x3 (show w.heap.size < wn.heap.size by omega)
      have B3 := alloc_cell t3 hsz
      have C3 := alloc_frozen f3 hsz
      have D3 := alloc_cell2 x3 (show w.heap.size < wn.heap.size by omega)
      have E3 := alloc_cell2 t3 hsz
      have G3 := alloc_frozen2 f3 hsz
      have A4 := alloc_cell x4 (show w.heap.size < wn.heap.size by omega)
      have B4 := alloc_cell t4 hsz
      have C4 := alloc_frozen f4 hsz
      have D4 := alloc_cell2 x4 (show w.heap.size < wn.heap.size by omega)
      have E4 := alloc_cell2 t4 hsz
      have G4 := alloc_frozen2 f4 hsz
      go_wp2_with fail
      all_goals
        exact bodyPost_ret (v := .agg #[.int .i64 kind, .string key, .string ⟨#[]⟩, .int .u64 0, .int .i64 0]) (by simp [results, Try.results43, go_sem, *]) rfl ⟨rfl, five_set (below_of (below_of hb (below_alloc _ _)) (below_alloc _ _)) w.heap.size _ _ _ _ _ (Nat.le_succ _)⟩
    · simp only [plainV, opCells, if_pos rfl, if_neg Bool.false_ne_true]
      go_enter Try.func43, Try.ntmps43
      go_wp2_with fail
      generalize (w.alloc _).alloc _ = W at hn hb hrs hsz ⊢
      obtain ⟨x0, x1, x2, x3, x4⟩ := id hn
      simp only [] at x0 x1 x2 x3 x4
      (try go_wp2_with fail)
      refine (HU.out _).mono ?_
      rintro e wn ⟨rfl, hbn⟩
      have rs3 := (hbn.block (w.heap.size + 1) hsz).trans hrs
      replace hb := below_of hb hbn
      replace hn := hn.up hbn (by omega)
      replace hsz := Nat.lt_of_lt_of_le hsz hbn.size
      have t0 : wn.cell? ⟨w.heap.size + 1, 0, none⟩ = some (.int .i64 0) := by simp [World.cell?, rs3]
      have t1 : wn.cell? ⟨w.heap.size + 1, 1, none⟩ = some (.string ⟨#[]⟩) := by simp [World.cell?, rs3]
      have t2 : wn.cell? ⟨w.heap.size + 1, 2, none⟩ = some (.string ⟨#[]⟩) := by simp [World.cell?, rs3]
      have t3 : wn.cell? ⟨w.heap.size + 1, 3, none⟩ = some (.int .u64 0) := by simp [World.cell?, rs3]
      have t4 : wn.cell? ⟨w.heap.size + 1, 4, none⟩ = some (.int .i64 0) := by simp [World.cell?, rs3]
      have f0 : wn.frozen? ⟨w.heap.size + 1, 0, none⟩ = false := by simp [World.frozen?, rs3]
      have f1 : wn.frozen? ⟨w.heap.size + 1, 1, none⟩ = false := by simp [World.frozen?, rs3]
      have f2 : wn.frozen? ⟨w.heap.size + 1, 2, none⟩ = false := by simp [World.frozen?, rs3]
      have f3 : wn.frozen? ⟨w.heap.size + 1, 3, none⟩ = false := by simp [World.frozen?, rs3]
      have f4 : wn.frozen? ⟨w.heap.size + 1, 4, none⟩ = false := by simp [World.frozen?, rs3]
      clear hbn rs3 hrs x0 x1 x2 x3 x4
      obtain ⟨x0, x1, x2, x3, x4⟩ := id hn
      simp only [] at x0 x1 x2 x3 x4
      have A0 := alloc_cell x0 (show w.heap.size < wn.heap.size by omega)
      have B0 := alloc_cell t0 hsz
      have C0 := alloc_frozen f0 hsz
      have D0 := alloc_cell2 x0 (show w.heap.size < wn.heap.size by omega)
      have E0 := alloc_cell2 t0 hsz
      have G0 := alloc_frozen2 f0 hsz
      have A1 := alloc_cell x1 (show w.heap.size < wn.heap.size by omega)
      have B1 := alloc_cell t1 hsz
      have C1 := alloc_frozen f1 hsz
      have D1 := alloc_cell2 x1 (show w.heap.size < wn.heap.size by omega)
      have E1 := alloc_cell2 t1 hsz
      have G1 := alloc_frozen2 f1 hsz
      have A2 := alloc_cell x2 (show w.heap.size < wn.heap.size by omega)
      have B2 := alloc_cell t2 hsz
      have C2 := alloc_frozen f2 hsz
      have D2 := alloc_cell2 x2 (show w.heap.size < wn.heap.size by omega)
      have E2 := alloc_cell2 t2 hsz
      have G2 := alloc_frozen2 f2 hsz
      have A3 := alloc_cell x3 (show w.heap.size < wn.heap.size by omega)
      have B3 := alloc_cell t3 hsz
      have C3 := alloc_frozen f3 hsz
      have D3 := alloc_cell2 x3 (show w.heap.size < wn.heap.size by omega)
      have E3 := alloc_cell2 t3 hsz
      have G3 := alloc_frozen2 f3 hsz
      have A4 := alloc_cell x4 (show w.heap.size < wn.heap.size by omega)
      have B4 := alloc_cell t4 hsz
      have C4 := alloc_frozen f4 hsz
      have D4 := alloc_cell2 x4 (show w.heap.size < wn.heap.size by omega)
      have E4 := alloc_cell2 t4 hsz
      have G4 := alloc_frozen2 f4 hsz
      go_wp2_with fail
      all_goals
        exact bodyPost_ret (v := .agg #[.int .i64 kind, .string key, .string ⟨#[]⟩, .int .u64 (val : Int), .int .i64 0]) (by simp [results, Try.results43, go_sem, *]) rfl ⟨rfl, five_set (below_of (below_of hb (below_alloc _ _)) (below_alloc _ _)) w.heap.size _ _ _ _ _ (Nat.le_succ _)⟩
    · simp only [plainV, opCells, if_pos rfl, if_neg Bool.false_ne_true]
      go_enter Try.func43, Try.ntmps43
      go_wp2_with fail
      generalize (w.alloc _).alloc _ = W at hn hb hrs hsz ⊢
      obtain ⟨x0, x1, x2, x3, x4⟩ := id hn
      simp only [] at x0 x1 x2 x3 x4
      (try go_wp2_with fail)
      refine (HU.out _).mono ?_
      rintro e wn ⟨rfl, hbn⟩
      have rs3 := (hbn.block (w.heap.size + 1) hsz).trans hrs
      replace hb := below_of hb hbn
      replace hn := hn.up hbn (by omega)
      replace hsz := Nat.lt_of_lt_of_le hsz hbn.size
      have t0 : wn.cell? ⟨w.heap.size + 1, 0, none⟩ = some (.int .i64 0) := by simp [World.cell?, rs3]
      have t1 : wn.cell? ⟨w.heap.size + 1, 1, none⟩ = some (.string ⟨#[]⟩) := by simp [World.cell?, rs3]
      have t2 : wn.cell? ⟨w.heap.size + 1, 2, none⟩ = some (.string ⟨#[]⟩) := by simp [World.cell?, rs3]
      have t3 : wn.cell? ⟨w.heap.size + 1, 3, none⟩ = some (.int .u64 0) := by simp [World.cell?, rs3]
      have t4 : wn.cell? ⟨w.heap.size + 1, 4, none⟩ = some (.int .i64 0) := by simp [World.cell?, rs3]
      have f0 : wn.frozen? ⟨w.heap.size + 1, 0, none⟩ = false := by simp [World.frozen?, rs3]
      have f1 : wn.frozen? ⟨w.heap.size + 1, 1, none⟩ = false := by simp [World.frozen?, rs3]
      have f2 : wn.frozen? ⟨w.heap.size + 1, 2, none⟩ = false := by simp [World.frozen?, rs3]
      have f3 : wn.frozen? ⟨w.heap.size + 1, 3, none⟩ = false := by simp [World.frozen?, rs3]
      have f4 : wn.frozen? ⟨w.heap.size + 1, 4, none⟩ = false := by simp [World.frozen?, rs3]
      clear hbn rs3 hrs x0 x1 x2 x3 x4
      obtain ⟨x0, x1, x2, x3, x4⟩ := id hn
      simp only [] at x0 x1 x2 x3 x4
      have A0 := alloc_cell x0 (show w.heap.size < wn.heap.size by omega)
      have B0 := alloc_cell t0 hsz
      have C0 := alloc_frozen f0 hsz
      have D0 := alloc_cell2 x0 (show w.heap.size < wn.heap.size by omega)
      have E0 := alloc_cell2 t0 hsz
      have G0 := alloc_frozen2 f0 hsz
      have A1 := alloc_cell x1 (show w.heap.size < wn.heap.size by omega)
      have B1 := alloc_cell t1 hsz
      have C1 := alloc_frozen f1 hsz
      have D1 := alloc_cell2 x1 (show w.heap.size < wn.heap.size by omega)
      have E1 := alloc_cell2 t1 hsz
      have G1 := alloc_frozen2 f1 hsz
      have A2 := alloc_cell x2 (show w.heap.size < wn.heap.size by omega)
      have B2 := alloc_cell t2 hsz
      have C2 := alloc_frozen f2 hsz
      have D2 := alloc_cell2 x2 (show w.heap.size < wn.heap.size by omega)
      have E2 := alloc_cell2 t2 hsz
      have G2 := alloc_frozen2 f2 hsz
      have A3 := alloc_cell x3 (show w.heap.size < wn.heap.size by omega)
      have B3 := alloc_cell t3 hsz
      have C3 := alloc_frozen f3 hsz
      have D3 := alloc_cell2 x3 (show w.heap.size < wn.heap.size by omega)
      have E3 := alloc_cell2 t3 hsz
      have G3 := alloc_frozen2 f3 hsz
      have A4 := alloc_cell x4 (show w.heap.size < wn.heap.size by omega)
      have B4 := alloc_cell t4 hsz
      have C4 := alloc_frozen f4 hsz
      have D4 := alloc_cell2 x4 (show w.heap.size < wn.heap.size by omega)
      have E4 := alloc_cell2 t4 hsz
      have G4 := alloc_frozen2 f4 hsz
      go_wp2_with fail
      all_goals
        exact bodyPost_ret (v := .agg #[.int .i64 kind, .string key, .string upto, .int .u64 0, .int .i64 limit]) (by simp [results, Try.results43, go_sem, *]) rfl ⟨rfl, five_set (below_of (below_of hb (below_alloc _ _)) (below_alloc _ _)) w.heap.size _ _ _ _ _ (Nat.le_succ _)⟩
    · simp only [plainV, opCells, if_pos rfl, if_neg Bool.false_ne_true]
      go_enter Try.func43, Try.ntmps43
      go_wp2_with fail
      generalize (w.alloc _).alloc _ = W at hn hb hrs hsz ⊢
      obtain ⟨x0, x1, x2, x3, x4⟩ := id hn
      simp only [] at x0 x1 x2 x3 x4
      (try go_wp2_with fail)
      refine (HU.out _).mono ?_
      rintro e wn ⟨rfl, hbn⟩
      have rs3 := (hbn.block (w.heap.size + 1) hsz).trans hrs
      replace hb := below_of hb hbn
      replace hn := hn.up hbn (by omega)
      replace hsz := Nat.lt_of_lt_of_le hsz hbn.size
      have t0 : wn.cell? ⟨w.heap.size + 1, 0, none⟩ = some (.int .i64 0) := by simp [World.cell?, rs3]
      have t1 : wn.cell? ⟨w.heap.size + 1, 1, none⟩ = some (.string ⟨#[]⟩) := by simp [World.cell?, rs3]
      have t2 : wn.cell? ⟨w.heap.size + 1, 2, none⟩ = some (.string ⟨#[]⟩) := by simp [World.cell?, rs3]
      have t3 : wn.cell? ⟨w.heap.size + 1, 3, none⟩ = some (.int .u64 0) := by simp [World.cell?, rs3]
      have t4 : wn.cell? ⟨w.heap.size + 1, 4, none⟩ = some (.int .i64 0) := by simp [World.cell?, rs3]
      have f0 : wn.frozen? ⟨w.heap.size + 1, 0, none⟩ = false := by simp [World.frozen?, rs3]
      have f1 : wn.frozen? ⟨w.heap.size + 1, 1, none⟩ = false := by simp [World.frozen?, rs3]
      have f2 : wn.frozen? ⟨w.heap.size + 1, 2, none⟩ = false := by simp [World.frozen?, rs3]
      have f3 : wn.frozen? ⟨w.heap.size + 1, 3, none⟩ = false := by simp [World.frozen?, rs3]
      have f4 : wn.frozen? ⟨w.heap.size + 1, 4, none⟩ = false := by simp [World.frozen?, rs3]
      clear hbn rs3 hrs x0 x1 x2 x3 x4
      obtain ⟨x0, x1, x2, x3, x4⟩ := id hn
      simp only [] at x0 x1 x2 x3 x4
      have A0 := alloc_cell x0 (show w.heap.size < wn.heap.size by omega)
      have B0 := alloc_cell t0 hsz
      have C0 := alloc_frozen f0 hsz
      have D0 := alloc_cell2 x0 (show w.heap.size < wn.heap.size by omega)
      have E0 := alloc_cell2 t0 hsz
      have G0 := alloc_frozen2 f0 hsz
      have A1 := alloc_cell x1 (show w.heap.size < wn.heap.size by omega)
      have B1 := alloc_cell t1 hsz
      have C1 := alloc_frozen f1 hsz
      have D1 := alloc_cell2 x1 (show w.heap.size < wn.heap.size by omega)
      have E1 := alloc_cell2 t1 hsz
      have G1 := alloc_frozen2 f1 hsz
      have A2 := alloc_cell x2 (show w.heap.size < wn.heap.size by omega)
      have B2 := alloc_cell t2 hsz
      have C2 := alloc_frozen f2 hsz
      have D2 := alloc_cell2 x2 (show w.heap.size < wn.heap.size by omega)
      have E2 := alloc_cell2 t2 hsz
      have G2 := alloc_frozen2 f2 hsz
      have A3 := alloc_cell x3 (show w.heap.size < wn.heap.size by omega)
      have B3 := alloc_cell t3 hsz
      have C3 := alloc_frozen f3 hsz
      have D3 := alloc_cell2 x3 (show w.heap.size < wn.heap.size by omega)
      have E3 := alloc_cell2 t3 hsz
      have G3 := alloc_frozen2 f3 hsz
      have A4 := alloc_cell x4 (show w.heap.size < wn.heap.size by omega)
      have B4 := alloc_cell t4 hsz
      have C4 := alloc_frozen f4 hsz
      have D4 := alloc_cell2 x4 (show w.heap.size < wn.heap.size by omega)
      have E4 := alloc_cell2 t4 hsz
      have G4 := alloc_frozen2 f4 hsz
      go_wp2_with fail
      all_goals
        exact bodyPost_ret (v := .agg #[.int .i64 kind, .string key, .string upto, .int .u64 (val : Int), .int .i64 limit]) (by simp [results, Try.results43, go_sem, *]) rfl ⟨rfl, five_set (below_of (below_of hb (below_alloc _ _)) (below_alloc _ _)) w.heap.size _ _ _ _ _ (Nat.le_succ _)⟩

end Go.Proofs.Ythbafbgnclpbpaa

namespace Go.Proofs.Ythbafbgnclpbpaa
open Go.RowKit

def opZ : Array Value := #[.int .i64 0, .string ⟨#[]⟩, .string ⟨#[]⟩, .int .u64 0, .int .i64 0]
/-- The operation in its variable, and the variable of the result behind it. -/
structure Two (w cur : World) (o : OpD) : Prop where
  box : cur.heap[w.heap.size]? = some (.cells (opCells o) 58 (0, 0))
  res : cur.heap[w.heap.size + 1]? = some (.cells opZ 58 (0, 0))
  below : Below w.heap.size w cur
theorem Two.lt {w cur : World} {o : OpD} (h : Two w cur o) : w.heap.size + 1 < cur.heap.size := (Array.getElem?_eq_some_iff.1 h.res).1
theorem Two.new (w : World) (o : OpD) : Two w ((w.alloc (.cells (opCells o) 58)).alloc (.cells opZ 58)) o := by
  have e : (w.alloc (.cells (opCells o) 58)).heap.size = w.heap.size + 1 := by simp
  refine ⟨(heap_alloc_old _ _ (by omega)).trans (heap_alloc_new w _), ?_, below_of (below_alloc _ _) (below_alloc _ _)⟩
  rw [← e]
  exact heap_alloc_new _ _
theorem Two.up {w cur wn : World} {o : OpD} (h : Two w cur o) (hb : Below cur.heap.size cur wn) : Two w wn o :=
  ⟨(hb.block _ (by have := h.lt; omega)).trans h.box, (hb.block _ h.lt).trans h.res, below_of h.below hb⟩
theorem Two.set {w cur : World} {o o' : OpD} (h : Two w cur o) (i : Nat) (v : Value) (ho : opCells o' = (opCells o).setIfInBounds i v) : Two w (cur.setCell ⟨w.heap.size, i, none⟩ v) o' := by
  refine ⟨?_, ?_, h.below.setCell (Nat.le_refl _) _⟩
  · rw [ho]
    simp [World.setCell, Array.getElem?_modify, h.box]
  · exact (Below.heap_setCell cur ⟨w.heap.size, i, none⟩ v _ (by simp)).trans h.res

theorem op_facts {w : World} {g : Nat} {o : OpD} (h : w.heap[g]? = some (.cells (opCells o) 58 (0, 0))) :
    w.cell? ⟨g, 0, none⟩ = some (.int .i64 o.kind) ∧ w.cell? ⟨g, 1, none⟩ = some (.string o.key) ∧ w.cell? ⟨g, 2, none⟩ = some (.string o.upto) ∧ w.cell? ⟨g, 3, none⟩ = some (.int .u64 (o.val : Int)) ∧ w.cell? ⟨g, 4, none⟩ = some (.int .i64 o.limit) ∧
    w.frozen? ⟨g, 0, none⟩ = false ∧ w.frozen? ⟨g, 1, none⟩ = false ∧ w.frozen? ⟨g, 2, none⟩ = false ∧ w.frozen? ⟨g, 3, none⟩ = false ∧ w.frozen? ⟨g, 4, none⟩ = false := by
  simp [World.cell?, World.frozen?, h, opCells]
theorem op_zero {w : World} {g : Nat} (h : w.heap[g]? = some (.cells opZ 58 (0, 0))) :
    w.cell? ⟨g, 0, none⟩ = some (.int .i64 0) ∧ w.cell? ⟨g, 1, none⟩ = some (.string ⟨#[]⟩) ∧ w.cell? ⟨g, 2, none⟩ = some (.string ⟨#[]⟩) ∧ w.cell? ⟨g, 3, none⟩ = some (.int .u64 0) ∧ w.cell? ⟨g, 4, none⟩ = some (.int .i64 0) ∧
    w.frozen? ⟨g, 0, none⟩ = false ∧ w.frozen? ⟨g, 1, none⟩ = false ∧ w.frozen? ⟨g, 2, none⟩ = false ∧ w.frozen? ⟨g, 3, none⟩ = false ∧ w.frozen? ⟨g, 4, none⟩ = false := by
  simp [World.cell?, World.frozen?, h, opZ]

set_option maxRecDepth 100000 in
set_option maxHeartbeats 16000000 in
theorem refplain_any (o : OpD) (w : World) : Calls Try.prog 44 #[.agg (opCells o)] w (Ret (.agg (opCells (plainO o))) w) := by
  have HT := Lib.hid (Two.new w o)
  have HU := Lib.hid (refuses0_any o.kind)
  have HUk := Lib.hid (fun W => Calls.to (refuses_any o.kind 107 W) (congrArg Value.bool (uses_k o.kind)))
  have HUt := Lib.hid (fun W => Calls.to (refuses_any o.kind 116 W) (congrArg Value.bool (uses_t o.kind)))
  have HUv := Lib.hid (fun W => Calls.to (refuses_any o.kind 118 W) (congrArg Value.bool (uses_v o.kind)))
  have HUl := Lib.hid (fun W => Calls.to (refuses_any o.kind 108 W) (congrArg Value.bool (uses_l o.kind)))
  have he := uses_none o.kind
  have hp : plainO o = plainV (isKind o.kind) (usesKey o.kind) (usesTo o.kind) (usesVal o.kind) o := rfl
  rw [hp]
  clear hp
  generalize isKind o.kind = ik at he ⊢
  generalize usesKey o.kind = ku at HUk ⊢
  generalize usesTo o.kind = tu at HUt HUl ⊢
  generalize usesVal o.kind = vu at HUv ⊢
  generalize usesS o.kind = us at he HU
  obtain ⟨kind, key, upto, val, limit⟩ := o
  simp only [] at HU HUk HUt HUv HUl
  simp only [opCells, opZ] at HT ⊢
  cases ik
  · simp only [Bool.not_false] at he
    simp only [plainV, if_neg Bool.false_ne_true]
    go_enter Try.func44, Try.ntmps44
    go_upto_region 1 with fail
    generalize (w.alloc _).alloc _ = W at HT ⊢
    obtain ⟨c0, c1, c2, c3, c4, y0, y1, y2, y3, y4⟩ := op_facts HT.out.box
    obtain ⟨r0, r1, r2, r3, r4, q0, q1, q2, q3, q4⟩ := op_zero HT.out.res
    simp only [] at c0 c1 c2 c3 c4
    go_wp2_with fail
    refine (HU.out _).mono ?_
    rintro e wn ⟨rfl, hbn⟩
    replace HT := Lib.hid (HT.out.up hbn)
    clear hbn
    clear c0 c1 c2 c3 c4 y0 y1 y2 y3 y4 r0 r1 r2 r3 r4 q0 q1 q2 q3 q4
    obtain ⟨c0, c1, c2, c3, c4, y0, y1, y2, y3, y4⟩ := op_facts HT.out.box
    obtain ⟨r0, r1, r2, r3, r4, q0, q1, q2, q3, q4⟩ := op_zero HT.out.res
    simp only [] at c0 c1 c2 c3 c4
    go_wp2_with fail
    all_goals
      exact bodyPost_ret (v := .agg #[.int .i64 0, .string ⟨#[]⟩, .string ⟨#[]⟩, .int .u64 0, .int .i64 0]) (by simp [results, Try.results44, go_sem, *]) rfl ⟨rfl, five_set HT.out.below w.heap.size _ _ _ _ _ (Nat.le_succ _)⟩
  · simp only [Bool.not_true] at he
    cases ku <;> cases tu <;> cases vu
    · simp only [plainV, if_pos rfl, if_neg Bool.false_ne_true]
      go_enter Try.func44, Try.ntmps44
      go_upto_region 1 with fail
      generalize (w.alloc _).alloc _ = W at HT ⊢
      obtain ⟨c0, c1, c2, c3, c4, y0, y1, y2, y3, y4⟩ := op_facts HT.out.box
      obtain ⟨r0, r1, r2, r3, r4, q0, q1, q2, q3, q4⟩ := op_zero HT.out.res
      simp only [] at c0 c1 c2 c3 c4
      go_wp2_with fail
      refine (HU.out _).mono ?_
      rintro e wn ⟨rfl, hbn⟩
      replace HT := Lib.hid (HT.out.up hbn)
      clear hbn
      clear c0 c1 c2 c3 c4 y0 y1 y2 y3 y4 r0 r1 r2 r3 r4 q0 q1 q2 q3 q4
      obtain ⟨c0, c1, c2, c3, c4, y0, y1, y2, y3, y4⟩ := op_facts HT.out.box
      obtain ⟨r0, r1, r2, r3, r4, q0, q1, q2, q3, q4⟩ := op_zero HT.out.res
      simp only [] at c0 c1 c2 c3 c4
      go_wp2_with fail
      refine (HUk.out _).mono ?_
      rintro e wn ⟨rfl, hbn⟩
      replace HT := Lib.hid (HT.out.up hbn)
      clear hbn
      clear c0 c1 c2 c3 c4 y0 y1 y2 y3 y4 r0 r1 r2 r3 r4 q0 q1 q2 q3 q4
      obtain ⟨c0, c1, c2, c3, c4, y0, y1, y2, y3, y4⟩ := op_facts HT.out.box
      obtain ⟨r0, r1, r2, r3, r4, q0, q1, q2, q3, q4⟩ := op_zero HT.out.res
      simp only [] at c0 c1 c2 c3 c4
      go_wp2_with fail
      replace HT := Lib.hid (HT.out.set (o' := ⟨kind, ⟨#[]⟩, upto, val, limit⟩) 1 (.string ⟨#[]⟩) rfl)
      generalize World.setCell _ _ _ = W5 at HT ⊢
      refine (HUt.out _).mono ?_
      rintro e wn ⟨rfl, hbn⟩
      replace HT := Lib.hid (HT.out.up hbn)
      clear hbn
      clear c0 c1 c2 c3 c4 y0 y1 y2 y3 y4 r0 r1 r2 r3 r4 q0 q1 q2 q3 q4
      obtain ⟨c0, c1, c2, c3, c4, y0, y1, y2, y3, y4⟩ := op_facts HT.out.box
      obtain ⟨r0, r1, r2, r3, r4, q0, q1, q2, q3, q4⟩ := op_zero HT.out.res
      simp only [] at c0 c1 c2 c3 c4
      go_wp2_with fail
      replace HT := Lib.hid (HT.out.set (o' := ⟨kind, ⟨#[]⟩, ⟨#[]⟩, val, limit⟩) 2 (.string ⟨#[]⟩) rfl)
      generalize World.setCell _ _ _ = W5 at HT ⊢
      refine (HUv.out _).mono ?_
      rintro e wn ⟨rfl, hbn⟩
      replace HT := Lib.hid (HT.out.up hbn)
      clear hbn
      clear c0 c1 c2 c3 c4 y0 y1 y2 y3 y4 r0 r1 r2 r3 r4 q0 q1 q2 q3 q4
      obtain ⟨c0, c1, c2, c3, c4, y0, y1, y2, y3, y4⟩ := op_facts HT.out.box
      obtain ⟨r0, r1, r2, r3, r4, q0, q1, q2, q3, q4⟩ := op_zero HT.out.res
      simp only [] at c0 c1 c2 c3 c4
      go_wp2_with fail
      replace HT := Lib.hid (HT.out.set (o' := ⟨kind, ⟨#[]⟩, ⟨#[]⟩, 0, limit⟩) 3 (.int .u64 0) rfl)
      generalize World.setCell _ _ _ = W5 at HT ⊢
      refine (HUl.out _).mono ?_
      rintro e wn ⟨rfl, hbn⟩
      replace HT := Lib.hid (HT.out.up hbn)
      clear hbn
      clear c0 c1 c2 c3 c4 y0 y1 y2 y3 y4 r0 r1 r2 r3 r4 q0 q1 q2 q3 q4
      obtain ⟨c0, c1, c2, c3, c4, y0, y1, y2, y3, y4⟩ := op_facts HT.out.box
      obtain ⟨r0, r1, r2, r3, r4, q0, q1, q2, q3, q4⟩ := op_zero HT.out.res
      simp only [] at c0 c1 c2 c3 c4
      go_wp2_with fail
      all_goals
        exact bodyPost_ret (v := .agg #[.int .i64 kind, .string ⟨#[]⟩, .string ⟨#[]⟩, .int .u64 0, .int .i64 0]) (by simp [results, Try.results44, go_sem, *]) rfl ⟨rfl, five_set (HT.out.below.setCell (p := ⟨w.heap.size, 4, none⟩) (Nat.le_refl _) _) w.heap.size _ _ _ _ _ (Nat.le_succ _)⟩
    · simp only [plainV, if_pos rfl, if_neg Bool.false_ne_true]
      go_enter Try.func44, Try.ntmps44
      go_upto_region 1 with fail
      generalize (w.alloc _).alloc _ = W at HT ⊢
      obtain ⟨c0, c1, c2, c3, c4, y0, y1, y2, y3, y4⟩ := op_facts HT.out.box
      obtain ⟨r0, r1, r2, r3, r4, q0, q1, q2, q3, q4⟩ := op_zero HT.out.res
      simp only [] at c0 c1 c2 c3 c4
      go_wp2_with fail
      refine (HU.out _).mono ?_
      rintro e wn ⟨rfl, hbn⟩
      replace HT := Lib.hid (HT.out.up hbn)
      clear hbn
      clear c0 c1 c2 c3 c4 y0 y1 y2 y3 y4 r0 r1 r2 r3 r4 q0 q1 q2 q3 q4
      obtain ⟨c0, c1, c2, c3, c4, y0, y1, y2, y3, y4⟩ := op_facts HT.out.box
      obtain ⟨r0, r1, r2, r3, r4, q0, q1, q2, q3, q4⟩ := op_zero HT.out.res
      simp only [] at c0 c1 c2 c3 c4
      go_wp2_with fail
      refine (HUk.out _).mono ?_
      rintro e wn ⟨rfl, hbn⟩
      replace HT := Lib.hid (HT.out.up hbn)
      clear hbn
      clear c0 c1 c2 c3 c4 y0 y1 y2 y3 y4 r0 r1 r2 r3 r4 q0 q1 q2 q3 q4
      obtain ⟨c0, c1, c2, c3, c4, y0, y1, y2, y3, y4⟩ := op_facts HT.out.box
      obtain ⟨r0, r1, r2, r3, r4, q0, q1, q2, q3, q4⟩ := op_zero HT.out.res
      simp only [] at c0 c1 c2 c3 c4
      go_wp2_with fail
      replace HT := Lib.hid (HT.out.set (o' := ⟨kind, ⟨#[]⟩, upto, val, limit⟩) 1 (.string ⟨#[]⟩) rfl)
      generalize World.setCell _ _ _ = W5 at HT ⊢
      refine (HUt.out _).mono ?_
      rintro e wn ⟨rfl, hbn⟩
      replace HT := Lib.hid (HT.out.up hbn)
      clear hbn
      clear c0 c1 c2 c3 c4 y0 y1 y2 y3 y4 r0 r1 r2 r3 r4 q0 q1 q2 q3 q4
      obtain ⟨c0, c1, c2, c3, c4, y0, y1, y2, y3, y4⟩ := op_facts HT.out.box
      obtain ⟨r0, r1, r2, r3, r4, q0, q1, q2, q3, q4⟩ := op_zero HT.out.res
      simp only [] at c0 c1 c2 c3 c4
      go_wp2_with fail
      replace HT := Lib.hid (HT.out.set (o' := ⟨kind, ⟨#[]⟩, ⟨#[]⟩, val, limit⟩) 2 (.string ⟨#[]⟩) rfl)
      generalize World.setCell _ _ _ = W5 at HT ⊢
      refine (HUv.out _).mono ?_
      rintro e wn ⟨rfl, hbn⟩
      replace HT := Lib.hid (HT.out.up hbn)
      clear hbn
      clear c0 c1 c2 c3 c4 y0 y1 y2 y3 y4 r0 r1 r2 r3 r4 q0 q1 q2 q3 q4
      obtain ⟨c0, c1, c2, c3, c4, y0, y1, y2, y3, y4⟩ := op_facts HT.out.box
      obtain ⟨r0, r1, r2, r3, r4, q0, q1, q2, q3, q4⟩ := op_zero HT.out.res
      simp only [] at c0 c1 c2 c3 c4
      go_wp2_with fail
      refine (HUl.out _).mono ?_
      rintro e wn ⟨rfl, hbn⟩
      replace HT := Lib.hid (HT.out.up hbn)
      clear hbn
      clear c0 c1 c2 c3 c4 y0 y1 y2 y3 y4 r0 r1 r2 r3 r4 q0 q1 q2 q3 q4
      obtain ⟨c0, c1, c2, c3, c4, y0, y1, y2, y3, y4⟩ := op_facts HT.out.box
      obtain ⟨r0, r1, r2, r3, r4, q0, q1, q2, q3, q4⟩ := op_zero HT.out.res
      simp only [] at c0 c1 c2 c3 c4
      go_wp2_with fail
      all_goals
        exact bodyPost_ret (v := .agg #[.int .i64 kind, .string ⟨#[]⟩, .string ⟨#[]⟩, .int .u64 (val : Int), .int .i64 0]) (by simp [results, Try.results44, go_sem, *]) rfl ⟨rfl, five_set (HT.out.below.setCell (p := ⟨w.heap.size, 4, none⟩) (Nat.le_refl _) _) w.heap.size _ _ _ _ _ (Nat.le_succ _)⟩
    · simp only [plainV, if_pos rfl, if_neg Bool.false_ne_true]
      go_enter Try.func44, Try.ntmps44
      go_upto_region 1 with fail
      generalize (w.alloc _).alloc _ = W at HT ⊢
      obtain ⟨c0, c1, c2, c3, c4, y0, y1, y2, y3, y4⟩ := op_facts HT.out.box
      obtain ⟨r0, r1, r2, r3, r4, q0, q1, q2, q3, q4⟩ := op_zero HT.out.res
      simp only [] at c0 c1 c2 c3 c4
      go_wp2_with fail
      refine (HU.out _).mono ?_
      rintro e wn ⟨rfl, hbn⟩
      replace HT := Lib.hid (HT.out.up hbn)
      clear hbn
      clear c0 c1 c2 c3 c4 y0 y1 y2 y3 y4 r0 r1 r2 r3 r4 q0 q1 q2 q3 q4
      obtain ⟨c0, c1, c2, c3, c4, y0, y1, y2, y3, y4⟩ := op_facts HT.out.box
      obtain ⟨r0, r1, r2, r3, r4, q0, q1, q2, q3, q4⟩ := op_zero HT.out.res
      simp only [] at c0 c1 c2 c3 c4
      go_wp2_with fail
      refine (HUk.out _).mono ?_
      rintro e wn ⟨rfl, hbn⟩
      replace HT := Lib.hid (HT.out.up hbn)
      clear hbn
      clear c0 c1 c2 c3 c4 y0 y1 y2 y3 y4 r0 r1 r2 r3 r4 q0 q1 q2 q3 q4
      obtain ⟨c0, c1, c2, c3, c4, y0, y1, y2, y3, y4⟩ := op_facts HT.out.box
      obtain ⟨r0, r1, r2, r3, r4, q0, q1, q2, q3, q4⟩ := op_zero HT.out.res
      simp only [] at c0 c1 c2 c3 c4
      go_wp2_with fail
      replace HT := Lib.hid (HT.out.set (o' := ⟨kind, ⟨#[]⟩, upto, val, limit⟩) 1 (.string ⟨#[]⟩) rfl)
      generalize World.setCell _ _ _ = W5 at HT ⊢
      refine (HUt.out _).mono ?_
      rintro e wn ⟨rfl, hbn⟩
      replace HT := Lib.hid (HT.out.up hbn)
      clear hbn
      clear c0 c1 c2 c3 c4 y0 y1 y2 y3 y4 r0 r1 r2 r3 r4 q0 q1 q2 q3 q4
      obtain ⟨c0, c1, c2, c3, c4, y0, y1, y2, y3, y4⟩ := op_facts HT.out.box
      obtain ⟨r0, r1, r2, r3, r4, q0, q1, q2, q3, q4⟩ := op_zero HT.out.res
      simp only [] at c0 c1 c2 c3 c4
      go_wp2_with fail
      refine (HUv.out _).mono ?_
      rintro e wn ⟨rfl, hbn⟩
      replace HT := Lib.hid (HT.out.up hbn)
      clear hbn
      clear c0 c1 c2 c3 c4 y0 y1 y2 y3 y4 r0 r1 r2 r3 r4 q0 q1 q2 q3 q4
      obtain ⟨c0, c1, c2, c3, c4, y0, y1, y2, y3, y4⟩ := op_facts HT.out.box
      obtain ⟨r0, r1, r2, r3, r4, q0, q1, q2, q3, q4⟩ := op_zero HT.out.res
      simp only [] at c0 c1 c2 c3 c4
      go_wp2_with fail
      replace HT := Lib.hid (HT.out.set (o' := ⟨kind, ⟨#[]⟩, upto, 0, limit⟩) 3 (.int .u64 0) rfl)
      generalize World.setCell _ _ _ = W5 at HT ⊢
      refine (HUl.out _).mono ?_
      rintro e wn ⟨rfl, hbn⟩
      replace HT := Lib.hid (HT.out.up hbn)
      clear hbn
      clear c0 c1 c2 c3 c4 y0 y1 y2 y3 y4 r0 r1 r2 r3 r4 q0 q1 q2 q3 q4
      obtain ⟨c0, c1, c2, c3, c4, y0, y1, y2, y3, y4⟩ := op_facts HT.out.box
      obtain ⟨r0, r1, r2, r3, r4, q0, q1, q2, q3, q4⟩ := op_zero HT.out.res
      simp only [] at c0 c1 c2 c3 c4
      go_wp2_with fail
      all_goals
        exact bodyPost_ret (v := .agg #[.int .i64 kind, .string ⟨#[]⟩, .string upto, .int .u64 0, .int .i64 limit]) (by simp [results, Try.results44, go_sem, *]) rfl ⟨rfl, five_set HT.out.below w.heap.size _ _ _ _ _ (Nat.le_succ _)⟩
    · simp only [plainV, if_pos rfl, if_neg Bool.false_ne_true]
      go_enter Try.func44, Try.ntmps44
      go_upto_region 1 with fail
      generalize (w.alloc _).alloc _ = W at HT ⊢
      obtain ⟨c0, c1, c2, c3, c4, y0, y1, y2, y3, y4⟩ := op_facts HT.out.box
      obtain ⟨r0, r1, r2, r3, r4, q0, q1, q2, q3, q4⟩ := op_zero HT.out.res
      simp only [] at c0 c1 c2 c3 c4
      go_wp2_with fail
      refine (HU.out _).mono ?_
      rintro e wn ⟨rfl, hbn⟩
      replace HT := Lib.hid (HT.out.up hbn)
      clear hbn
      clear c0 c1 c2 c3 c4 y0 y1 y2 y3 y4 r0 r1 r2 r3 r4 q0 q1 q2 q3 q4
      obtain ⟨c0, c1, c2, c3, c4, y0, y1, y2, y3, y4⟩ := op_facts HT.out.box
      obtain ⟨r0, r1, r2, r3, r4, q0, q1, q2, q3, q4⟩ := op_zero HT.out.res
      simp only [] at c0 c1 c2 c3 c4
      go_wp2_with fail
      refine (HUk.out _).mono ?_
      rintro e wn ⟨rfl, hbn⟩
      replace HT := Lib.hid (HT.out.up hbn)
      clear hbn
      clear c0 c1 c2 c3 c4 y0 y1 y2 y3 y4 r0 r1 r2 r3 r4 q0 q1 q2 q3 q4
      obtain ⟨c0, c1, c2, c3, c4, y0, y1, y2, y3, y4⟩ := op_facts HT.out.box
      obtain ⟨r0, r1, r2, r3, r4, q0, q1, q2, q3, q4⟩ := op_zero HT.out.res
      simp only [] at c0 c1 c2 c3 c4
      go_wp2_with fail
      replace HT := Lib.hid (HT.out.set (o' := ⟨kind, ⟨#[]⟩, upto, val, limit⟩) 1 (.string ⟨#[]⟩) rfl)
      generalize World.setCell _ _ _ = W5 at HT ⊢
      refine (HUt.out _).mono ?_
      rintro e wn ⟨rfl, hbn⟩
      replace HT := Lib.hid (HT.out.up hbn)
      clear hbn
      clear c0 c1 c2 c3 c4 y0 y1 y2 y3 y4 r0 r1 r2 r3 r4 q0 q1 q2 q3 q4
      obtain ⟨c0, c1, c2, c3, c4, y0, y1, y2, y3, y4⟩ := op_facts HT.out.box
      obtain ⟨r0, r1, r2, r3, r4, q0, q1, q2, q3, q4⟩ := op_zero HT.out.res
      simp only [] at c0 c1 c2 c3 c4
      go_wp2_with fail
      refine (HUv.out _).mono ?_
      rintro e wn ⟨rfl, hbn⟩
      replace HT := Lib.hid (HT.out.up hbn)
      clear hbn
      clear c0 c1 c2 c3 c4 y0 y1 y2 y3 y4 r0 r1 r2 r3 r4 q0 q1 q2 q3 q4
      obtain ⟨c0, c1, c2, c3, c4, y0, y1, y2, y3, y4⟩ := op_facts HT.out.box
      obtain ⟨r0, r1, r2, r3, r4, q0, q1, q2, q3, q4⟩ := op_zero HT.out.res
      simp only [] at c0 c1 c2 c3 c4
      go_wp2_with fail
      refine (HUl.out _).mono ?_
      rintro e wn ⟨rfl, hbn⟩
      replace HT := Lib.hid (HT.out.up hbn)
      clear hbn
      clear c0 c1 c2 c3 c4 y0 y1 y2 y3 y4 r0 r1 r2 r3 r4 q0 q1 q2 q3 q4
      obtain ⟨c0, c1, c2, c3, c4, y0, y1, y2, y3, y4⟩ := op_facts HT.out.box
      obtain ⟨r0, r1, r2, r3, r4, q0, q1, q2, q3, q4⟩ := op_zero HT.out.res
      simp only [] at c0 c1 c2 c3 c4
      go_wp2_with fail
      all_goals
        exact bodyPost_ret (v := .agg #[.int .i64 kind, .string ⟨#[]⟩, .string upto, .int .u64 (val : Int), .int .i64 limit]) (by simp [results, Try.results44, go_sem, *]) rfl ⟨rfl, five_set HT.out.below w.heap.size _ _ _ _ _ (Nat.le_succ _)⟩
    · simp only [plainV, if_pos rfl, if_neg Bool.false_ne_true]
      go_enter Try.func44, Try.ntmps44
      go_upto_region 1 with fail
      generalize (w.alloc _).alloc _ = W at HT ⊢
      obtain ⟨c0, c1, c2, c3, c4, y0, y1, y2, y3, y4⟩ := op_facts HT.out.box
      obtain ⟨r0, r1, r2, r3, r4, q0, q1, q2, q3, q4⟩ := op_zero HT.out.res
      simp only [] at c0 c1 c2 c3 c4
      go_wp2_with fail
      refine (HU.out _).mono ?_
      rintro e wn ⟨rfl, hbn⟩
      replace HT := Lib.hid (HT.out.up hbn)
      clear hbn
      clear c0 c1 c2 c3 c4 y0 y1 y2 y3 y4 r0 r1 r2 r3 r4 q0 q1 q2 q3 q4
      obtain ⟨c0, c1, c2, c3, c4, y0, y1, y2, y3, y4⟩ := op_facts HT.out.box
      obtain ⟨r0, r1, r2, r3, r4, q0, q1, q2, q3, q4⟩ := op_zero HT.out.res
      simp only [] at c0 c1 c2 c3 c4
      go_wp2_with fail
      refine (HUk.out _).mono ?_
      rintro e wn ⟨rfl, hbn⟩
      replace HT := Lib.hid (HT.out.up hbn)
      clear hbn
      clear c0 c1 c2 c3 c4 y0 y1 y2 y3 y4 r0 r1 r2 r3 r4 q0 q1 q2 q3 q4
      obtain ⟨c0, c1, c2, c3, c4, y0, y1, y2, y3, y4⟩ := op_facts HT.out.box
      obtain ⟨r0, r1, r2, r3, r4, q0, q1, q2, q3, q4⟩ := op_zero HT.out.res
      simp only [] at c0 c1 c2 c3 c4
      go_wp2_with fail
      refine (HUt.out _).mono ?_
      rintro e wn ⟨rfl, hbn⟩
      replace HT := Lib.hid (HT.out.up hbn)
      clear hbn
      clear c0 c1 c2 c3 c4 y0 y1 y2 y3 y4 r0 r1 r2 r3 r4 q0 q1 q2 q3 q4
      obtain ⟨c0, c1, c2, c3, c4, y0, y1, y2, y3, y4⟩ := op_facts HT.out.box
      obtain ⟨r0, r1, r2, r3, r4, q0, q1, q2, q3, q4⟩ := op_zero HT.out.res
      simp only [] at c0 c1 c2 c3 c4
      go_wp2_with fail
      replace HT := Lib.hid (HT.out.set (o' := ⟨kind, key, ⟨#[]⟩, val, limit⟩) 2 (.string ⟨#[]⟩) rfl)
      generalize World.setCell _ _ _ = W5 at HT ⊢
      refine (HUv.out _).mono ?_
      rintro e wn ⟨rfl, hbn⟩
      replace HT := Lib.hid (HT.out.up hbn)
      clear hbn
      clear c0 c1 c2 c3 c4 y0 y1 y2 y3 y4 r0 r1 r2 r3 r4 q0 q1 q2 q3 q4
      obtain ⟨c0, c1, c2, c3, c4, y0, y1, y2, y3, y4⟩ := op_facts HT.out.box
      obtain ⟨r0, r1, r2, r3, r4, q0, q1, q2, q3, q4⟩ := op_zero HT.out.res
      simp only [] at c0 c1 c2 c3 c4
      go_wp2_with fail
      replace HT := Lib.hid (HT.out.set (o' := ⟨kind, key, ⟨#[]⟩, 0, limit⟩) 3 (.int .u64 0) rfl)
      generalize World.setCell _ _ _ = W5 at HT ⊢
      refine (HUl.out _).mono ?_
      rintro e wn ⟨rfl, hbn⟩
      replace HT := Lib.hid (HT.out.up hbn)
      clear hbn
      clear c0 c1 c2 c3 c4 y0 y1 y2 y3 y4 r0 r1 r2 r3 r4 q0 q1 q2 q3 q4
      obtain ⟨c0, c1, c2, c3, c4, y0, y1, y2, y3, y4⟩ := op_facts HT.out.box
      obtain ⟨r0, r1, r2, r3, r4, q0, q1, q2, q3, q4⟩ := op_zero HT.out.res
      simp only [] at c0 c1 c2 c3 c4
      go_wp2_with fail
      all_goals
        exact bodyPost_ret (v := .agg #[.int .i64 kind, .string key, .string ⟨#[]⟩, .int .u64 0, .int .i64 0]) (by simp [results, Try.results44, go_sem, *]) rfl ⟨rfl, five_set (HT.out.below.setCell (p := ⟨w.heap.size, 4, none⟩) (Nat.le_refl _) _) w.heap.size _ _ _ _ _ (Nat.le_succ _)⟩
    · simp only [plainV, if_pos rfl, if_neg Bool.false_ne_true]
      go_enter Try.func44, Try.ntmps44
      go_upto_region 1 with fail
      generalize (w.alloc _).alloc _ = W at HT ⊢
      obtain ⟨c0, c1, c2, c3, c4, y0, y1, y2, y3, y4⟩ := op_facts HT.out.box
      obtain ⟨r0, r1, r2, r3, r4, q0, q1, q2, q3, q4⟩ := op_zero HT.out.res
      simp only [] at c0 c1 c2 c3 c4
      go_wp2_with fail
      refine (HU.out _).mono ?_
      rintro e wn ⟨rfl, hbn⟩
      replace HT := Lib.hid (HT.out.up hbn)
      clear hbn
      clear c0 c1 c2 c3 c4 y0 y1 y2 y3 y4 r0 r1 r2 r3 r4 q0 q1 q2 q3 q4
      obtain ⟨c0, c1, c2, c3, c4, y0, y1, y2, y3, y4⟩ := op_facts HT.out.box
      obtain ⟨r0, r1, r2, r3, r4, q0, q1, q2, q3, q4⟩ := op_zero HT.out.res
      simp only [] at c0 c1 c2 c3 c4
      go_wp2_with fail
      refine (HUk.out _).mono ?_
      rintro e wn ⟨rfl, hbn⟩
      replace HT := Lib.hid (HT.out.up hbn)
      clear hbn
      clear c0 c1 c2 c3 c4 y0 y1 y2 y3 y4 r0 r1 r2 r3 r4 q0 q1 q2 q3 q4
      obtain ⟨c0, c1, c2, c3, c4, y0, y1, y2, y3, y4⟩ := op_facts HT.out.box
      obtain ⟨r0, r1, r2, r3, r4, q0, q1, q2, q3, q4⟩ := op_zero HT.out.res
      simp only [] at c0 c1 c2 c3 c4
      go_wp2_with fail
      refine (HUt.out _).mono ?_
      rintro e wn ⟨rfl, hbn⟩
      replace HT := Lib.hid (HT.out.up hbn)
      clear hbn
      clear c0 c1 c2 c3 c4 y0 y1 y2 y3 y4 r0 r1 r2 r3 r4 q0 q1 q2 q3 q4
      obtain ⟨c0, c1, c2, c3, c4, y0, y1, y2, y3, y4⟩ := op_facts HT.out.box
      obtain ⟨r0, r1, r2, r3, r4, q0, q1, q2, q3, q4⟩ := op_zero HT.out.res
      simp only [] at c0 c1 c2 c3 c4
      go_wp2_with fail
      replace HT := Lib.hid (HT.out.set (o' := ⟨kind, key, ⟨#[]⟩, val, limit⟩) 2 (.string ⟨#[]⟩) rfl)
      generalize World.setCell _ _ _ = W5 at HT ⊢
      refine (HUv.out _).mono ?_
      rintro e wn ⟨rfl, hbn⟩
      replace HT := Lib.hid (HT.out.up hbn)
      clear hbn
      clear c0 c1 c2 c3 c4 y0 y1 y2 y3 y4 r0 r1 r2 r3 r4 q0 q1 q2 q3 q4
      obtain ⟨c0, c1, c2, c3, c4, y0, y1, y2, y3, y4⟩ := op_facts HT.out.box
      obtain ⟨r0, r1, r2, r3, r4, q0, q1, q2, q3, q4⟩ := op_zero HT.out.res
      simp only [] at c0 c1 c2 c3 c4
      go_wp2_with fail
      refine (HUl.out _).mono ?_
      rintro e wn ⟨rfl, hbn⟩
      replace HT := Lib.hid (HT.out.up hbn)
      clear hbn
      clear c0 c1 c2 c3 c4 y0 y1 y2 y3 y4 r0 r1 r2 r3 r4 q0 q1 q2 q3 q4
      obtain ⟨c0, c1, c2, c3, c4, y0, y1, y2, y3, y4⟩ := op_facts HT.out.box
      obtain ⟨r0, r1, r2, r3, r4, q0, q1, q2, q3, q4⟩ := op_zero HT.out.res
      simp only [] at c0 c1 c2 c3 c4
      go_wp2_with fail
      all_goals
        exact bodyPost_ret (v := .agg #[.int .i64 kind, .string key, .string ⟨#[]⟩, .int .u64 (val : Int), .int .i64 0]) (by simp [results, Try.results44, go_sem, *]) rfl ⟨rfl, five_set (HT.out.below.setCell (p := ⟨w.heap.size, 4, none⟩) (Nat.le_refl _) _) w.heap.size _ _ _ _ _ (Nat.le_succ _)⟩
    · simp only [plainV, if_pos rfl, if_neg Bool.false_ne_true]
      go_enter Try.func44, Try.ntmps44
      go_upto_region 1 with fail
      generalize (w.alloc _).alloc _ = W at HT ⊢
      obtain ⟨c0, c1, c2, c3, c4, y0, y1, y2, y3, y4⟩ := op_facts HT.out.box
      obtain ⟨r0, r1, r2, r3, r4, q0, q1, q2, q3, q4⟩ := op_zero HT.out.res
      simp only [] at c0 c1 c2 c3 c4
      go_wp2_with fail
      refine (HU.out _).mono ?_
      rintro e wn ⟨rfl, hbn⟩
      replace HT := Lib.hid (HT.out.up hbn)
      clear hbn
      clear c0 c1 c2 c3 c4 y0 y1 y2 y3 y4 r0 r1 r2 r3 r4 q0 q1 q2 q3 q4
      obtain ⟨c0, c1, c2, c3, c4, y0, y1, y2, y3, y4⟩ := op_facts HT.out.box
      obtain ⟨r0, r1, r2, r3, r4, q0, q1, q2, q3, q4⟩ := op_zero HT.out.res
      simp only [] at c0 c1 c2 c3 c4
      go_wp2_with fail
      refine (HUk.out _).mono ?_
      rintro e wn ⟨rfl, hbn⟩
      replace HT := Lib.hid (HT.out.up hbn)
      clear hbn
      clear c0 c1 c2 c3 c4 y0 y1 y2 y3 y4 r0 r1 r2 r3 r4 q0 q1 q2 q3 q4
      obtain ⟨c0, c1, c2, c3, c4, y0, y1, y2, y3, y4⟩ := op_facts HT.out.box
      obtain ⟨r0, r1, r2, r3, r4, q0, q1, q2, q3, q4⟩ := op_zero HT.out.res
      simp only [] at c0 c1 c2 c3 c4
      go_wp2_with fail
      refine (HUt.out _).mono ?_
      rintro e wn ⟨rfl, hbn⟩
      replace HT := Lib.hid (HT.out.up hbn)
      clear hbn
      clear c0 c1 c2 c3 c4 y0 y1 y2 y3 y4 r0 r1 r2 r3 r4 q0 q1 q2 q3 q4
      obtain ⟨c0, c1, c2, c3, c4, y0, y1, y2, y3, y4⟩ := op_facts HT.out.box
      obtain ⟨r0, r1, r2, r3, r4, q0, q1, q2, q3, q4⟩ := op_zero HT.out.res
      simp only [] at c0 c1 c2 c3 c4
      go_wp2_with fail
      refine (HUv.out _).mono ?_
      rintro e wn ⟨rfl, hbn⟩
      replace HT := Lib.hid (HT.out.up hbn)
      clear hbn
      clear c0 c1 c2 c3 c4 y0 y1 y2 y3 y4 r0 r1 r2 r3 r4 q0 q1 q2 q3 q4
      obtain ⟨c0, c1, c2, c3, c4, y0, y1, y2, y3, y4⟩ := op_facts HT.out.box
      obtain ⟨r0, r1, r2, r3, r4, q0, q1, q2, q3, q4⟩ := op_zero HT.out.res
      simp only [] at c0 c1 c2 c3 c4
      go_wp2_with fail
      replace HT := Lib.hid (HT.out.set (o' := ⟨kind, key, upto, 0, limit⟩) 3 (.int .u64 0) rfl)
      generalize World.setCell _ _ _ = W5 at HT ⊢
      refine (HUl.out _).mono ?_
      rintro e wn ⟨rfl, hbn⟩
      replace HT := Lib.hid (HT.out.up hbn)
      clear hbn
      clear c0 c1 c2 c3 c4 y0 y1 y2 y3 y4 r0 r1 r2 r3 r4 q0 q1 q2 q3 q4
      obtain ⟨c0, c1, c2, c3, c4, y0, y1, y2, y3, y4⟩ := op_facts HT.out.box
      obtain ⟨r0, r1, r2, r3, r4, q0, q1, q2, q3, q4⟩ := op_zero HT.out.res
      simp only [] at c0 c1 c2 c3 c4
      go_wp2_with fail
      all_goals
        exact bodyPost_ret (v := .agg #[.int .i64 kind, .string key, .string upto, .int .u64 0, .int .i64 limit]) (by simp [results, Try.results44, go_sem, *]) rfl ⟨rfl, five_set HT.out.below w.heap.size _ _ _ _ _ (Nat.le_succ _)⟩
    · simp only [plainV, if_pos rfl, if_neg Bool.false_ne_true]
      go_enter Try.func44, Try.ntmps44
      go_upto_region 1 with fail
      generalize (w.alloc _).alloc _ = W at HT ⊢
      obtain ⟨c0, c1, c2, c3, c4, y0, y1, y2, y3, y4⟩ := op_facts HT.out.box
      obtain ⟨r0, r1, r2, r3, r4, q0, q1, q2, q3, q4⟩ := op_zero HT.out.res
      simp only [] at c0 c1 c2 c3 c4
      go_wp2_with fail
      refine (HU.out _).mono ?_
      rintro e wn ⟨rfl, hbn⟩
      replace HT := Lib.hid (HT.out.up hbn)
      clear hbn
      clear c0 c1 c2 c3 c4 y0 y1 y2 y3 y4 r0 r1 r2 r3 r4 q0 q1 q2 q3 q4
      obtain ⟨c0, c1, c2, c3, c4, y0, y1, y2, y3, y4⟩ := op_facts HT.out.box
      obtain ⟨r0, r1, r2, r3, r4, q0, q1, q2, q3, q4⟩ := op_zero HT.out.res
      simp only [] at c0 c1 c2 c3 c4
      go_wp2_with fail
      refine (HUk.out _).mono ?_
      rintro e wn ⟨rfl, hbn⟩
      replace HT := Lib.hid (HT.out.up hbn)
      clear hbn
      clear c0 c1 c2 c3 c4 y0 y1 y2 y3 y4 r0 r1 r2 r3 r4 q0 q1 q2 q3 q4
      obtain ⟨c0, c1, c2, c3, c4, y0, y1, y2, y3, y4⟩ := op_facts HT.out.box
      obtain ⟨r0, r1, r2, r3, r4, q0, q1, q2, q3, q4⟩ := op_zero HT.out.res
      simp only [] at c0 c1 c2 c3 c4
      go_wp2_with fail
      refine (HUt.out _).mono ?_
      rintro e wn ⟨rfl, hbn⟩
      replace HT := Lib.hid (HT.out.up hbn)
      clear hbn
      clear c0 c1 c2 c3 c4 y0 y1 y2 y3 y4 r0 r1 r2 r3 r4 q0 q1 q2 q3 q4
      obtain ⟨c0, c1, c2, c3, c4, y0, y1, y2, y3, y4⟩ := op_facts HT.out.box
      obtain ⟨r0, r1, r2, r3, r4, q0, q1, q2, q3, q4⟩ := op_zero HT.out.res
      simp only [] at c0 c1 c2 c3 c4
      go_wp2_with fail
      refine (HUv.out _).mono ?_
      rintro e wn ⟨rfl, hbn⟩
      replace HT := Lib.hid (HT.out.up hbn)
      clear hbn
      clear c0 c1 c2 c3 c4 y0 y1 y2 y3 y4 r0 r1 r2 r3 r4 q0 q1 q2 q3 q4
      obtain ⟨c0, c1, c2, c3, c4, y0, y1, y2, y3, y4⟩ := op_facts HT.out.box
      obtain ⟨r0, r1, r2, r3, r4, q0, q1, q2, q3, q4⟩ := op_zero HT.out.res
      simp only [] at c0 c1 c2 c3 c4
      go_wp2_with fail
      refine (HUl.out _).mono ?_
      rintro e wn ⟨rfl, hbn⟩
      replace HT := Lib.hid (HT.out.up hbn)
      clear hbn
      clear c0 c1 c2 c3 c4 y0 y1 y2 y3 y4 r0 r1 r2 r3 r4 q0 q1 q2 q3 q4
      obtain ⟨c0, c1, c2, c3, c4, y0, y1, y2, y3, y4⟩ := op_facts HT.out.box
      obtain ⟨r0, r1, r2, r3, r4, q0, q1, q2, q3, q4⟩ := op_zero HT.out.res
      simp only [] at c0 c1 c2 c3 c4
      go_wp2_with fail
      all_goals
        exact bodyPost_ret (v := .agg #[.int .i64 kind, .string key, .string upto, .int .u64 (val : Int), .int .i64 limit]) (by simp [results, Try.results44, go_sem, *]) rfl ⟨rfl, five_set HT.out.below w.heap.size _ _ _ _ _ (Nat.le_succ _)⟩

end Go.Proofs.Ythbafbgnclpbpaa

namespace Go.Proofs.Ythbafbgnclpbpaa
open Go.RowKit

theorem Told.below {w w' : World} {bp : Nat} {r : Option Nat} {g : Nat} {xs : List Value} (h : Told w bp r g xs) (hb : Below w.heap.size w w') : Told w' bp r g xs :=
  ⟨Nat.lt_of_lt_of_le h.1 hb.size, h.2.1, h.2.2.1, fun j u hu => (hb.cell (p := ⟨g, j, none⟩) h.1).trans (h.2.2.2 j u hu)⟩

/-- A pen that writes an operation: the pen, the operation's variable, what it uses. -/
structure St (w : World) (bp : Nat) (r : Option Nat) (X : World) (rX : Option Nat) (lX : List Nat) (g : Nat) (xs : List Value) (g4 : Nat) (us : List Value) (N : Nat) : Prop where
  rel : PenRel w bp r X rX lX
  box : Told X bp rX g xs
  used : Told X bp rX g4 us
  len : lX.length ≤ N
theorem St.adv {w X X1 wp : World} {bp g g4 N : Nat} {r rX rq : Option Nat} {lX m : List Nat} {xs us : List Value} (h : St w bp r X rX lX g xs g4 us N) (hb : Below X.heap.size X X1) (k : PenRel X1 bp rX wp rq (lX ++ m)) (hm : m.length ≤ 1011) : St w bp r wp rq (lX ++ m) g xs g4 us (N + 1011) :=
  ⟨h.rel.trans (PenRel.of_below hb k), (h.box.below hb).on k, (h.used.below hb).on k, by rw [List.length_append]; have := h.len; omega⟩
theorem one_len (n : Nat) : ([n].flatMap dig).length ≤ 1011 := by have := flat_len [n]; simp at this ⊢; omega
theorem txt_len {s : ByteArray} (h : s.size ≤ 1000) : (dig s.size ++ tb s).length ≤ 1011 := by rw [List.length_append, tb_length]; have := dig_len s.size; omega

/-- The bytes of an operation. -/
def opBytes (o : OpD) : List Nat :=
  if opB o = true then dig o.kind.toNat ++ ((if usesKey o.kind = true then dig o.key.size ++ tb o.key else []) ++ ((if usesTo o.kind = true then dig o.upto.size ++ tb o.upto else []) ++ ((if usesVal o.kind = true then dig o.val else []) ++ (if usesTo o.kind = true then dig o.limit.toNat else [])))) else [0]

theorem opB_limit {o : OpD} (h : opB o = true) (ht : usesTo o.kind = true) : 0 ≤ o.limit ∧ o.limit ≤ 4096 := by
  unfold opB at h
  rw [ht] at h
  simp only [Bool.and_eq_true, Bool.not_true, Bool.false_or] at h
  exact of_decide_eq_true h.2.2.2

set_option maxRecDepth 100000 in
set_option maxHeartbeats 16000000 in
theorem opwrite1_any (bp : Nat) (r : Option Nat) (l : List Nat) (o : OpD) (w : World) (hp : PenAt w bp r l) (ho : OpOk o) (hk : o.key.size ≤ 1000) (ht : o.upto.size ≤ 1000) (hl : l.length ≤ 800000) :
    Calls Try.prog 98 #[.pointer (some ⟨bp, 0, none⟩), .agg (opCells o)] w (PenTo w bp r (l ++ opBytes o)) := by
  have hbox := told_new hp (opCells o).toList 58
  have hb := below_alloc w (.cells (opCells o) 58)
  have H := Lib.hid (And.intro (hp.below hb) (And.intro hb ho))
  have HC := Lib.hid (fun W => opcheck_any o W ho)
  have HU := Lib.hid (used_any o.kind)
  have hby : opBytes o = if opB o = true then dig o.kind.toNat ++ ((if usesKey o.kind = true then dig o.key.size ++ tb o.key else []) ++ ((if usesTo o.kind = true then dig o.upto.size ++ tb o.upto else []) ++ ((if usesVal o.kind = true then dig o.val else []) ++ (if usesTo o.kind = true then dig o.limit.toNat else [])))) else [0] := rfl
  have hkd := opB_kind (o := o)
  have hlm := opB_limit (o := o)
  simp only [Array.toArray_toList] at hbox
  simp only [usesV] at HU
  generalize opBytes o = by0 at hby ⊢
  generalize opB o = b at HC hby hkd hlm
  generalize isKind o.kind = ik at HU
  generalize usesKey o.kind = ku at HU hby
  generalize usesTo o.kind = tu at HU hby hlm
  generalize usesVal o.kind = vu at HU hby
  obtain ⟨kind, key, upto, val, limit⟩ := o
  simp only [opCells] at hbox H HC ⊢
  simp only [] at hk ht hby hkd hlm HU
  have HBX := Lib.hid hbox
  have hpo := ho.val
  have H2 := Lib.hid (And.intro hp ho)
  simp only [] at hpo
  have HV := Lib.hid hpo
  clear hbox hp hb ho hpo
  cases b
  · have HBY := Lib.hid hby
    have HC0 := Lib.hid (fun W => Calls.to (HC.out W) (congrArg (Value.int .i64) (if_neg Bool.false_ne_true)))
    clear hby hkd hlm
    go_enter Try.func98, Try.ntmps98
    go_wp2_with fail
    generalize w.alloc _ = W at H HBX ⊢
    refine (HC0.out _).mono ?_
    rintro e wn ⟨rfl, hbn⟩
    have TB := HBX.out.below hbn
    have x0 := TB.2.2.2 0 _ rfl
    have x1 := TB.2.2.2 1 _ rfl
    have x2 := TB.2.2.2 2 _ rfl
    have x3 := TB.2.2.2 3 _ rfl
    have x4 := TB.2.2.2 4 _ rfl
    go_wp2_with fail
    refine (pennum_any bp r l [0] wn.heap.size 1 _ ((H.out.1.below hbn).below (below_alloc _ _)) (by simp) (told_new (H.out.1.below hbn) (u64n [0]) _) (by simp; omega)).mono ?_
    rintro e w3 ⟨rfl, r3, hrel⟩
    have HR := Lib.hid (PenRel.of_below H.out.2.1 (PenRel.of_below hbn (PenRel.of_below (below_alloc _ _) hrel)))
    clear hrel
    go_wp2_with fail
    first | go_end0 | refine bodyPost_ret (results_none rfl _ _ _) rfl ?_
    refine ⟨rfl, r3, ?_⟩
    rw [HBY.out, if_neg Bool.false_ne_true]
    exact HR.out
  · obtain ⟨kn, rfl⟩ := Int.eq_ofNat_of_zero_le (show 0 ≤ kind by have := hkd rfl; omega)
    have hkn : kn ≤ 10 := by have := hkd rfl; omega
    have hw : IntKind.u64.wrap (kn : Int) = (kn : Int) := by rw [IntKind.wrap_u64]; omega
    have HC0 := Lib.hid (fun W => Calls.to (HC.out W) (congrArg (Value.int .i64) (if_pos rfl)))
    rw [if_pos rfl, Int.toNat_natCast] at hby
    clear hkd HC
    cases ku <;> cases tu <;> cases vu
    · simp only [if_pos rfl, if_neg Bool.false_ne_true] at hby
      have HBY := Lib.hid hby
      clear hby
      clear hlm
      go_enter Try.func98, Try.ntmps98
      go_wp2_with fail
      generalize w.alloc _ = W at H HBX ⊢
      refine (HC0.out _).mono ?_
      rintro e wn ⟨rfl, hbn⟩
      have TB := HBX.out.below hbn
      have x0 := TB.2.2.2 0 _ rfl
      have x1 := TB.2.2.2 1 _ rfl
      have x2 := TB.2.2.2 2 _ rfl
      have x3 := TB.2.2.2 3 _ rfl
      have x4 := TB.2.2.2 4 _ rfl
      go_wp2_with fail
      refine (HU.out _).mono ?_
      rintro e wm ⟨rfl, hbm⟩
      have TM := TB.below hbm
      clear x0 x1 x2 x3 x4
      have x0 := TM.2.2.2 0 _ rfl
      have x1 := TM.2.2.2 1 _ rfl
      have x2 := TM.2.2.2 2 _ rfl
      have x3 := TM.2.2.2 3 _ rfl
      have x4 := TM.2.2.2 4 _ rfl
      have hbu := below_alloc wm (.cells #[.bool false, .bool false, .bool false, .bool false] 110)
      have hsu : (wm.alloc (.cells #[.bool false, .bool false, .bool false, .bool false] 110)).heap.size = wm.heap.size + 1 := by simp
      have P0 := (H.out.1.below hbn).below hbm
      have HS := Lib.hid (show St w bp r (wm.alloc (.cells #[.bool false, .bool false, .bool false, .bool false] 110)) r l w.heap.size _ wm.heap.size [.bool false, .bool false, .bool false, .bool false] 800000 from
        ⟨(PenRel.refl H2.out.1).then_below (below_of (below_of (below_of H.out.2.1 hbn) hbm) hbu), TM.below hbu, told_new P0 [.bool false, .bool false, .bool false, .bool false] _, hl⟩)
      have HSU := Lib.hid hsu
      have A0 := alloc_cell x0 TM.1
      have A1 := alloc_cell x1 TM.1
      have A2 := alloc_cell x2 TM.1
      have A3 := alloc_cell x3 TM.1
      have A4 := alloc_cell x4 TM.1
      clear hbu hsu P0 TB hbn hbm
      go_wp2_with fail
      generalize wm.alloc _ = X at HS HSU ⊢
      rw [← HSU.out]
      clear A0 A1 A2 A3 A4 x0 x1 x2 x3 x4 TM
      generalize wm.heap.size = g4 at HS ⊢
      refine (pennum_any bp _ _ [kn] X.heap.size 1 _ (HS.out.rel.1.below (below_alloc _ _)) (by intro y hy; simp at hy; omega) (told_new HS.out.rel.1 (u64n [kn]) _) (by have := HS.out.len; show _ + 11 * 1 ≤ 900000; omega)).mono ?_
      rintro e X ⟨rfl, rq, hrel⟩
      replace HS := Lib.hid (HS.out.adv (below_alloc _ _) hrel (one_len _))
      clear hrel
      have x0 := HS.out.box.2.2.2 0 _ rfl
      have x1 := HS.out.box.2.2.2 1 _ rfl
      have x2 := HS.out.box.2.2.2 2 _ rfl
      have x3 := HS.out.box.2.2.2 3 _ rfl
      have x4 := HS.out.box.2.2.2 4 _ rfl
      have u0 := HS.out.used.2.2.2 0 _ rfl
      have u1 := HS.out.used.2.2.2 1 _ rfl
      have u2 := HS.out.used.2.2.2 2 _ rfl
      have u3 := HS.out.used.2.2.2 3 _ rfl
      go_wp2_with fail
      clear x0 x1 x2 x3 x4 u0 u1 u2 u3
      first | go_end0 | refine bodyPost_ret (results_none rfl _ _ _) rfl ?_
      refine ⟨rfl, rq, ?_⟩
      have h := HS.out.rel
      rw [HBY.out]
      simpa [List.append_assoc] using h
    · simp only [if_pos rfl, if_neg Bool.false_ne_true] at hby
      have HBY := Lib.hid hby
      clear hby
      clear hlm
      go_enter Try.func98, Try.ntmps98
      go_wp2_with fail
      generalize w.alloc _ = W at H HBX ⊢
      refine (HC0.out _).mono ?_
      rintro e wn ⟨rfl, hbn⟩
      have TB := HBX.out.below hbn
      have x0 := TB.2.2.2 0 _ rfl
      have x1 := TB.2.2.2 1 _ rfl
      have x2 := TB.2.2.2 2 _ rfl
      have x3 := TB.2.2.2 3 _ rfl
      have x4 := TB.2.2.2 4 _ rfl
      go_wp2_with fail
      refine (HU.out _).mono ?_
      rintro e wm ⟨rfl, hbm⟩
      have TM := TB.below hbm
      clear x0 x1 x2 x3 x4
      have x0 := TM.2.2.2 0 _ rfl
      have x1 := TM.2.2.2 1 _ rfl
      have x2 := TM.2.2.2 2 _ rfl
      have x3 := TM.2.2.2 3 _ rfl
      have x4 := TM.2.2.2 4 _ rfl
      have hbu := below_alloc wm (.cells #[.bool false, .bool false, .bool true, .bool false] 110)
      have hsu : (wm.alloc (.cells #[.bool false, .bool false, .bool true, .bool false] 110)).heap.size = wm.heap.size + 1 := by simp
      have P0 := (H.out.1.below hbn).below hbm
      have HS := Lib.hid (show St w bp r (wm.alloc (.cells #[.bool false, .bool false, .bool true, .bool false] 110)) r l w.heap.size _ wm.heap.size [.bool false, .bool false, .bool true, .bool false] 800000 from
        ⟨(PenRel.refl H2.out.1).then_below (below_of (below_of (below_of H.out.2.1 hbn) hbm) hbu), TM.below hbu, told_new P0 [.bool false, .bool false, .bool true, .bool false] _, hl⟩)
      have HSU := Lib.hid hsu
      have A0 := alloc_cell x0 TM.1
      have A1 := alloc_cell x1 TM.1
      have A2 := alloc_cell x2 TM.1
      have A3 := alloc_cell x3 TM.1
      have A4 := alloc_cell x4 TM.1
      clear hbu hsu P0 TB hbn hbm
      go_wp2_with fail
      generalize wm.alloc _ = X at HS HSU ⊢
      rw [← HSU.out]
      clear A0 A1 A2 A3 A4 x0 x1 x2 x3 x4 TM
      generalize wm.heap.size = g4 at HS ⊢
      refine (pennum_any bp _ _ [kn] X.heap.size 1 _ (HS.out.rel.1.below (below_alloc _ _)) (by intro y hy; simp at hy; omega) (told_new HS.out.rel.1 (u64n [kn]) _) (by have := HS.out.len; show _ + 11 * 1 ≤ 900000; omega)).mono ?_
      rintro e X ⟨rfl, rq, hrel⟩
      replace HS := Lib.hid (HS.out.adv (below_alloc _ _) hrel (one_len _))
      clear hrel
      have x0 := HS.out.box.2.2.2 0 _ rfl
      have x1 := HS.out.box.2.2.2 1 _ rfl
      have x2 := HS.out.box.2.2.2 2 _ rfl
      have x3 := HS.out.box.2.2.2 3 _ rfl
      have x4 := HS.out.box.2.2.2 4 _ rfl
      have u0 := HS.out.used.2.2.2 0 _ rfl
      have u1 := HS.out.used.2.2.2 1 _ rfl
      have u2 := HS.out.used.2.2.2 2 _ rfl
      have u3 := HS.out.used.2.2.2 3 _ rfl
      go_wp2_with fail
      clear x0 x1 x2 x3 x4 u0 u1 u2 u3
      refine (pennum_any bp _ _ [val] X.heap.size 1 _ (HS.out.rel.1.below (below_alloc _ _)) (by intro y hy; simp at hy; subst hy; exact HV.out) (told_new HS.out.rel.1 (u64n [val]) _) (by have := HS.out.len; show _ + 11 * 1 ≤ 900000; omega)).mono ?_
      rintro e X ⟨rfl, rq, hrel⟩
      replace HS := Lib.hid (HS.out.adv (below_alloc _ _) hrel (one_len _))
      clear hrel
      have x0 := HS.out.box.2.2.2 0 _ rfl
      have x1 := HS.out.box.2.2.2 1 _ rfl
      have x2 := HS.out.box.2.2.2 2 _ rfl
      have x3 := HS.out.box.2.2.2 3 _ rfl
      have x4 := HS.out.box.2.2.2 4 _ rfl
      have u0 := HS.out.used.2.2.2 0 _ rfl
      have u1 := HS.out.used.2.2.2 1 _ rfl
      have u2 := HS.out.used.2.2.2 2 _ rfl
      have u3 := HS.out.used.2.2.2 3 _ rfl
      go_wp2_with fail
      clear x0 x1 x2 x3 x4 u0 u1 u2 u3
      first | go_end0 | refine bodyPost_ret (results_none rfl _ _ _) rfl ?_
      refine ⟨rfl, rq, ?_⟩
      have h := HS.out.rel
      rw [HBY.out]
      simpa [List.append_assoc] using h
    · simp only [if_pos rfl, if_neg Bool.false_ne_true] at hby
      have HBY := Lib.hid hby
      clear hby
      obtain ⟨ln, rfl⟩ := Int.eq_ofNat_of_zero_le (hlm rfl rfl).1
      have hln : ln ≤ 4096 := by have := (hlm rfl rfl).2; omega
      have hw2 : IntKind.u64.wrap (ln : Int) = (ln : Int) := by rw [IntKind.wrap_u64]; omega
      clear hlm
      go_enter Try.func98, Try.ntmps98
      go_wp2_with fail
      generalize w.alloc _ = W at H HBX ⊢
      refine (HC0.out _).mono ?_
      rintro e wn ⟨rfl, hbn⟩
      have TB := HBX.out.below hbn
      have x0 := TB.2.2.2 0 _ rfl
      have x1 := TB.2.2.2 1 _ rfl
      have x2 := TB.2.2.2 2 _ rfl
      have x3 := TB.2.2.2 3 _ rfl
      have x4 := TB.2.2.2 4 _ rfl
      go_wp2_with fail
      refine (HU.out _).mono ?_
      rintro e wm ⟨rfl, hbm⟩
      have TM := TB.below hbm
      clear x0 x1 x2 x3 x4
      have x0 := TM.2.2.2 0 _ rfl
      have x1 := TM.2.2.2 1 _ rfl
      have x2 := TM.2.2.2 2 _ rfl
      have x3 := TM.2.2.2 3 _ rfl
      have x4 := TM.2.2.2 4 _ rfl
      have hbu := below_alloc wm (.cells #[.bool false, .bool true, .bool false, .bool true] 110)
      have hsu : (wm.alloc (.cells #[.bool false, .bool true, .bool false, .bool true] 110)).heap.size = wm.heap.size + 1 := by simp
      have P0 := (H.out.1.below hbn).below hbm
      have HS := Lib.hid (show St w bp r (wm.alloc (.cells #[.bool false, .bool true, .bool false, .bool true] 110)) r l w.heap.size _ wm.heap.size [.bool false, .bool true, .bool false, .bool true] 800000 from
        ⟨(PenRel.refl H2.out.1).then_below (below_of (below_of (below_of H.out.2.1 hbn) hbm) hbu), TM.below hbu, told_new P0 [.bool false, .bool true, .bool false, .bool true] _, hl⟩)
      have HSU := Lib.hid hsu
      have A0 := alloc_cell x0 TM.1
      have A1 := alloc_cell x1 TM.1
      have A2 := alloc_cell x2 TM.1
      have A3 := alloc_cell x3 TM.1
      have A4 := alloc_cell x4 TM.1
      clear hbu hsu P0 TB hbn hbm
      go_wp2_with fail
      generalize wm.alloc _ = X at HS HSU ⊢
      rw [← HSU.out]
      clear A0 A1 A2 A3 A4 x0 x1 x2 x3 x4 TM
      generalize wm.heap.size = g4 at HS ⊢
      refine (pennum_any bp _ _ [kn] X.heap.size 1 _ (HS.out.rel.1.below (below_alloc _ _)) (by intro y hy; simp at hy; omega) (told_new HS.out.rel.1 (u64n [kn]) _) (by have := HS.out.len; show _ + 11 * 1 ≤ 900000; omega)).mono ?_
      rintro e X ⟨rfl, rq, hrel⟩
      replace HS := Lib.hid (HS.out.adv (below_alloc _ _) hrel (one_len _))
      clear hrel
      have x0 := HS.out.box.2.2.2 0 _ rfl
      have x1 := HS.out.box.2.2.2 1 _ rfl
      have x2 := HS.out.box.2.2.2 2 _ rfl
      have x3 := HS.out.box.2.2.2 3 _ rfl
      have x4 := HS.out.box.2.2.2 4 _ rfl
      have u0 := HS.out.used.2.2.2 0 _ rfl
      have u1 := HS.out.used.2.2.2 1 _ rfl
      have u2 := HS.out.used.2.2.2 2 _ rfl
      have u3 := HS.out.used.2.2.2 3 _ rfl
      go_wp2_with fail
      clear x0 x1 x2 x3 x4 u0 u1 u2 u3
      refine (pentext_any bp _ _ upto _ HS.out.rel.1 (by have := HS.out.len; omega)).mono ?_
      rintro e X ⟨rfl, rq, hrel⟩
      replace HS := Lib.hid (HS.out.adv (Below.refl _ _) hrel (txt_len ht))
      clear hrel
      have x0 := HS.out.box.2.2.2 0 _ rfl
      have x1 := HS.out.box.2.2.2 1 _ rfl
      have x2 := HS.out.box.2.2.2 2 _ rfl
      have x3 := HS.out.box.2.2.2 3 _ rfl
      have x4 := HS.out.box.2.2.2 4 _ rfl
      have u0 := HS.out.used.2.2.2 0 _ rfl
      have u1 := HS.out.used.2.2.2 1 _ rfl
      have u2 := HS.out.used.2.2.2 2 _ rfl
      have u3 := HS.out.used.2.2.2 3 _ rfl
      go_wp2_with fail
      clear x0 x1 x2 x3 x4 u0 u1 u2 u3
      refine (pennum_any bp _ _ [ln] X.heap.size 1 _ (HS.out.rel.1.below (below_alloc _ _)) (by intro y hy; simp at hy; omega) (told_new HS.out.rel.1 (u64n [ln]) _) (by have := HS.out.len; show _ + 11 * 1 ≤ 900000; omega)).mono ?_
      rintro e X ⟨rfl, rq, hrel⟩
      replace HS := Lib.hid (HS.out.adv (below_alloc _ _) hrel (one_len _))
      clear hrel
      have x0 := HS.out.box.2.2.2 0 _ rfl
      have x1 := HS.out.box.2.2.2 1 _ rfl
      have x2 := HS.out.box.2.2.2 2 _ rfl
      have x3 := HS.out.box.2.2.2 3 _ rfl
      have x4 := HS.out.box.2.2.2 4 _ rfl
      have u0 := HS.out.used.2.2.2 0 _ rfl
      have u1 := HS.out.used.2.2.2 1 _ rfl
      have u2 := HS.out.used.2.2.2 2 _ rfl
      have u3 := HS.out.used.2.2.2 3 _ rfl
      go_wp2_with fail
      clear x0 x1 x2 x3 x4 u0 u1 u2 u3
      first | go_end0 | refine bodyPost_ret (results_none rfl _ _ _) rfl ?_
      refine ⟨rfl, rq, ?_⟩
      have h := HS.out.rel
      rw [HBY.out]
      simpa [List.append_assoc] using h
    · simp only [if_pos rfl, if_neg Bool.false_ne_true] at hby
      have HBY := Lib.hid hby
      clear hby
      obtain ⟨ln, rfl⟩ := Int.eq_ofNat_of_zero_le (hlm rfl rfl).1
      have hln : ln ≤ 4096 := by have := (hlm rfl rfl).2; omega
      have hw2 : IntKind.u64.wrap (ln : Int) = (ln : Int) := by rw [IntKind.wrap_u64]; omega
      clear hlm
      go_enter Try.func98, Try.ntmps98
      go_wp2_with fail
      generalize w.alloc _ = W at H HBX ⊢
      refine (HC0.out _).mono ?_
      rintro e wn ⟨rfl, hbn⟩
      have TB := HBX.out.below hbn
      have x0 := TB.2.2.2 0 _ rfl
      have x1 := TB.2.2.2 1 _ rfl
      have x2 := TB.2.2.2 2 _ rfl
      have x3 := TB.2.2.2 3 _ rfl
      have x4 := TB.2.2.2 4 _ rfl
      go_wp2_with fail
      refine (HU.out _).mono ?_
      rintro e wm ⟨rfl, hbm⟩
      have TM := TB.below hbm
      clear x0 x1 x2 x3 x4
      have x0 := TM.2.2.2 0 _ rfl
      have x1 := TM.2.2.2 1 _ rfl
      have x2 := TM.2.2.2 2 _ rfl
      have x3 := TM.2.2.2 3 _ rfl
      have x4 := TM.2.2.2 4 _ rfl
      have hbu := below_alloc wm (.cells #[.bool false, .bool true, .bool true, .bool true] 110)
      have hsu : (wm.alloc (.cells #[.bool false, .bool true, .bool true, .bool true] 110)).heap.size = wm.heap.size + 1 := by simp
      have P0 := (H.out.1.below hbn).below hbm
      have HS := Lib.hid (show St w bp r (wm.alloc (.cells #[.bool false, .bool true, .bool true, .bool true] 110)) r l w.heap.size _ wm.heap.size [.bool false, .bool true, .bool true, .bool true] 800000 from
        ⟨(PenRel.refl H2.out.1).then_below (below_of (below_of (below_of H.out.2.1 hbn) hbm) hbu), TM.below hbu, told_new P0 [.bool false, .bool true, .bool true, .bool true] _, hl⟩)
      have HSU := Lib.hid hsu
      have A0 := alloc_cell x0 TM.1
      have A1 := alloc_cell x1 TM.1
      have A2 := alloc_cell x2 TM.1
      have A3 := alloc_cell x3 TM.1
      have A4 := alloc_cell x4 TM.1
      clear hbu hsu P0 TB hbn hbm
      go_wp2_with fail
      generalize wm.alloc _ = X at HS HSU ⊢
      rw [← HSU.out]
      clear A0 A1 A2 A3 A4 x0 x1 x2 x3 x4 TM
      generalize wm.heap.size = g4 at HS ⊢
      refine (pennum_any bp _ _ [kn] X.heap.size 1 _ (HS.out.rel.1.below (below_alloc _ _)) (by intro y hy; simp at hy; omega) (told_new HS.out.rel.1 (u64n [kn]) _) (by have := HS.out.len; show _ + 11 * 1 ≤ 900000; omega)).mono ?_
      rintro e X ⟨rfl, rq, hrel⟩
      replace HS := Lib.hid (HS.out.adv (below_alloc _ _) hrel (one_len _))
      clear hrel
      have x0 := HS.out.box.2.2.2 0 _ rfl
      have x1 := HS.out.box.2.2.2 1 _ rfl
      have x2 := HS.out.box.2.2.2 2 _ rfl
      have x3 := HS.out.box.2.2.2 3 _ rfl
      have x4 := HS.out.box.2.2.2 4 _ rfl
      have u0 := HS.out.used.2.2.2 0 _ rfl
      have u1 := HS.out.used.2.2.2 1 _ rfl
      have u2 := HS.out.used.2.2.2 2 _ rfl
      have u3 := HS.out.used.2.2.2 3 _ rfl
      go_wp2_with fail
      clear x0 x1 x2 x3 x4 u0 u1 u2 u3
      refine (pentext_any bp _ _ upto _ HS.out.rel.1 (by have := HS.out.len; omega)).mono ?_
      rintro e X ⟨rfl, rq, hrel⟩
      replace HS := Lib.hid (HS.out.adv (Below.refl _ _) hrel (txt_len ht))
      clear hrel
      have x0 := HS.out.box.2.2.2 0 _ rfl
      have x1 := HS.out.box.2.2.2 1 _ rfl
      have x2 := HS.out.box.2.2.2 2 _ rfl
      have x3 := HS.out.box.2.2.2 3 _ rfl
      have x4 := HS.out.box.2.2.2 4 _ rfl
      have u0 := HS.out.used.2.2.2 0 _ rfl
      have u1 := HS.out.used.2.2.2 1 _ rfl
      have u2 := HS.out.used.2.2.2 2 _ rfl
      have u3 := HS.out.used.2.2.2 3 _ rfl
      go_wp2_with fail
      clear x0 x1 x2 x3 x4 u0 u1 u2 u3
      refine (pennum_any bp _ _ [val] X.heap.size 1 _ (HS.out.rel.1.below (below_alloc _ _)) (by intro y hy; simp at hy; subst hy; exact HV.out) (told_new HS.out.rel.1 (u64n [val]) _) (by have := HS.out.len; show _ + 11 * 1 ≤ 900000; omega)).mono ?_
      rintro e X ⟨rfl, rq, hrel⟩
      replace HS := Lib.hid (HS.out.adv (below_alloc _ _) hrel (one_len _))
      clear hrel
      have x0 := HS.out.box.2.2.2 0 _ rfl
      have x1 := HS.out.box.2.2.2 1 _ rfl
      have x2 := HS.out.box.2.2.2 2 _ rfl
      have x3 := HS.out.box.2.2.2 3 _ rfl
      have x4 := HS.out.box.2.2.2 4 _ rfl
      have u0 := HS.out.used.2.2.2 0 _ rfl
      have u1 := HS.out.used.2.2.2 1 _ rfl
      have u2 := HS.out.used.2.2.2 2 _ rfl
      have u3 := HS.out.used.2.2.2 3 _ rfl
      go_wp2_with fail
      clear x0 x1 x2 x3 x4 u0 u1 u2 u3
      refine (pennum_any bp _ _ [ln] X.heap.size 1 _ (HS.out.rel.1.below (below_alloc _ _)) (by intro y hy; simp at hy; omega) (told_new HS.out.rel.1 (u64n [ln]) _) (by have := HS.out.len; show _ + 11 * 1 ≤ 900000; omega)).mono ?_
      rintro e X ⟨rfl, rq, hrel⟩
      replace HS := Lib.hid (HS.out.adv (below_alloc _ _) hrel (one_len _))
      clear hrel
      have x0 := HS.out.box.2.2.2 0 _ rfl
      have x1 := HS.out.box.2.2.2 1 _ rfl
      have x2 := HS.out.box.2.2.2 2 _ rfl
      have x3 := HS.out.box.2.2.2 3 _ rfl
      have x4 := HS.out.box.2.2.2 4 _ rfl
      have u0 := HS.out.used.2.2.2 0 _ rfl
      have u1 := HS.out.used.2.2.2 1 _ rfl
      have u2 := HS.out.used.2.2.2 2 _ rfl
      have u3 := HS.out.used.2.2.2 3 _ rfl
      go_wp2_with fail
      clear x0 x1 x2 x3 x4 u0 u1 u2 u3
      first | go_end0 | refine bodyPost_ret (results_none rfl _ _ _) rfl ?_
      refine ⟨rfl, rq, ?_⟩
      have h := HS.out.rel
      rw [HBY.out]
      simpa [List.append_assoc] using h
    · simp only [if_pos rfl, if_neg Bool.false_ne_true] at hby
      have HBY := Lib.hid hby
      clear hby
      clear hlm
      go_enter Try.func98, Try.ntmps98
      go_wp2_with fail
      generalize w.alloc _ = W at H HBX ⊢
      refine (HC0.out _).mono ?_
      rintro e wn ⟨rfl, hbn⟩
      have TB := HBX.out.below hbn
      have x0 := TB.2.2.2 0 _ rfl
      have x1 := TB.2.2.2 1 _ rfl
      have x2 := TB.2.2.2 2 _ rfl
      have x3 := TB.2.2.2 3 _ rfl
      have x4 := TB.2.2.2 4 _ rfl
      go_wp2_with fail
      refine (HU.out _).mono ?_
      rintro e wm ⟨rfl, hbm⟩
      have TM := TB.below hbm
      clear x0 x1 x2 x3 x4
      have x0 := TM.2.2.2 0 _ rfl
      have x1 := TM.2.2.2 1 _ rfl
      have x2 := TM.2.2.2 2 _ rfl
      have x3 := TM.2.2.2 3 _ rfl
      have x4 := TM.2.2.2 4 _ rfl
      have hbu := below_alloc wm (.cells #[.bool true, .bool false, .bool false, .bool false] 110)
      have hsu : (wm.alloc (.cells #[.bool true, .bool false, .bool false, .bool false] 110)).heap.size = wm.heap.size + 1 := by simp
      have P0 := (H.out.1.below hbn).below hbm
      have HS := Lib.hid (show St w bp r (wm.alloc (.cells #[.bool true, .bool false, .bool false, .bool false] 110)) r l w.heap.size _ wm.heap.size [.bool true, .bool false, .bool false, .bool false] 800000 from
        ⟨(PenRel.refl H2.out.1).then_below (below_of (below_of (below_of H.out.2.1 hbn) hbm) hbu), TM.below hbu, told_new P0 [.bool true, .bool false, .bool false, .bool false] _, hl⟩)
      have HSU := Lib.hid hsu
      have A0 := alloc_cell x0 TM.1
      have A1 := alloc_cell x1 TM.1
      have A2 := alloc_cell x2 TM.1
      have A3 := alloc_cell x3 TM.1
      have A4 := alloc_cell x4 TM.1
      clear hbu hsu P0 TB hbn hbm
      go_wp2_with fail
      generalize wm.alloc _ = X at HS HSU ⊢
      rw [← HSU.out]
      clear A0 A1 A2 A3 A4 x0 x1 x2 x3 x4 TM
      generalize wm.heap.size = g4 at HS ⊢
      refine (pennum_any bp _ _ [kn] X.heap.size 1 _ (HS.out.rel.1.below (below_alloc _ _)) (by intro y hy; simp at hy; omega) (told_new HS.out.rel.1 (u64n [kn]) _) (by have := HS.out.len; show _ + 11 * 1 ≤ 900000; omega)).mono ?_
      rintro e X ⟨rfl, rq, hrel⟩
      replace HS := Lib.hid (HS.out.adv (below_alloc _ _) hrel (one_len _))
      clear hrel
      have x0 := HS.out.box.2.2.2 0 _ rfl
      have x1 := HS.out.box.2.2.2 1 _ rfl
      have x2 := HS.out.box.2.2.2 2 _ rfl
      have x3 := HS.out.box.2.2.2 3 _ rfl
      have x4 := HS.out.box.2.2.2 4 _ rfl
      have u0 := HS.out.used.2.2.2 0 _ rfl
      have u1 := HS.out.used.2.2.2 1 _ rfl
      have u2 := HS.out.used.2.2.2 2 _ rfl
      have u3 := HS.out.used.2.2.2 3 _ rfl
      go_wp2_with fail
      clear x0 x1 x2 x3 x4 u0 u1 u2 u3
      refine (pentext_any bp _ _ key _ HS.out.rel.1 (by have := HS.out.len; omega)).mono ?_
      rintro e X ⟨rfl, rq, hrel⟩
      replace HS := Lib.hid (HS.out.adv (Below.refl _ _) hrel (txt_len hk))
      clear hrel
      have x0 := HS.out.box.2.2.2 0 _ rfl
      have x1 := HS.out.box.2.2.2 1 _ rfl
      have x2 := HS.out.box.2.2.2 2 _ rfl
      have x3 := HS.out.box.2.2.2 3 _ rfl
      have x4 := HS.out.box.2.2.2 4 _ rfl
      have u0 := HS.out.used.2.2.2 0 _ rfl
      have u1 := HS.out.used.2.2.2 1 _ rfl
      have u2 := HS.out.used.2.2.2 2 _ rfl
      have u3 := HS.out.used.2.2.2 3 _ rfl
      go_wp2_with fail
      clear x0 x1 x2 x3 x4 u0 u1 u2 u3
      first | go_end0 | refine bodyPost_ret (results_none rfl _ _ _) rfl ?_
      refine ⟨rfl, rq, ?_⟩
      have h := HS.out.rel
      rw [HBY.out]
      simpa [List.append_assoc] using h
    · simp only [if_pos rfl, if_neg Bool.false_ne_true] at hby
      have HBY := Lib.hid hby
      clear hby
      clear hlm
      go_enter Try.func98, Try.ntmps98
      go_wp2_with fail
      generalize w.alloc _ = W at H HBX ⊢
      refine (HC0.out _).mono ?_
      rintro e wn ⟨rfl, hbn⟩
      have TB := HBX.out.below hbn
      have x0 := TB.2.2.2 0 _ rfl
      have x1 := TB.2.2.2 1 _ rfl
      have x2 := TB.2.2.2 2 _ rfl
      have x3 := TB.2.2.2 3 _ rfl
      have x4 := TB.2.2.2 4 _ rfl
      go_wp2_with fail
      refine (HU.out _).mono ?_
      rintro e wm ⟨rfl, hbm⟩
      have TM := TB.below hbm
      clear x0 x1 x2 x3 x4
      have x0 := TM.2.2.2 0 _ rfl
      have x1 := TM.2.2.2 1 _ rfl
      have x2 := TM.2.2.2 2 _ rfl
      have x3 := TM.2.2.2 3 _ rfl
      have x4 := TM.2.2.2 4 _ rfl
      have hbu := below_alloc wm (.cells #[.bool true, .bool false, .bool true, .bool false] 110)
      have hsu : (wm.alloc (.cells #[.bool true, .bool false, .bool true, .bool false] 110)).heap.size = wm.heap.size + 1 := by simp
      have P0 := (H.out.1.below hbn).below hbm
      have HS := Lib.hid (show St w bp r (wm.alloc (.cells #[.bool true, .bool false, .bool true, .bool false] 110)) r l w.heap.size _ wm.heap.size [.bool true, .bool false, .bool true, .bool false] 800000 from
        ⟨(PenRel.refl H2.out.1).then_below (below_of (below_of (below_of H.out.2.1 hbn) hbm) hbu), TM.below hbu, told_new P0 [.bool true, .bool false, .bool true, .bool false] _, hl⟩)
      have HSU := Lib.hid hsu
      have A0 := alloc_cell x0 TM.1
      have A1 := alloc_cell x1 TM.1
      have A2 := alloc_cell x2 TM.1
      have A3 := alloc_cell x3 TM.1
      have A4 := alloc_cell x4 TM.1
      clear hbu hsu P0 TB hbn hbm
      go_wp2_with fail
      generalize wm.alloc _ = X at HS HSU ⊢
      rw [← HSU.out]
      clear A0 A1 A2 A3 A4 x0 x1 x2 x3 x4 TM
      generalize wm.heap.size = g4 at HS ⊢
      refine (pennum_any bp _ _ [kn] X.heap.size 1 _ (HS.out.rel.1.below (below_alloc _ _)) (by intro y hy; simp at hy; omega) (told_new HS.out.rel.1 (u64n [kn]) _) (by have := HS.out.len; show _ + 11 * 1 ≤ 900000; omega)).mono ?_
      rintro e X ⟨rfl, rq, hrel⟩
      replace HS := Lib.hid (HS.out.adv (below_alloc _ _) hrel (one_len _))
      clear hrel
      have x0 := HS.out.box.2.2.2 0 _ rfl
      have x1 := HS.out.box.2.2.2 1 _ rfl
      have x2 := HS.out.box.2.2.2 2 _ rfl
      have x3 := HS.out.box.2.2.2 3 _ rfl
      have x4 := HS.out.box.2.2.2 4 _ rfl
      have u0 := HS.out.used.2.2.2 0 _ rfl
      have u1 := HS.out.used.2.2.2 1 _ rfl
      have u2 := HS.out.used.2.2.2 2 _ rfl
      have u3 := HS.out.used.2.2.2 3 _ rfl
      go_wp2_with fail
      clear x0 x1 x2 x3 x4 u0 u1 u2 u3
      refine (pentext_any bp _ _ key _ HS.out.rel.1 (by have := HS.out.len; omega)).mono ?_
      rintro e X ⟨rfl, rq, hrel⟩
      replace HS := Lib.hid (HS.out.adv (Below.refl _ _) hrel (txt_len hk))
      clear hrel
      have x0 := HS.out.box.2.2.2 0 _ rfl
      have x1 := HS.out.box.2.2.2 1 _ rfl
      have x2 := HS.out.box.2.2.2 2 _ rfl
      have x3 := HS.out.box.2.2.2 3 _ rfl
      have x4 := HS.out.box.2.2.2 4 _ rfl
      have u0 := HS.out.used.2.2.2 0 _ rfl
      have u1 := HS.out.used.2.2.2 1 _ rfl
      have u2 := HS.out.used.2.2.2 2 _ rfl
      have u3 := HS.out.used.2.2.2 3 _ rfl
      go_wp2_with fail
      clear x0 x1 x2 x3 x4 u0 u1 u2 u3
      refine (pennum_any bp _ _ [val] X.heap.size 1 _ (HS.out.rel.1.below (below_alloc _ _)) (by intro y hy; simp at hy; subst hy; exact HV.out) (told_new HS.out.rel.1 (u64n [val]) _) (by have := HS.out.len; show _ + 11 * 1 ≤ 900000; omega)).mono ?_
      rintro e X ⟨rfl, rq, hrel⟩
      replace HS := Lib.hid (HS.out.adv (below_alloc _ _) hrel (one_len _))
      clear hrel
      have x0 := HS.out.box.2.2.2 0 _ rfl
      have x1 := HS.out.box.2.2.2 1 _ rfl
      have x2 := HS.out.box.2.2.2 2 _ rfl
      have x3 := HS.out.box.2.2.2 3 _ rfl
      have x4 := HS.out.box.2.2.2 4 _ rfl
      have u0 := HS.out.used.2.2.2 0 _ rfl
      have u1 := HS.out.used.2.2.2 1 _ rfl
      have u2 := HS.out.used.2.2.2 2 _ rfl
      have u3 := HS.out.used.2.2.2 3 _ rfl
      go_wp2_with fail
      clear x0 x1 x2 x3 x4 u0 u1 u2 u3
      first | go_end0 | refine bodyPost_ret (results_none rfl _ _ _) rfl ?_
      refine ⟨rfl, rq, ?_⟩
      have h := HS.out.rel
      rw [HBY.out]
      simpa [List.append_assoc] using h
    · simp only [if_pos rfl, if_neg Bool.false_ne_true] at hby
      have HBY := Lib.hid hby
      clear hby
      obtain ⟨ln, rfl⟩ := Int.eq_ofNat_of_zero_le (hlm rfl rfl).1
      have hln : ln ≤ 4096 := by have := (hlm rfl rfl).2; omega
      have hw2 : IntKind.u64.wrap (ln : Int) = (ln : Int) := by rw [IntKind.wrap_u64]; omega
      clear hlm
      go_enter Try.func98, Try.ntmps98
      go_wp2_with fail
      generalize w.alloc _ = W at H HBX ⊢
      refine (HC0.out _).mono ?_
      rintro e wn ⟨rfl, hbn⟩
      have TB := HBX.out.below hbn
      have x0 := TB.2.2.2 0 _ rfl
      have x1 := TB.2.2.2 1 _ rfl
      have x2 := TB.2.2.2 2 _ rfl
      have x3 := TB.2.2.2 3 _ rfl
      have x4 := TB.2.2.2 4 _ rfl
      go_wp2_with fail
      refine (HU.out _).mono ?_
      rintro e wm ⟨rfl, hbm⟩
      have TM := TB.below hbm
      clear x0 x1 x2 x3 x4
      have x0 := TM.2.2.2 0 _ rfl
      have x1 := TM.2.2.2 1 _ rfl
      have x2 := TM.2.2.2 2 _ rfl
      have x3 := TM.2.2.2 3 _ rfl
      have x4 := TM.2.2.2 4 _ rfl
      have hbu := below_alloc wm (.cells #[.bool true, .bool true, .bool false, .bool true] 110)
      have hsu : (wm.alloc (.cells #[.bool true, .bool true, .bool false, .bool true] 110)).heap.size = wm.heap.size + 1 := by simp
      have P0 := (H.out.1.below hbn).below hbm
      have HS := Lib.hid (show St w bp r (wm.alloc (.cells #[.bool true, .bool true, .bool false, .bool true] 110)) r l w.heap.size _ wm.heap.size [.bool true, .bool true, .bool false, .bool true] 800000 from
        ⟨(PenRel.refl H2.out.1).then_below (below_of (below_of (below_of H.out.2.1 hbn) hbm) hbu), TM.below hbu, told_new P0 [.bool true, .bool true, .bool false, .bool true] _, hl⟩)
      have HSU := Lib.hid hsu
      have A0 := alloc_cell x0 TM.1
      have A1 := alloc_cell x1 TM.1
      have A2 := alloc_cell x2 TM.1
      have A3 := alloc_cell x3 TM.1
      have A4 := alloc_cell x4 TM.1
      clear hbu hsu P0 TB hbn hbm
      go_wp2_with fail
      generalize wm.alloc _ = X at HS HSU ⊢
      rw [← HSU.out]
      clear A0 A1 A2 A3 A4 x0 x1 x2 x3 x4 TM
      generalize wm.heap.size = g4 at HS ⊢
      refine (pennum_any bp _ _ [kn] X.heap.size 1 _ (HS.out.rel.1.below (below_alloc _ _)) (by intro y hy; simp at hy; omega) (told_new HS.out.rel.1 (u64n [kn]) _) (by have := HS.out.len; show _ + 11 * 1 ≤ 900000; omega)).mono ?_
      rintro e X ⟨rfl, rq, hrel⟩
      replace HS := Lib.hid (HS.out.adv (below_alloc _ _) hrel (one_len _))
      clear hrel
      have x0 := HS.out.box.2.2.2 0 _ rfl
      have x1 := HS.out.box.2.2.2 1 _ rfl
      have x2 := HS.out.box.2.2.2 2 _ rfl
      have x3 := HS.out.box.2.2.2 3 _ rfl
      have x4 := HS.out.box.2.2.2 4 _ rfl
      have u0 := HS.out.used.2.2.2 0 _ rfl
      have u1 := HS.out.used.2.2.2 1 _ rfl
      have u2 := HS.out.used.2.2.2 2 _ rfl
      have u3 := HS.out.used.2.2.2 3 _ rfl
      go_wp2_with fail
      clear x0 x1 x2 x3 x4 u0 u1 u2 u3
      refine (pentext_any bp _ _ key _ HS.out.rel.1 (by have := HS.out.len; omega)).mono ?_
      rintro e X ⟨rfl, rq, hrel⟩
      replace HS := Lib.hid (HS.out.adv (Below.refl _ _) hrel (txt_len hk))
      clear hrel
      have x0 := HS.out.box.2.2.2 0 _ rfl
      have x1 := HS.out.box.2.2.2 1 _ rfl
      have x2 := HS.out.box.2.2.2 2 _ rfl
      have x3 := HS.out.box.2.2.2 3 _ rfl
      have x4 := HS.out.box.2.2.2 4 _ rfl
      have u0 := HS.out.used.2.2.2 0 _ rfl
      have u1 := HS.out.used.2.2.2 1 _ rfl
      have u2 := HS.out.used.2.2.2 2 _ rfl
      have u3 := HS.out.used.2.2.2 3 _ rfl
      go_wp2_with fail
      clear x0 x1 x2 x3 x4 u0 u1 u2 u3
      refine (pentext_any bp _ _ upto _ HS.out.rel.1 (by have := HS.out.len; omega)).mono ?_
      rintro e X ⟨rfl, rq, hrel⟩
      replace HS := Lib.hid (HS.out.adv (Below.refl _ _) hrel (txt_len ht))
      clear hrel
      have x0 := HS.out.box.2.2.2 0 _ rfl
      have x1 := HS.out.box.2.2.2 1 _ rfl
      have x2 := HS.out.box.2.2.2 2 _ rfl
      have x3 := HS.out.box.2.2.2 3 _ rfl
      have x4 := HS.out.box.2.2.2 4 _ rfl
      have u0 := HS.out.used.2.2.2 0 _ rfl
      have u1 := HS.out.used.2.2.2 1 _ rfl
      have u2 := HS.out.used.2.2.2 2 _ rfl
      have u3 := HS.out.used.2.2.2 3 _ rfl
      go_wp2_with fail
      clear x0 x1 x2 x3 x4 u0 u1 u2 u3
      refine (pennum_any bp _ _ [ln] X.heap.size 1 _ (HS.out.rel.1.below (below_alloc _ _)) (by intro y hy; simp at hy; omega) (told_new HS.out.rel.1 (u64n [ln]) _) (by have := HS.out.len; show _ + 11 * 1 ≤ 900000; omega)).mono ?_
      rintro e X ⟨rfl, rq, hrel⟩
      replace HS := Lib.hid (HS.out.adv (below_alloc _ _) hrel (one_len _))
      clear hrel
      have x0 := HS.out.box.2.2.2 0 _ rfl
      have x1 := HS.out.box.2.2.2 1 _ rfl
      have x2 := HS.out.box.2.2.2 2 _ rfl
      have x3 := HS.out.box.2.2.2 3 _ rfl
      have x4 := HS.out.box.2.2.2 4 _ rfl
      have u0 := HS.out.used.2.2.2 0 _ rfl
      have u1 := HS.out.used.2.2.2 1 _ rfl
      have u2 := HS.out.used.2.2.2 2 _ rfl
      have u3 := HS.out.used.2.2.2 3 _ rfl
      go_wp2_with fail
      clear x0 x1 x2 x3 x4 u0 u1 u2 u3
      first | go_end0 | refine bodyPost_ret (results_none rfl _ _ _) rfl ?_
      refine ⟨rfl, rq, ?_⟩
      have h := HS.out.rel
      rw [HBY.out]
      simpa [List.append_assoc] using h
    · simp only [if_pos rfl, if_neg Bool.false_ne_true] at hby
      have HBY := Lib.hid hby
      clear hby
      obtain ⟨ln, rfl⟩ := Int.eq_ofNat_of_zero_le (hlm rfl rfl).1
      have hln : ln ≤ 4096 := by have := (hlm rfl rfl).2; omega
      have hw2 : IntKind.u64.wrap (ln : Int) = (ln : Int) := by rw [IntKind.wrap_u64]; omega
      clear hlm
      go_enter Try.func98, Try.ntmps98
      go_wp2_with fail
      generalize w.alloc _ = W at H HBX ⊢
      refine (HC0.out _).mono ?_
      rintro e wn ⟨rfl, hbn⟩
      have TB := HBX.out.below hbn
      have x0 := TB.2.2.2 0 _ rfl
      have x1 := TB.2.2.2 1 _ rfl
      have x2 := TB.2.2.2 2 _ rfl
      have x3 := TB.2.2.2 3 _ rfl
      have x4 := TB.2.2.2 4 _ rfl
      go_wp2_with fail
      refine (HU.out _).mono ?_
      rintro e wm ⟨rfl, hbm⟩
      have TM := TB.below hbm
      clear x0 x1 x2 x3 x4
      have x0 := TM.2.2.2 0 _ rfl
      have x1 := TM.2.2.2 1 _ rfl
      have x2 := TM.2.2.2 2 _ rfl
      have x3 := TM.2.2.2 3 _ rfl
      have x4 := TM.2.2.2 4 _ rfl
      have hbu := below_alloc wm (.cells #[.bool true, .bool true, .bool true, .bool true] 110)
      have hsu : (wm.alloc (.cells #[.bool true, .bool true, .bool true, .bool true] 110)).heap.size = wm.heap.size + 1 := by simp
      have P0 := (H.out.1.below hbn).below hbm
      have HS := Lib.hid (show St w bp r (wm.alloc (.cells #[.bool true, .bool true, .bool true, .bool true] 110)) r l w.heap.size _ wm.heap.size [.bool true, .bool true, .bool true, .bool true] 800000 from
        ⟨(PenRel.refl H2.out.1).then_below (below_of (below_of (below_of H.out.2.1 hbn) hbm) hbu), TM.below hbu, told_new P0 [.bool true, .bool true, .bool true, .bool true] _, hl⟩)
      have HSU := Lib.hid hsu
      have A0 := alloc_cell x0 TM.1
      have A1 := alloc_cell x1 TM.1
      have A2 := alloc_cell x2 TM.1
      have A3 := alloc_cell x3 TM.1
      have A4 := alloc_cell x4 TM.1
      clear hbu hsu P0 TB hbn hbm
      go_wp2_with fail
      generalize wm.alloc _ = X at HS HSU ⊢
      rw [← HSU.out]
      clear A0 A1 A2 A3 A4 x0 x1 x2 x3 x4 TM
      generalize wm.heap.size = g4 at HS ⊢
      refine (pennum_any bp _ _ [kn] X.heap.size 1 _ (HS.out.rel.1.below (below_alloc _ _)) (by intro y hy; simp at hy; omega) (told_new HS.out.rel.1 (u64n [kn]) _) (by have := HS.out.len; show _ + 11 * 1 ≤ 900000; omega)).mono ?_
      rintro e X ⟨rfl, rq, hrel⟩
      replace HS := Lib.hid (HS.out.adv (below_alloc _ _) hrel (one_len _))
      clear hrel
      have x0 := HS.out.box.2.2.2 0 _ rfl
      have x1 := HS.out.box.2.2.2 1 _ rfl
      have x2 := HS.out.box.2.2.2 2 _ rfl
      have x3 := HS.out.box.2.2.2 3 _ rfl
      have x4 := HS.out.box.2.2.2 4 _ rfl
      have u0 := HS.out.used.2.2.2 0 _ rfl
      have u1 := HS.out.used.2.2.2 1 _ rfl
      have u2 := HS.out.used.2.2.2 2 _ rfl
      have u3 := HS.out.used.2.2.2 3 _ rfl
      go_wp2_with fail
      clear x0 x1 x2 x3 x4 u0 u1 u2 u3
      refine (pentext_any bp _ _ key _ HS.out.rel.1 (by have := HS.out.len; omega)).mono ?_
      rintro e X ⟨rfl, rq, hrel⟩
      replace HS := Lib.hid (HS.out.adv (Below.refl _ _) hrel (txt_len hk))
      clear hrel
      have x0 := HS.out.box.2.2.2 0 _ rfl
      have x1 := HS.out.box.2.2.2 1 _ rfl
      have x2 := HS.out.box.2.2.2 2 _ rfl
      have x3 := HS.out.box.2.2.2 3 _ rfl
      have x4 := HS.out.box.2.2.2 4 _ rfl
      have u0 := HS.out.used.2.2.2 0 _ rfl
      have u1 := HS.out.used.2.2.2 1 _ rfl
      have u2 := HS.out.used.2.2.2 2 _ rfl
      have u3 := HS.out.used.2.2.2 3 _ rfl
      go_wp2_with fail
      clear x0 x1 x2 x3 x4 u0 u1 u2 u3
      refine (pentext_any bp _ _ upto _ HS.out.rel.1 (by have := HS.out.len; omega)).mono ?_
      rintro e X ⟨rfl, rq, hrel⟩
      replace HS := Lib.hid (HS.out.adv (Below.refl _ _) hrel (txt_len ht))
      clear hrel
      have x0 := HS.out.box.2.2.2 0 _ rfl
      have x1 := HS.out.box.2.2.2 1 _ rfl
      have x2 := HS.out.box.2.2.2 2 _ rfl
      have x3 := HS.out.box.2.2.2 3 _ rfl
      have x4 := HS.out.box.2.2.2 4 _ rfl
      have u0 := HS.out.used.2.2.2 0 _ rfl
      have u1 := HS.out.used.2.2.2 1 _ rfl
      have u2 := HS.out.used.2.2.2 2 _ rfl
      have u3 := HS.out.used.2.2.2 3 _ rfl
      go_wp2_with fail
      clear x0 x1 x2 x3 x4 u0 u1 u2 u3
      refine (pennum_any bp _ _ [val] X.heap.size 1 _ (HS.out.rel.1.below (below_alloc _ _)) (by intro y hy; simp at hy; subst hy; exact HV.out) (told_new HS.out.rel.1 (u64n [val]) _) (by have := HS.out.len; show _ + 11 * 1 ≤ 900000; omega)).mono ?_
      rintro e X ⟨rfl, rq, hrel⟩
      replace HS := Lib.hid (HS.out.adv (below_alloc _ _) hrel (one_len _))
      clear hrel
      have x0 := HS.out.box.2.2.2 0 _ rfl
      have x1 := HS.out.box.2.2.2 1 _ rfl
      have x2 := HS.out.box.2.2.2 2 _ rfl
      have x3 := HS.out.box.2.2.2 3 _ rfl
      have x4 := HS.out.box.2.2.2 4 _ rfl
      have u0 := HS.out.used.2.2.2 0 _ rfl
      have u1 := HS.out.used.2.2.2 1 _ rfl
      have u2 := HS.out.used.2.2.2 2 _ rfl
      have u3 := HS.out.used.2.2.2 3 _ rfl
      go_wp2_with fail
      clear x0 x1 x2 x3 x4 u0 u1 u2 u3
      refine (pennum_any bp _ _ [ln] X.heap.size 1 _ (HS.out.rel.1.below (below_alloc _ _)) (by intro y hy; simp at hy; omega) (told_new HS.out.rel.1 (u64n [ln]) _) (by have := HS.out.len; show _ + 11 * 1 ≤ 900000; omega)).mono ?_
      rintro e X ⟨rfl, rq, hrel⟩
      replace HS := Lib.hid (HS.out.adv (below_alloc _ _) hrel (one_len _))
      clear hrel
      have x0 := HS.out.box.2.2.2 0 _ rfl
      have x1 := HS.out.box.2.2.2 1 _ rfl
      have x2 := HS.out.box.2.2.2 2 _ rfl
      have x3 := HS.out.box.2.2.2 3 _ rfl
      have x4 := HS.out.box.2.2.2 4 _ rfl
      have u0 := HS.out.used.2.2.2 0 _ rfl
      have u1 := HS.out.used.2.2.2 1 _ rfl
      have u2 := HS.out.used.2.2.2 2 _ rfl
      have u3 := HS.out.used.2.2.2 3 _ rfl
      go_wp2_with fail
      clear x0 x1 x2 x3 x4 u0 u1 u2 u3
      first | go_end0 | refine bodyPost_ret (results_none rfl _ _ _) rfl ?_
      refine ⟨rfl, rq, ?_⟩
      have h := HS.out.rel
      rw [HBY.out]
      simpa [List.append_assoc] using h

end Go.Proofs.Ythbafbgnclpbpaa
