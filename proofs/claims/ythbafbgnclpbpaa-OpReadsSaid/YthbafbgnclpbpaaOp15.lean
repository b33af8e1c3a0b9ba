/- What is read of the bytes of an operation: plain. -/
import Derived.Test.YthbafbgnclpbpaaOp13
import Derived.Test.YthbafbgnclpbpaaOp14
import Derived.Test.YthbafbgnclpbpaaFine
namespace Go.Proofs.Ythbafbgnclpbpaa
open Go.RowKit

theorem eyeTxt_top {s : ByteArray} {top : Int} (h : s.size ≤ 100000) (ht : (s.size : Int) ≤ top) (r : List Nat) : eyeTxt top (dig s.size ++ tb s ++ r) 0 = (s, r, 0) := by
  have e : eyeUp top.toNat (dig s.size ++ tb s ++ r) 0 = (s.size, tb s ++ r, 0) := by
    rw [List.append_assoc]
    exact eyeUp_dig (by omega) (by omega) _
  have h1 : (tb s).length = s.size := tb_length s
  unfold eyeTxt
  rw [e, if_neg (by omega), if_neg (by simp only [List.length_append]; omega)]
  simp only []
  rw [← h1, List.take_left, List.drop_left, bstr_tb]

theorem opB_key {o : OpD} (h : opB o = true) (hu : usesKey o.kind = true) : o.key.size ≤ 64 := by
  unfold opB at h
  rw [hu] at h
  simp only [Bool.and_eq_true, Bool.not_true, Bool.false_or] at h
  exact (of_decide_eq_true h.2.1).2
theorem opB_upto {o : OpD} (h : opB o = true) (hu : usesTo o.kind = true) : o.upto.size ≤ 64 := by
  unfold opB at h
  rw [hu] at h
  simp only [Bool.and_eq_true, Bool.not_true, Bool.false_or] at h
  exact (of_decide_eq_true h.2.2.1.1).2
theorem opB_plain {o : OpD} (h : opB o = true) : opB (plainO o) = true := by
  have hk : isKind o.kind = true := by unfold opB at h; simp only [Bool.and_eq_true] at h; exact h.1
  have e : plainO o = ⟨o.kind, if usesKey o.kind = true then o.key else ⟨#[]⟩, if usesTo o.kind = true then o.upto else ⟨#[]⟩, if usesVal o.kind = true then o.val else 0, if usesTo o.kind = true then o.limit else 0⟩ := by
    unfold plainO plainV
    rw [if_pos hk]
  rw [e]
  unfold opB at h ⊢
  simp only []
  have hs := uses_kinds o.kind
  rcases hs with ⟨e1, e2, e3⟩ | ⟨e1, e2, e3⟩ | ⟨e1, e2, e3⟩ | ⟨e1, e2, e3⟩
  all_goals
    rw [e1, e2] at h ⊢
    simpa using h

theorem opRd_good {o : OpD} (h : opB o = true) (ho : OpOk o) (R : List Nat) : opRd (opBytes o ++ R) 0 = (true, plainO o, R, 0) := by
  have hb := opB_kind h
  have hk : isKind o.kind = true := by unfold opB at h; simp only [Bool.and_eq_true] at h; exact h.1
  have hp := opB_plain h
  have hlim := opB_limit h
  have hkey := opB_key h
  have hupto := opB_upto h
  have hval := ho.val
  have e : plainO o = ⟨o.kind, if usesKey o.kind = true then o.key else ⟨#[]⟩, if usesTo o.kind = true then o.upto else ⟨#[]⟩, if usesVal o.kind = true then o.val else 0, if usesTo o.kind = true then o.limit else 0⟩ := by
    unfold plainO plainV
    rw [if_pos hk]
  rw [e] at hp ⊢
  have hby : opBytes o = dig o.kind.toNat ++ ((if usesKey o.kind = true then dig o.key.size ++ tb o.key else []) ++ ((if usesTo o.kind = true then dig o.upto.size ++ tb o.upto else []) ++ ((if usesVal o.kind = true then dig o.val else []) ++ (if usesTo o.kind = true then dig o.limit.toNat else [])))) := by
    unfold opBytes
    rw [if_pos h]
  rw [hby]
  clear hby e h hk ho
  obtain ⟨kind, key, upto, val, limit⟩ := o
  simp only [] at hp hlim hkey hupto hval hb ⊢
  obtain ⟨kn, rfl⟩ := Int.eq_ofNat_of_zero_le (show 0 ≤ kind by omega)
  have hk10 : kn ≤ 10 := by omega
  rw [Int.toNat_natCast, List.append_assoc]
  unfold opRd
  rw [eyeUp_dig (by omega) hk10]
  have hr : ∀ L : List Nat, raw0 (kn, L, 0) = raw1 (usesKey (kn : Int)) (usesTo (kn : Int)) (usesVal (kn : Int)) kn L 0 := fun _ => rfl
  rw [hr]
  have hs := uses_kinds (kn : Int)
  generalize usesKey (kn : Int) = ku at hs hp hkey ⊢
  generalize usesTo (kn : Int) = tu at hs hp hupto hlim ⊢
  generalize usesVal (kn : Int) = vu at hs hp ⊢
  rcases hs with ⟨rfl, rfl, rfl⟩ | ⟨rfl, rfl, rfl⟩ | ⟨rfl, rfl, rfl⟩ | ⟨rfl, rfl, rfl⟩
  · rw [show ((if false = true then dig key.size ++ tb key else []) ++ ((if false = true then dig upto.size ++ tb upto else []) ++ ((if false = true then dig val else []) ++ (if false = true then dig limit.toNat else []))) ++ R) = R from by simp]
    exact opFin_good (o := ⟨kn, ⟨#[]⟩, ⟨#[]⟩, 0, 0⟩) hp
  · have hks := hkey rfl
    rw [show ((if true = true then dig key.size ++ tb key else []) ++ ((if false = true then dig upto.size ++ tb upto else []) ++ ((if false = true then dig val else []) ++ (if false = true then dig limit.toNat else []))) ++ R) = dig key.size ++ tb key ++ R from by simp]
    show opFin (raw2 false false kn (eyeTxt 64 (dig key.size ++ tb key ++ R) 0).1 (eyeTxt 64 (dig key.size ++ tb key ++ R) 0).2.1 (eyeTxt 64 (dig key.size ++ tb key ++ R) 0).2.2) = _
    rw [eyeTxt_top (by omega) (by omega)]
    exact opFin_good (o := ⟨kn, key, ⟨#[]⟩, 0, 0⟩) hp
  · have hks := hkey rfl
    rw [show ((if true = true then dig key.size ++ tb key else []) ++ ((if false = true then dig upto.size ++ tb upto else []) ++ ((if true = true then dig val else []) ++ (if false = true then dig limit.toNat else []))) ++ R) = dig key.size ++ tb key ++ (dig val ++ R) from by simp]
    show opFin (raw2 false true kn (eyeTxt 64 (dig key.size ++ tb key ++ (dig val ++ R)) 0).1 (eyeTxt 64 (dig key.size ++ tb key ++ (dig val ++ R)) 0).2.1 (eyeTxt 64 (dig key.size ++ tb key ++ (dig val ++ R)) 0).2.2) = _
    rw [eyeTxt_top (by omega) (by omega)]
    show opFin (raw4 false kn key ⟨#[]⟩ (eyeUp 18446744073709551615 (dig val ++ R) 0).1 (eyeUp 18446744073709551615 (dig val ++ R) 0).2.1 (eyeUp 18446744073709551615 (dig val ++ R) 0).2.2) = _
    rw [eyeUp_dig hval (by omega)]
    exact opFin_good (o := ⟨kn, key, ⟨#[]⟩, val, 0⟩) hp
  · have hks := hkey rfl
    have hus := hupto rfl
    have hll := hlim rfl
    obtain ⟨ln, rfl⟩ := Int.eq_ofNat_of_zero_le hll.1
    have hln : ln ≤ 4096 := by omega
    rw [Int.toNat_natCast]
    rw [show ((if true = true then dig key.size ++ tb key else []) ++ ((if true = true then dig upto.size ++ tb upto else []) ++ ((if false = true then dig val else []) ++ (if true = true then dig ln else []))) ++ R) = dig key.size ++ tb key ++ (dig upto.size ++ tb upto ++ (dig ln ++ R)) from by simp]
    show opFin (raw2 true false kn (eyeTxt 64 (dig key.size ++ tb key ++ (dig upto.size ++ tb upto ++ (dig ln ++ R))) 0).1 (eyeTxt 64 (dig key.size ++ tb key ++ (dig upto.size ++ tb upto ++ (dig ln ++ R))) 0).2.1 (eyeTxt 64 (dig key.size ++ tb key ++ (dig upto.size ++ tb upto ++ (dig ln ++ R))) 0).2.2) = _
    rw [eyeTxt_top (by omega) (by omega)]
    show opFin (raw3 true false kn key (eyeTxt 64 (dig upto.size ++ tb upto ++ (dig ln ++ R)) 0).1 (eyeTxt 64 (dig upto.size ++ tb upto ++ (dig ln ++ R)) 0).2.1 (eyeTxt 64 (dig upto.size ++ tb upto ++ (dig ln ++ R)) 0).2.2) = _
    rw [eyeTxt_top (by omega) (by omega)]
    show opFin (⟨kn, key, upto, 0, ((eyeUp 4096 (dig ln ++ R) 0).1 : Int)⟩, (eyeUp 4096 (dig ln ++ R) 0).2) = _
    rw [eyeUp_dig (by omega) hln]
    exact opFin_good (o := ⟨kn, key, upto, 0, ln⟩) hp
theorem opRd_bad {o : OpD} (h : opB o = false) (R : List Nat) : opRd (opBytes o ++ R) 0 = (false, opZero, [], 10) := by
  rw [opBytes_bad h]
  unfold opRd
  have e := eyeUp_dig (n := 0) (top := 10) (by omega) (by omega) R
  rw [dig_small (by omega)] at e
  rw [e]
  show opFin ((⟨0, ⟨#[]⟩, ⟨#[]⟩, 0, 0⟩ : OpD), R, 0) = _
  exact opFin_bad (by decide +kernel)

end Go.Proofs.Ythbafbgnclpbpaa
