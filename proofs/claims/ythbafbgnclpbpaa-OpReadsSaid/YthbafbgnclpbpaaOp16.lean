/- What is read as an operation has just the bytes that it is written in: plain. -/
import Derived.Test.YthbafbgnclpbpaaOp15
import Derived.Test.YthbafbgnclpbpaaREye2
namespace Go.Proofs.Ythbafbgnclpbpaa
open Go.RowKit

theorem eyeUp_ok {top : Nat} {l : List Nat} {f : Int} (h : (eyeUp top l f).2.2 = 0) : f = 0 := Decidable.byContradiction fun hf => by
  rw [eyeUp_fault hf] at h
  exact hf h
theorem eyeTxt_ok {top : Int} {l : List Nat} {f : Int} (h : (eyeTxt top l f).2.2 = 0) : f = 0 := Decidable.byContradiction fun hf => by
  rw [eyeTxt_fault hf] at h
  exact hf h
theorem opFin_true {r : OpD × List Nat × Int} (h : (opFin r).1 = true) : r.2.2 = 0 ∧ opB r.1 = true ∧ opFin r = (true, r.1, r.2.1, 0) := by
  obtain ⟨o, l, f⟩ := r
  by_cases hf : f = 0
  · subst hf
    cases hB : opB o
    · rw [opFin_bad hB] at h; cases h
    · exact ⟨rfl, rfl, opFin_good hB⟩
  · rw [opFin_fault hf] at h; cases h
theorem opBytes_if {o : OpD} (h : opB o = true) : opBytes o = dig o.kind.toNat ++ ((if usesKey o.kind = true then dig o.key.size ++ tb o.key else []) ++ ((if usesTo o.kind = true then dig o.upto.size ++ tb o.upto else []) ++ ((if usesVal o.kind = true then dig o.val else []) ++ (if usesTo o.kind = true then dig o.limit.toNat else [])))) := if_pos h

theorem opRaw_fine {l : List Nat} {k : Nat} {l1 : List Nat} {f1 : Int} (hx : ∀ x ∈ l, x < 256) (hr : eyeUp 10 l 0 = (k, l1, f1)) (h1 : (raw0 (k, l1, f1)).2.2 = 0) (h2 : opB (raw0 (k, l1, f1)).1 = true) :
    l = opBytes (raw0 (k, l1, f1)).1 ++ (raw0 (k, l1, f1)).2.1 ∧ OpOk (raw0 (k, l1, f1)).1 ∧ (raw0 (k, l1, f1)).1.key.size ≤ 64 ∧ (raw0 (k, l1, f1)).1.upto.size ≤ 64 := by
  have hraw : raw0 (k, l1, f1) = raw1 (usesKey (k : Int)) (usesTo (k : Int)) (usesVal (k : Int)) k l1 f1 := rfl
  have hfine := fun (hf : f1 = 0) => eyeUp_fine (top := 10) hx (by rw [hr]; exact hf)
  rw [hr] at hfine
  simp only [] at hfine
  have hx1 := fun (hf : f1 = 0) (x : Nat) (hm : x ∈ l1) => hx x (by rw [(hfine hf).1]; exact List.mem_append_right _ hm)
  rw [hraw] at h1 h2 ⊢
  rcases uses_kinds (k : Int) with ⟨e1, e2, e3⟩ | ⟨e1, e2, e3⟩ | ⟨e1, e2, e3⟩ | ⟨e1, e2, e3⟩
  · rw [e1, e2, e3] at h1 h2 ⊢
    have hf1 : f1 = 0 := h1
    subst hf1
    have hf := hfine rfl
    refine ⟨?_, ⟨?_, Nat.zero_le _, Nat.zero_le _, (show (0 : Nat) < 18446744073709551616 by decide), (show -9223372036854775808 ≤ (0 : Int) ∧ (0 : Int) ≤ 9223372036854775807 by decide)⟩, Nat.zero_le _, Nat.zero_le _⟩
    · rw [opBytes_if h2]
      show l = (dig ((k : Int)).toNat ++ _) ++ l1
      rw [show (raw1 false false false k l1 0).1.kind = (k : Int) from rfl, e1, e2, e3, Int.toNat_natCast]
      simpa using hf.1
    · show -9223372036854775808 ≤ (k : Int) ∧ (k : Int) ≤ 9223372036854775807
      omega
  · rw [e1, e2, e3] at h1 h2 ⊢
    have h1' : (eyeTxt 64 l1 f1).2.2 = 0 := h1
    have hf1 := eyeTxt_ok h1'
    subst hf1
    have hf := hfine rfl
    have ht := eyeTxt_fine (hx1 rfl) h1'
    have hR : raw1 true false false k l1 0 = (⟨k, (eyeTxt 64 l1 0).1, ⟨#[]⟩, 0, 0⟩, (eyeTxt 64 l1 0).2.1, (eyeTxt 64 l1 0).2.2) := rfl
    rw [hR] at h2 ⊢
    generalize eyeTxt 64 l1 0 = q at ht h2 ⊢
    obtain ⟨t, l2, f2⟩ := q
    simp only [] at ht h2 ⊢
    refine ⟨?_, ⟨?_, ?_, Nat.zero_le _, (show (0 : Nat) < 18446744073709551616 by decide), (show -9223372036854775808 ≤ (0 : Int) ∧ (0 : Int) ≤ 9223372036854775807 by decide)⟩, by omega, Nat.zero_le _⟩
    · rw [opBytes_if h2]
      simp only [e1, e2, e3, Int.toNat_natCast]
      have h3 := hf.1
      rw [ht.1] at h3
      simpa using h3
    · show -9223372036854775808 ≤ (k : Int) ∧ (k : Int) ≤ 9223372036854775807
      omega
    · show t.size ≤ maxLen
      unfold maxLen
      omega
  · rw [e1, e2, e3] at h1 h2 ⊢
    have h1' : (eyeUp 18446744073709551615 (eyeTxt 64 l1 f1).2.1 (eyeTxt 64 l1 f1).2.2).2.2 = 0 := h1
    have h1t := eyeUp_ok h1'
    have hf1 := eyeTxt_ok h1t
    subst hf1
    have hf := hfine rfl
    have ht := eyeTxt_fine (hx1 rfl) h1t
    have hR : raw1 true false true k l1 0 = (⟨k, (eyeTxt 64 l1 0).1, ⟨#[]⟩, (eyeUp 18446744073709551615 (eyeTxt 64 l1 0).2.1 (eyeTxt 64 l1 0).2.2).1, 0⟩, (eyeUp 18446744073709551615 (eyeTxt 64 l1 0).2.1 (eyeTxt 64 l1 0).2.2).2) := rfl
    have hxt : ∀ x ∈ (eyeTxt 64 l1 0).2.1, x < 256 := fun x hm => hx1 rfl x (by rw [ht.1]; exact List.mem_append_right _ hm)
    rw [hR] at h2 ⊢
    generalize eyeTxt 64 l1 0 = q at ht h2 h1' h1t hxt ⊢
    obtain ⟨t, l2, f2⟩ := q
    simp only [] at ht h2 h1' h1t hxt ⊢
    subst h1t
    have hn := eyeUp_fine hxt h1'
    generalize eyeUp 18446744073709551615 l2 0 = q at hn h2 ⊢
    obtain ⟨v, l3, f3⟩ := q
    simp only [] at hn h2 ⊢
    refine ⟨?_, ⟨?_, ?_, Nat.zero_le _, hn.2.2, (show -9223372036854775808 ≤ (0 : Int) ∧ (0 : Int) ≤ 9223372036854775807 by decide)⟩, by omega, Nat.zero_le _⟩
    · rw [opBytes_if h2]
      simp only [e1, e2, e3, Int.toNat_natCast]
      have h3 := hf.1
      rw [ht.1, hn.1] at h3
      simpa using h3
    · show -9223372036854775808 ≤ (k : Int) ∧ (k : Int) ≤ 9223372036854775807
      omega
    · show t.size ≤ maxLen
      unfold maxLen
      omega
  · rw [e1, e2, e3] at h1 h2 ⊢
    have h1' : (eyeUp 4096 (eyeTxt 64 (eyeTxt 64 l1 f1).2.1 (eyeTxt 64 l1 f1).2.2).2.1 (eyeTxt 64 (eyeTxt 64 l1 f1).2.1 (eyeTxt 64 l1 f1).2.2).2.2).2.2 = 0 := h1
    have h1u := eyeUp_ok h1'
    have h1t := eyeTxt_ok h1u
    have hf1 := eyeTxt_ok h1t
    subst hf1
    have hf := hfine rfl
    have ht := eyeTxt_fine (hx1 rfl) h1t
    have hR : raw1 true true false k l1 0 = (⟨k, (eyeTxt 64 l1 0).1, (eyeTxt 64 (eyeTxt 64 l1 0).2.1 (eyeTxt 64 l1 0).2.2).1, 0, ((eyeUp 4096 (eyeTxt 64 (eyeTxt 64 l1 0).2.1 (eyeTxt 64 l1 0).2.2).2.1 (eyeTxt 64 (eyeTxt 64 l1 0).2.1 (eyeTxt 64 l1 0).2.2).2.2).1 : Int)⟩, (eyeUp 4096 (eyeTxt 64 (eyeTxt 64 l1 0).2.1 (eyeTxt 64 l1 0).2.2).2.1 (eyeTxt 64 (eyeTxt 64 l1 0).2.1 (eyeTxt 64 l1 0).2.2).2.2).2) := rfl
    have hxt : ∀ x ∈ (eyeTxt 64 l1 0).2.1, x < 256 := fun x hm => hx1 rfl x (by rw [ht.1]; exact List.mem_append_right _ hm)
    rw [hR] at h2 ⊢
    generalize eyeTxt 64 l1 0 = q at ht h2 h1' h1u h1t hxt ⊢
    obtain ⟨t, l2, f2⟩ := q
    simp only [] at ht h2 h1' h1u h1t hxt ⊢
    subst h1t
    have hu := eyeTxt_fine hxt h1u
    have hxu : ∀ x ∈ (eyeTxt 64 l2 0).2.1, x < 256 := fun x hm => hxt x (by rw [hu.1]; exact List.mem_append_right _ hm)
    generalize eyeTxt 64 l2 0 = q at hu h2 h1' h1u hxu ⊢
    obtain ⟨u, l3, f3⟩ := q
    simp only [] at hu h2 h1' h1u hxu ⊢
    subst h1u
    have hn := eyeUp_fine hxu h1'
    generalize eyeUp 4096 l3 0 = q at hn h2 ⊢
    obtain ⟨v, l4, f4⟩ := q
    simp only [] at hn h2 ⊢
    refine ⟨?_, ⟨?_, ?_, ?_, (show (0 : Nat) < 18446744073709551616 by decide), ?_⟩, by omega, by omega⟩
    · rw [opBytes_if h2]
      simp only [e1, e2, e3, Int.toNat_natCast]
      have h3 := hf.1
      rw [ht.1, hu.1, hn.1] at h3
      simpa using h3
    · show -9223372036854775808 ≤ (k : Int) ∧ (k : Int) ≤ 9223372036854775807
      omega
    · show t.size ≤ maxLen
      unfold maxLen
      omega
    · show u.size ≤ maxLen
      unfold maxLen
      omega
    · show -9223372036854775808 ≤ (v : Int) ∧ (v : Int) ≤ 9223372036854775807
      omega
theorem opRd_fine {l : List Nat} (hx : ∀ x ∈ l, x < 256) (h : (opRd l 0).1 = true) :
    opRd l 0 = (true, (opRd l 0).2.1, (opRd l 0).2.2.1, 0) ∧ l = opBytes (opRd l 0).2.1 ++ (opRd l 0).2.2.1 ∧ OpOk (opRd l 0).2.1 ∧ (opRd l 0).2.1.key.size ≤ 64 ∧ (opRd l 0).2.1.upto.size ≤ 64 := by
  have e : opRd l 0 = opFin (raw0 (eyeUp 10 l 0)) := rfl
  rw [e] at h ⊢
  obtain ⟨h1, h2, h3⟩ := opFin_true h
  rw [h3]
  refine ⟨rfl, ?_⟩
  generalize hr : eyeUp 10 l 0 = r at h1 h2 ⊢
  obtain ⟨k, l1, f1⟩ := r
  exact opRaw_fine hx hr h1 h2
theorem raw_sub (ku tu vu : Bool) (k : Nat) (l : List Nat) (f : Int) : ∃ j, (raw1 ku tu vu k l f).2.1 = l.drop j := by
  have n1 : ∀ (top : Nat) (u : Bool) (l : List Nat) (f : Int), ∃ j, (rdNum top u l f).2.1 = l.drop j := fun top u l f => by
    unfold rdNum
    split
    · exact eyeUp_sub top l f
    · exact ⟨0, rfl⟩
  have n2 : ∀ (u : Bool) (l : List Nat) (f : Int), ∃ j, (rdTxt u l f).2.1 = l.drop j := fun u l f => by
    unfold rdTxt
    split
    · exact eyeTxt_sub 64 l f
    · exact ⟨0, rfl⟩
  exact sub_trans (n2 ku l f) (sub_trans (n2 tu _ _) (sub_trans (n1 _ vu _ _) (n1 _ tu _ _)))
theorem opRd_sub (l : List Nat) (f : Int) : ∃ j, (opRd l f).2.2.1 = l.drop j := by
  have h := sub_trans (eyeUp_sub 10 l f) (raw_sub (usesKey ((eyeUp 10 l f).1 : Int)) (usesTo ((eyeUp 10 l f).1 : Int)) (usesVal ((eyeUp 10 l f).1 : Int)) (eyeUp 10 l f).1 (eyeUp 10 l f).2.1 (eyeUp 10 l f).2.2)
  have e : opRd l f = opFin (raw1 (usesKey ((eyeUp 10 l f).1 : Int)) (usesTo ((eyeUp 10 l f).1 : Int)) (usesVal ((eyeUp 10 l f).1 : Int)) (eyeUp 10 l f).1 (eyeUp 10 l f).2.1 (eyeUp 10 l f).2.2) := rfl
  rw [e]
  generalize raw1 _ _ _ _ _ _ = r at h ⊢
  obtain ⟨o, m, g⟩ := r
  by_cases hg : g = 0
  · subst hg
    cases hB : opB o
    · rw [opFin_bad hB]; exact ⟨l.length, by simp⟩
    · rw [opFin_good hB]; exact h
  · rw [opFin_fault hg]; exact h

end Go.Proofs.Ythbafbgnclpbpaa
