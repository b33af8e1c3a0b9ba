/- What is read is just what it was written in: plain. -/
import Derived.Test.YthbafbgnclpbpaaSipA
namespace Go.Proofs.Ythbafbgnclpbpaa
open Go.RowKit

theorem eyeUp_fine {top : Nat} {l : List Nat} (hx : ∀ x ∈ l, x < 256) (h : (eyeUp top l 0).2.2 = 0) : l = dig (eyeUp top l 0).1 ++ (eyeUp top l 0).2.1 ∧ (eyeUp top l 0).1 ≤ top ∧ (eyeUp top l 0).1 < 18446744073709551616 := by
  cases hs : scan 0 0 l with
  | short => simp [eyeUp, eyeDig, hs] at h
  | bad => simp [eyeUp, eyeDig, hs] at h
  | got n k =>
    obtain ⟨h1, h2, h3, h4⟩ := scan_got hx hs
    by_cases ht : top < n
    · simp [eyeUp, eyeDig, hs, ht] at h
    · have e : eyeUp top l 0 = (n, l.drop k, 0) := by simp [eyeUp, eyeDig, hs, ht]
      rw [e]
      exact ⟨by rw [← h2, List.take_append_drop], Nat.not_lt.1 ht, h1⟩
theorem tb_bstr {m : List Nat} (h : ∀ x ∈ m, x < 256) : tb (bstr m) = m := by
  unfold tb bstr
  rw [List.map_map]
  calc m.map _ = m.map id := List.map_congr_left fun x hx => by simp; exact h x hx
    _ = m := List.map_id m
theorem bstr_size (m : List Nat) : (bstr m).size = m.length := by simp [bstr, ByteArray.size]
theorem eyeTxt_fine {top : Int} {l : List Nat} (hx : ∀ x ∈ l, x < 256) (h : (eyeTxt top l 0).2.2 = 0) : l = dig (eyeTxt top l 0).1.size ++ tb (eyeTxt top l 0).1 ++ (eyeTxt top l 0).2.1 ∧ ((eyeTxt top l 0).1.size : Int) ≤ top := by
  by_cases h0 : top < 0
  · simp [eyeTxt, h0, wrongF] at h
  · by_cases h1 : (eyeUp top.toNat l 0).2.1.length < (eyeUp top.toNat l 0).1
    · have e : eyeTxt top l 0 = (ByteArray.empty, wrongL (eyeUp top.toNat l 0).2.1 (eyeUp top.toNat l 0).2.2, wrongF (eyeUp top.toNat l 0).2.2 11) := by rw [eyeTxt, if_neg h0, if_pos h1]
      rw [e] at h
      unfold wrongF at h
      split at h
      · cases h
      · rename_i hne; exact absurd h hne
    · have e : eyeTxt top l 0 = (bstr ((eyeUp top.toNat l 0).2.1.take (eyeUp top.toNat l 0).1), (eyeUp top.toNat l 0).2.1.drop (eyeUp top.toNat l 0).1, (eyeUp top.toNat l 0).2.2) := by rw [eyeTxt, if_neg h0, if_neg h1]
      rw [e] at h ⊢
      obtain ⟨e1, e2, e3⟩ := eyeUp_fine hx h
      have hlen : ((eyeUp top.toNat l 0).2.1.take (eyeUp top.toNat l 0).1).length = (eyeUp top.toNat l 0).1 := by rw [List.length_take]; omega
      have hlt : ∀ x ∈ (eyeUp top.toNat l 0).2.1.take (eyeUp top.toNat l 0).1, x < 256 := fun x hm => hx x (by rw [e1]; exact List.mem_append_right _ (List.mem_of_mem_take hm))
      simp only []
      rw [bstr_size, hlen, tb_bstr hlt, List.append_assoc, List.take_append_drop]
      exact ⟨e1, by omega⟩

theorem srcOf_lt {w : World} {A : Option Addr} {l : List Nat} (h : Rd w w.heap.size 1 A l.length (u8s l)) : ∀ b, srcOf A l = some b → b < w.heap.size := by
  intro b hb
  unfold srcOf at hb
  split at hb
  · cases hb
  · obtain ⟨b', off, rfl, hlt, _⟩ := h.2 (by omega)
    simp at hb
    omega
theorem rd_first {w : World} {A : Option Addr} {l D rest : List Nat} (h : Rd w w.heap.size 1 A l.length (u8s l)) (e : l = D ++ rest) : Rd w w.heap.size 1 A D.length (u8s D) := by
  have h1 := h.first (k := D.length) (by rw [e, List.length_append]; omega)
  have e2 : (u8s l).take (D.length * 1) = u8s D := by rw [e, u8s_append, Nat.mul_one, List.take_left' (u8s_length D)]
  rw [e2] at h1
  exact h1

end Go.Proofs.Ythbafbgnclpbpaa
