/- The example of chapter 1. -/
import Derived.Test.YthbafbgnclpbpaaEye4
namespace Go.Proofs.Ythbafbgnclpbpaa
open Go.RowKit

theorem eyeUp_300 : eyeUp 300 [172, 2] 0 = (300, [], 0) := by decide +kernel

/-- A plain pen. -/
theorem pen_new (w : World) : PenAt (w.alloc (.cells #[.slice none 0 0] 40)) w.heap.size none [] := ⟨none, 0, rfl, heap_alloc_new w _, World.ownsRow_nil _ _ _ _, by simp⟩

theorem rd_new (w : World) (xs : List Value) (T : TypeId) : Rd (w.alloc (.cells xs.toArray T)) (w.alloc (.cells xs.toArray T)).heap.size 1 (some ⟨w.heap.size, 0, none⟩) xs.length xs :=
  Rd.new (heap_alloc_new w _)
theorem made_conv {w' : World} {A : Option Addr} {c n : Nat} {l : List Nat} {B : Nat} (h : w'.ownsRow B 5 1 (.slice A n c) n (u8s l)) : (convert 38 9 (.slice A n c)).run Try.prog w' = .ok (.string (bstr l)) w' := conv_any (Rd.of_own h)
theorem lives01_bytes : [] ++ List.flatMap dig [0, 300] ++ List.flatMap (fun z => dig (turn z)) [-1, 64] ++ (dig (⟨#[97, 98]⟩ : ByteArray).size ++ tb ⟨#[97, 98]⟩) = [0, 172, 2, 1, 128, 1, 2, 97, 98] := by decide +kernel
theorem lives01_text : bstr [0, 172, 2, 1, 128, 1, 2, 97, 98] = ⟨#[0, 172, 2, 1, 128, 1, 2, 97, 98]⟩ := by decide +kernel

set_option maxRecDepth 100000 in
set_option maxHeartbeats 2000000 in
theorem lives01_any (w : World) : Calls Try.prog 25 #[] w (Ret (.bool true) w) := by
  have hp0 := pen_new w
  have hb0 := below_alloc w (.cells #[.slice none 0 0] 40)
  have hz : w.heap.size ≤ (w.alloc (.cells #[.slice none 0 0] 40)).heap.size := by simp
  have hs : (w.alloc (.cells #[.slice none 0 0] 40)).heap.size = w.heap.size + 1 := by simp
  have H0 := Lib.hid (And.intro hp0 (And.intro hb0 hz))
  have HS := Lib.hid hs
  clear hp0 hb0 hz hs
  go_enter Try.func25, Try.ntmps25
  go_wp2_with fail
  generalize w.alloc (.cells #[.slice none 0 0] 40) = w1 at H0 HS ⊢
  rw [← HS.out]
  refine (pennum_any w.heap.size none [] [0, 300] w1.heap.size 2 _ (H0.out.1.below (below_alloc _ _)) (by intro n hn; simp at hn; omega) (told_new H0.out.1 (u64n [0, 300]) _) (by decide)).mono ?_
  rintro e w2 ⟨rfl, r2, hrel⟩
  have K := PenRel.keeps H0.out.2.1 (PenRel.of_below (below_alloc _ _) hrel) H0.out.2.2 (Nat.le_refl _) (by simp)
  have H2 := Lib.hid (And.intro hrel.1 (And.intro K.1 (And.intro K.2 K.1.size)))
  clear hrel K H0
  go_wp2_with fail
  refine (penint_any w.heap.size r2 _ [-1, 64] w2.heap.size 2 _ (H2.out.1.below (below_alloc _ _)) (by intro n hn; simp at hn; omega) (told_new H2.out.1 (i64s [-1, 64]) _) (by decide +kernel)).mono ?_
  rintro e w3 ⟨rfl, r3, hrel⟩
  have K := PenRel.keeps H2.out.2.1 (PenRel.of_below (below_alloc _ _) hrel) H2.out.2.2.2 (Nat.le_refl _) H2.out.2.2.1
  have H3 := Lib.hid (And.intro hrel.1 (And.intro K.1 (And.intro K.2 K.1.size)))
  clear hrel K H2
  go_wp2_with fail
  refine (pentext_any w.heap.size r3 _ ⟨#[97, 98]⟩ _ H3.out.1 (by decide +kernel)).mono ?_
  rintro e w4 ⟨rfl, r4, hrel⟩
  have K := PenRel.keeps H3.out.2.1 hrel H3.out.2.2.2 (Nat.le_refl _) H3.out.2.2.1
  have H4 := Lib.hid (And.intro hrel.1 (And.intro K.1 (And.intro K.2 K.1.size)))
  clear hrel K H3
  have h4 := H4.out
  rw [lives01_bytes] at h4
  replace H4 := Lib.hid h4
  clear h4
  go_wp2_with fail
  refine (eyelook_any (some ⟨w4.heap.size, 0, none⟩) 2 [172, 2] _ (rd_new w4 (u8s [172, 2]) _) (Nat.le_refl _)).mono ?_
  rintro e w5 ⟨rfl, hE, hb5⟩
  have hz : w4.heap.size < (w4.alloc (.cells (u8s [172, 2]).toArray 5)).heap.size := by simp
  have hb45 := below_of (below_alloc w4 (.cells (u8s [172, 2]).toArray 5)) hb5
  have H5 := Lib.hid (And.intro (H4.out.1.below hb45) (And.intro (below_of H4.out.2.1 hb45) (And.intro hE (Nat.lt_of_le_of_lt H4.out.2.2.2 hz))))
  generalize (w4.alloc (.cells (u8s [172, 2]).toArray 5)).heap.size = ep at H5 ⊢
  clear hz hb45 hE hb5 H4
  go_wp2_with fail
  refine (penbytes_any _ r4 _ _ H5.out.1 (by decide +kernel)).mono ?_
  rintro e w6 ⟨A, c, rfl, ho, hb6⟩
  have hcv : (convert 38 9 (.slice A 9 c)).run Try.prog w6 = .ok (.string ⟨#[0, 172, 2, 1, 128, 1, 2, 97, 98]⟩) w6 := (made_conv ho).trans (by rw [lives01_text])
  have H6 := Lib.hid (And.intro (H5.out.2.2.1.below hb6) (And.intro (below_of H5.out.2.1 hb6) H5.out.2.2.2))
  clear ho hb6 H5
  go_wp2_with fail
  refine (EyeTo.to (eyenum_any ep _ _ 0 300 _ H6.out.1 (by intro x hx; simp at hx; omega) (by decide)) (by rw [eyeUp_300]) (by rw [eyeUp_300]) (by rw [eyeUp_300])).mono ?_
  rintro e w7 ⟨rfl, hE, hO⟩
  have H7 := Lib.hid (And.intro hE (hO.below H6.out.2.1 H6.out.2.1.size (fun j hj e => by have := H6.out.2.2; omega)))
  clear hE hO H6 hcv
  go_wp2_with fail
  refine (eyeclose_any ep _ [] 0 _ H7.out.1 (by decide)).mono ?_
  rintro e w8 ⟨rfl, rfl⟩
  have hcl : eyeClose [] 0 = 0 := by decide
  rw [hcl]
  go_wp2_with fail
  go_ret
  exact ⟨rfl, H7.out.2⟩

end Go.Proofs.Ythbafbgnclpbpaa
