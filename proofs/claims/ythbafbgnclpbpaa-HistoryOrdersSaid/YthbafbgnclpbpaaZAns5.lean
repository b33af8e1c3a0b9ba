/- The example of chapter 17. -/
import Derived.Test.YthbafbgnclpbpaaZAns4
namespace Go.Proofs.Ythbafbgnclpbpaa
open Go.RowKit

def ans1 : AnsD := ⟨1, ⟨#[]⟩, 5, []⟩
theorem ans1_ok : AnsOk ans1 := ⟨by decide, by decide, by decide, by simp [ans1], by decide⟩
theorem lives17_light : lightA ans1 = true := by simp [lightA, ans1]; decide
theorem lives17_snd : sndA ans1 = true := by simp [sndA, ans1]; decide
theorem lives17_bytes : [] ++ ansBytes ans1 = [1, 0, 5, 0] := by
  unfold ansBytes
  rw [if_pos lives17_snd]
  decide +kernel
theorem lives17_text : bstr [1, 0, 5, 0] = ⟨#[1, 0, 5, 0]⟩ := by decide +kernel
theorem prs_nil (w : World) (A : Option Addr) : Prs w A 0 [] := ⟨rfl, fun h => absurd h (Nat.lt_irrefl 0)⟩

set_option maxRecDepth 100000 in
set_option maxHeartbeats 4000000 in
theorem lives17_any (w : World) : Calls Try.prog 16 #[] w (Ret (.bool true) w) := by
  have hp0 := pen_new w
  have hb0 := below_alloc w (.cells #[.slice none 0 0] 40)
  have hs : (w.alloc (.cells #[.slice none 0 0] 40)).heap.size = w.heap.size + 1 := by simp
  have H0 := Lib.hid (And.intro hp0 hb0)
  have HS := Lib.hid hs
  clear hp0 hb0 hs
  go_enter Try.func16, Try.ntmps16
  go_wp2_with fail
  generalize w.alloc (.cells #[.slice none 0 0] 40) = w1 at H0 HS ⊢
  refine (answrite_any w.heap.size none [] ans1 none 0 _ H0.out.1 (prs_nil _ _) (fun h => absurd h (by decide)) ans1_ok lives17_light (by decide)).mono ?_
  rintro e w2 ⟨rfl, r2, hrel⟩
  have K := PenRel.keeps H0.out.2 hrel H0.out.2.size (Nat.le_refl _) (by simp)
  rw [lives17_bytes] at hrel
  have H2 := Lib.hid (And.intro hrel.1 K.1)
  clear hrel K H0
  go_wp2_with fail
  refine (penbytes_any _ r2 _ _ H2.out.1 (by decide +kernel)).mono ?_
  rintro e w6 ⟨A, c, rfl, ho, hb6⟩
  have hcv : (convert 38 9 (.slice A 4 c)).run Try.prog w6 = .ok (.string ⟨#[1, 0, 5, 0]⟩) w6 := (made_conv ho).trans (by rw [lives17_text])
  have H6 := Lib.hid (below_of H2.out.2 hb6)
  clear ho hb6 H2
  go_wp2_with fail
  refine (ansof_any ⟨⟨#[]⟩, 0⟩ false _).mono ?_
  rintro e w7 ⟨rfl, hb7⟩
  have H7 := Lib.hid (below_of H6.out hb7)
  have e2 : ansCells (ofA ⟨⟨#[]⟩, 0⟩ false) none 0 = #[.int .i64 2, .string ⟨#[]⟩, .int .u64 0, .slice none 0 0] := rfl
  rw [e2]
  have hfd : ∀ w : World, (Instr.field 25 (.agg #[.int .i64 2, .string ⟨#[]⟩, .int .u64 0, .slice none 0 0]) 0).run Try.prog w = .ok (.int .i64 2) w := fun _ => by kernel_rfl
  clear hb7 hcv
  go_wp2_with fail
  refine (Calls.as_ (ansname_any 6 _) (show Value.string (aName 6) = .string ⟨#[115, 104, 111, 114, 116]⟩ from rfl)).mono ?_
  rintro e w8 ⟨rfl, hb8⟩
  have H8 := Lib.hid (below_of H7.out hb8)
  clear hb8
  go_wp2_with fail
  go_ret
  exact ⟨rfl, H8.out⟩

end Go.Proofs.Ythbafbgnclpbpaa
