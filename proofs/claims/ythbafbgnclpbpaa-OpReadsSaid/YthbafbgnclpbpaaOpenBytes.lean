/- What the row's step hands over of bytes. No walk. -/
import Derived.Test.YthbafbgnclpbpaaProg
import Derived.Test.YthbafbgnclpbpaaOpen
import Derived.Test.YthbafbgnclpbpaaPlDig
namespace Go.Proofs.Ythbafbgnclpbpaa
open Go.ChangeShapes Go.WideShapes Go.ChangeAt Go.RowKit Go.Deep

set_option maxRecDepth 100000 in
theorem open_bytes {H : Type} {enc : TypeId × Value → H} {w : World} {base : Nat} {spare : Nat → Bool} {held : Bool} {r : Reach} {b0 : Nat} {v : Value} {d : DataW H} {p : List MemPlace}
    (hv : Value.okWide Try.prog w r b0 38 v) (h : DataW.Trod enc Try.prog w base spare held 38 v d p) :
    ∃ (A : Option Addr) (c : Nat) (l : List Nat), v = .slice A l.length c ∧ Rd w w.heap.size 1 A l.length (u8s l) ∧ (∀ x ∈ l, x < 256) ∧ l.length ≤ c ∧ l.length ≤ 9223372036854775807 := by
  obtain ⟨A, n, c, zs, rfl, hr, hz, hc, hn⟩ := open_nums Try.underlying38 Try.underlying5 (by kernel_rfl) hv h
  have hlen : zs.length = n := by have := hr.1; rw [List.length_map] at this; omega
  have hb : ∀ z ∈ zs, 0 ≤ z ∧ z < 256 := by
    intro z hzm
    have := hz z hzm
    simp [Lit.wf, IntKind.min, IntKind.max, IntKind.signed, IntKind.bits] at this
    omega
  have e : zs.map (Value.int .u8) = u8s (zs.map Int.toNat) := by
    unfold u8s
    rw [List.map_map]
    refine List.map_congr_left fun z hzm => ?_
    have := hb z hzm
    show Value.int .u8 z = .int .u8 ((z.toNat : Nat) : Int)
    rw [Int.toNat_of_nonneg this.1]
  refine ⟨A, c, zs.map Int.toNat, by rw [List.length_map, hlen], by rw [List.length_map, hlen, ← e]; exact hr, fun x hx => ?_, by rw [List.length_map, hlen]; exact hc, by rw [List.length_map, hlen]; exact hn⟩
  rw [List.mem_map] at hx
  obtain ⟨z, hzm, rfl⟩ := hx
  have := hb z hzm
  omega

end Go.Proofs.Ythbafbgnclpbpaa
