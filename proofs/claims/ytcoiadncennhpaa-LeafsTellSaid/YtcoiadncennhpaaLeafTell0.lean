/- The plain law of LeafsTell. -/
import Derived.Test.YtcoiadncennhpaaLeafRef
namespace Go.Proofs.Ytcoiadncennhpaa
open Go.RowKit

theorem leaf_up {d : Nd} (h : leafB d = true) : Pl.UpM (Pl.zipP d.keys d.vals) := Pl.zipP_up (leaf_len h).2.1.symm (leaf_len h).2.2
theorem zip_kb {ks : List ByteArray} {vs : List Int} (h : vs.length = ks.length) (j : Nat) (hj : j < (Pl.zipP ks vs).length) : Pl.kb (Pl.zipP ks vs)[j] = Pl.tx ks j := by
  have hl := Pl.zipP_len h.symm
  rw [Pl.zipP_at j (by omega) (by omega) hj, Pl.tx_eq ks j (by omega)]
  rfl
theorem tell_next {d : Nd} (h : leafB d = true) (k : List UInt8) : Pl.nextM (Pl.zipP d.keys d.vals) k = atO (Pl.zipP d.keys d.vals) (Pl.overAt d.keys k : Nat) := by
  have hv := (leaf_len h).2.1
  have hl := Pl.zipP_len hv.symm
  have hs := Pl.overAt_spec (leaf_len h).2.2 k
  rw [Pl.nextM_row (leaf_up h) (List.Perm.refl _) k (Pl.overAt d.keys k) (fun j hj hlt => by
    rw [zip_kb hv]
    exact hs.1 j hlt) (fun j hj hle => by
    rw [zip_kb hv]
    exact hs.2 j hle (by omega))]
  unfold atO
  rw [if_pos (by omega), Int.toNat_natCast]
theorem tell_prev {d : Nd} (h : leafB d = true) (k : List UInt8) : Pl.prevM (Pl.zipP d.keys d.vals) k false = atO (Pl.zipP d.keys d.vals) ((Pl.findAt d.keys k : Nat) - 1 : Int) := by
  have hv := (leaf_len h).2.1
  have hl := Pl.zipP_len hv.symm
  have hs := Pl.findAt_spec (leaf_len h).2.2 k
  rw [Pl.prevM_row (leaf_up h) (List.Perm.refl _) k (Pl.findAt d.keys k) (by rw [hl]; exact Pl.findAt_le _ _) (fun j hj hlt => by
    rw [zip_kb hv]
    exact hs.1 j hlt) (fun j hj hle => by
    rw [zip_kb hv]
    exact hs.2 j hle (by omega))]
  unfold atO
  by_cases h0 : Pl.findAt d.keys k = 0
  · rw [if_pos h0, if_neg (by omega)]
  · rw [if_neg h0, if_pos (by omega)]
    congr 1
    omega
theorem tell_last {d : Nd} (h : leafB d = true) (k : List UInt8) : Pl.prevM (Pl.zipP d.keys d.vals) k true = atO (Pl.zipP d.keys d.vals) ((d.keys.length : Nat) - 1 : Int) := by
  have hv := (leaf_len h).2.1
  have hl := Pl.zipP_len hv.symm
  rw [Pl.prevM_all (leaf_up h) (List.Perm.refl _) k]
  unfold atO
  by_cases h0 : (Pl.zipP d.keys d.vals).length = 0
  · rw [if_pos h0, if_neg (by omega)]
  · rw [if_neg h0, if_pos (by omega)]
    congr 1
    omega
theorem tell_all {d : Nd} (h : leafB d = true) : Pl.allM (Pl.zipP d.keys d.vals) (Pl.zipP d.keys d.vals).length = Pl.zipP d.keys d.vals := Pl.allM_all (leaf_up h) (List.Perm.refl _)

end Go.Proofs.Ytcoiadncennhpaa
