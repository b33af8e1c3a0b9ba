/- The example of chapter 11. -/
import Derived.Test.YtcoiadncennhpaaLeafCut
namespace Go.Proofs.Ytcoiadncennhpaa
open Go.RowKit

def exN (n : Nat) : Nd := ⟨0, ByteArray.empty, ByteArray.empty, true, -1, (([⟨#[97]⟩, ⟨#[98]⟩, ⟨#[99]⟩, ⟨#[100]⟩] : List ByteArray).take n), ([1, 1, 1, 1] : List Int).take n, []⟩
def exK (n : Nat) : ByteArray := (([⟨#[97]⟩, ⟨#[98]⟩, ⟨#[99]⟩, ⟨#[100]⟩] : List ByteArray)).getD n ByteArray.empty
def exM : Nd := ⟨0, ByteArray.empty, ByteArray.empty, true, -1, [⟨#[97]⟩, ⟨#[98]⟩, ⟨#[99]⟩, ⟨#[100]⟩], [1, 7, 1, 1], []⟩
theorem ex_0 : withD (exN 0) (exK 0) 1 4 = (true, exN 1) := by kernel_rfl
theorem ex_1 : withD (exN 1) (exK 1) 1 4 = (true, exN 2) := by kernel_rfl
theorem ex_2 : withD (exN 2) (exK 2) 1 4 = (true, exN 3) := by kernel_rfl
theorem ex_3 : withD (exN 3) (exK 3) 1 4 = (true, exN 4) := by kernel_rfl
theorem ex_e : withD (exN 4) ⟨#[101]⟩ 1 4 = (false, zeroN) := by kernel_rfl
theorem ex_b : withD (exN 4) ⟨#[98]⟩ 7 4 = (true, exM) := by kernel_rfl
theorem ex_step (n : Nat) (h : n < 4) : withD (exN n) (exK n) 1 4 = (true, exN (n + 1)) := by
  match n, h with
  | 0, _ => exact ex_0
  | 1, _ => exact ex_1
  | 2, _ => exact ex_2
  | 3, _ => exact ex_3

end Go.Proofs.Ytcoiadncennhpaa
