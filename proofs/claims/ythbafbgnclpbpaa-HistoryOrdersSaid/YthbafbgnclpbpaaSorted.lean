/- Contracts of package sorted: what looks into a row of texts. -/
import Derived.Test.YthbafbgnclpbpaaKey2
import Derived.Test.YthbafbgnclpbpaaPlSorted
namespace Go.Proofs.Ythbafbgnclpbpaa
open Go.RowKit

/-- All texts of a row are as long as a text may be. -/
def Fits (ss : List ByteArray) : Prop := ∀ (j : Nat) (hj : j < ss.length), ss[j].size ≤ maxLen


end Go.Proofs.Ythbafbgnclpbpaa
