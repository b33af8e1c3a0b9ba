/-
  No cell of these rows narrows 'for every input' (looked for: loops, veiled, ifaces, maps, wideKeys, modest, calm, conditions, laid).
  DERIVED. THE GIVEN ROWS OF THIS SEAT. 11 by the template 'for every input the law returns true; each argument reads behind the call as it read before'; 0 by the template 'total and deterministic' (their statements: YtggjlnjpokdfpaaTotals.lean).
  GIVEN WITH THE SEED: the statements are not yours to turn. If you find one false, say at which input.
  Laid BY PROGRAM, IN A SANDBOX (cutbox-rows.mjs): the forced cells as the released guide's own fill.sh prints them over the translation 51fba4f8729cf14b… (all of the seat's roots in one cut). By AI agents, Wed Nov 11 2026. No macro, syntax, notation, axiom, sorry.
-/
import Derived.Test.YtggjlnjpokdfpaaChecked
import GoSem.Claim
import GoSem.ClaimJoined
import GoSem.ClaimMapViews
import Derived.JoinedTies
import Derived.KernelRfl
namespace Go.Proofs.Ytggjlnjpokdfpaa
/- THE CELL 'sum', in the pinned program and in every row, IS THE sha256 OF THE DUMP (.gsa) THAT YtggjlnjpokdfpaaProg.lean LOADS. Nothing in Lean hashes anything: it is a label: what it is worth is what the hold of that sum in a sandbox is worth. -/
noncomputable def Try.pinned : Pinned := { name := "ytggjlnjpokdfpaa", sum := "51fba4f8729cf14b30f747b13cb1576047ef7b50c428961b02b7f51d7447de0a", checked := Try.checked }
namespace Rows
def none {H : Type} : Left H := { results := [], args := [] }

/-- 'bowerlaw03.KeyCompares': WHATEVER THE INPUT: true; the input reads as it did. -/
def keyComparesSpec : ChangeSpec := { name := "keyCompares", fn := fun _ => fun
  | [d1, d2] => { results := [.lit (.bool true)], args := [d1, d2] }
  | _ => none }
def keyComparesRow : OpenClaim := { program := "ytggjlnjpokdfpaa", sum := "51fba4f8729cf14b30f747b13cb1576047ef7b50c428961b02b7f51d7447de0a", func := "bower/bowerlaw03.KeyCompares", spec := "keyCompares", unfollowed := true, recurses := true, apart := false }
def KeyComparesSaid : Prop := keyComparesRow.holds Try.pinned (OpenSpec.ofChange keyComparesSpec)

/-- ITS FALSE NEIGHBOUR: 'it returns false'. Refute it at one input. -/
def keyComparesWrong : ChangeSpec := { name := "keyCompares", fn := fun _ => fun
  | [d1, d2] => { results := [.lit (.bool false)], args := [d1, d2] }
  | _ => none }
def KeyComparesWrongFalsely : Prop := keyComparesRow.holds Try.pinned (OpenSpec.ofChange keyComparesWrong)

/-- 'bowerlaw03.KeyOrders': WHATEVER THE INPUT: true; the input reads as it did. -/
def keyOrdersSpec : ChangeSpec := { name := "keyOrders", fn := fun _ => fun
  | [d1, d2, d3] => { results := [.lit (.bool true)], args := [d1, d2, d3] }
  | _ => none }
def keyOrdersRow : OpenClaim := { program := "ytggjlnjpokdfpaa", sum := "51fba4f8729cf14b30f747b13cb1576047ef7b50c428961b02b7f51d7447de0a", func := "bower/bowerlaw03.KeyOrders", spec := "keyOrders", unfollowed := true, recurses := true, apart := false }
def KeyOrdersSaid : Prop := keyOrdersRow.holds Try.pinned (OpenSpec.ofChange keyOrdersSpec)

/-- ITS FALSE NEIGHBOUR: 'it returns false'. Refute it at one input. -/
def keyOrdersWrong : ChangeSpec := { name := "keyOrders", fn := fun _ => fun
  | [d1, d2, d3] => { results := [.lit (.bool false)], args := [d1, d2, d3] }
  | _ => none }
def KeyOrdersWrongFalsely : Prop := keyOrdersRow.holds Try.pinned (OpenSpec.ofChange keyOrdersWrong)

/-- 'bowerlaw03.KeyParts': WHATEVER THE INPUT: true; the input reads as it did. -/
def keyPartsSpec : ChangeSpec := { name := "keyParts", fn := fun _ => fun
  | [d1, d2, d3] => { results := [.lit (.bool true)], args := [d1, d2, d3] }
  | _ => none }
def keyPartsRow : OpenClaim := { program := "ytggjlnjpokdfpaa", sum := "51fba4f8729cf14b30f747b13cb1576047ef7b50c428961b02b7f51d7447de0a", func := "bower/bowerlaw03.KeyParts", spec := "keyParts", unfollowed := true, recurses := true, apart := false }
def KeyPartsSaid : Prop := keyPartsRow.holds Try.pinned (OpenSpec.ofChange keyPartsSpec)

/-- ITS FALSE NEIGHBOUR: 'it returns false'. Refute it at one input. -/
def keyPartsWrong : ChangeSpec := { name := "keyParts", fn := fun _ => fun
  | [d1, d2, d3] => { results := [.lit (.bool false)], args := [d1, d2, d3] }
  | _ => none }
def KeyPartsWrongFalsely : Prop := keyPartsRow.holds Try.pinned (OpenSpec.ofChange keyPartsWrong)

/-- 'bowerlaw03.KeyLies': WHATEVER THE INPUT: true; the input reads as it did. -/
def keyLiesSpec : ChangeSpec := { name := "keyLies", fn := fun _ => fun
  | [d1, d2, d3, d4, d5] => { results := [.lit (.bool true)], args := [d1, d2, d3, d4, d5] }
  | _ => none }
def keyLiesRow : OpenClaim := { program := "ytggjlnjpokdfpaa", sum := "51fba4f8729cf14b30f747b13cb1576047ef7b50c428961b02b7f51d7447de0a", func := "bower/bowerlaw03.KeyLies", spec := "keyLies", unfollowed := true, recurses := true, apart := false }
def KeyLiesSaid : Prop := keyLiesRow.holds Try.pinned (OpenSpec.ofChange keyLiesSpec)

/-- ITS FALSE NEIGHBOUR: 'it returns false'. Refute it at one input. -/
def keyLiesWrong : ChangeSpec := { name := "keyLies", fn := fun _ => fun
  | [d1, d2, d3, d4, d5] => { results := [.lit (.bool false)], args := [d1, d2, d3, d4, d5] }
  | _ => none }
def KeyLiesWrongFalsely : Prop := keyLiesRow.holds Try.pinned (OpenSpec.ofChange keyLiesWrong)

/-- 'bowerlaw04.SortedStays': WHATEVER THE INPUT: true; the input reads as it did. -/
def sortedStaysSpec : ChangeSpec := { name := "sortedStays", fn := fun _ => fun
  | [d1, d2, d3, d4] => { results := [.lit (.bool true)], args := [d1, d2, d3, d4] }
  | _ => none }
def sortedStaysRow : OpenClaim := { program := "ytggjlnjpokdfpaa", sum := "51fba4f8729cf14b30f747b13cb1576047ef7b50c428961b02b7f51d7447de0a", func := "bower/bowerlaw04.SortedStays", spec := "sortedStays", unfollowed := true, recurses := true, apart := false }
def SortedStaysSaid : Prop := sortedStaysRow.holds Try.pinned (OpenSpec.ofChange sortedStaysSpec)

/-- ITS FALSE NEIGHBOUR: 'it returns false'. Refute it at one input. -/
def sortedStaysWrong : ChangeSpec := { name := "sortedStays", fn := fun _ => fun
  | [d1, d2, d3, d4] => { results := [.lit (.bool false)], args := [d1, d2, d3, d4] }
  | _ => none }
def SortedStaysWrongFalsely : Prop := sortedStaysRow.holds Try.pinned (OpenSpec.ofChange sortedStaysWrong)

/-- 'bowerlaw04.SortedRows': WHATEVER THE INPUT: true; the input reads as it did. -/
def sortedRowsSpec : ChangeSpec := { name := "sortedRows", fn := fun _ => fun
  | [d1, d2, d3, d4] => { results := [.lit (.bool true)], args := [d1, d2, d3, d4] }
  | _ => none }
def sortedRowsRow : OpenClaim := { program := "ytggjlnjpokdfpaa", sum := "51fba4f8729cf14b30f747b13cb1576047ef7b50c428961b02b7f51d7447de0a", func := "bower/bowerlaw04.SortedRows", spec := "sortedRows", unfollowed := true, recurses := true, apart := false }
def SortedRowsSaid : Prop := sortedRowsRow.holds Try.pinned (OpenSpec.ofChange sortedRowsSpec)

/-- ITS FALSE NEIGHBOUR: 'it returns false'. Refute it at one input. -/
def sortedRowsWrong : ChangeSpec := { name := "sortedRows", fn := fun _ => fun
  | [d1, d2, d3, d4] => { results := [.lit (.bool false)], args := [d1, d2, d3, d4] }
  | _ => none }
def SortedRowsWrongFalsely : Prop := sortedRowsRow.holds Try.pinned (OpenSpec.ofChange sortedRowsWrong)

/-- 'bowerlaw04.SortedApart': WHATEVER THE INPUT: true; the input reads as it did. -/
def sortedApartSpec : ChangeSpec := { name := "sortedApart", fn := fun _ => fun
  | [d1, d2, d3] => { results := [.lit (.bool true)], args := [d1, d2, d3] }
  | _ => none }
def sortedApartRow : OpenClaim := { program := "ytggjlnjpokdfpaa", sum := "51fba4f8729cf14b30f747b13cb1576047ef7b50c428961b02b7f51d7447de0a", func := "bower/bowerlaw04.SortedApart", spec := "sortedApart", unfollowed := true, recurses := true, apart := false }
def SortedApartSaid : Prop := sortedApartRow.holds Try.pinned (OpenSpec.ofChange sortedApartSpec)

/-- ITS FALSE NEIGHBOUR: 'it returns false'. Refute it at one input. -/
def sortedApartWrong : ChangeSpec := { name := "sortedApart", fn := fun _ => fun
  | [d1, d2, d3] => { results := [.lit (.bool false)], args := [d1, d2, d3] }
  | _ => none }
def SortedApartWrongFalsely : Prop := sortedApartRow.holds Try.pinned (OpenSpec.ofChange sortedApartWrong)

/-- 'bowerlaw06.PairsLast': WHATEVER THE INPUT: true; the input reads as it did. -/
def pairsLastSpec : ChangeSpec := { name := "pairsLast", fn := fun _ => fun
  | [d] => { results := [.lit (.bool true)], args := [d] }
  | _ => none }
def pairsLastRow : OpenClaim := { program := "ytggjlnjpokdfpaa", sum := "51fba4f8729cf14b30f747b13cb1576047ef7b50c428961b02b7f51d7447de0a", func := "bower/bowerlaw06.PairsLast", spec := "pairsLast", unfollowed := true, recurses := true, apart := false }
def PairsLastSaid : Prop := pairsLastRow.holds Try.pinned (OpenSpec.ofChange pairsLastSpec)

/-- ITS FALSE NEIGHBOUR: 'it returns false'. Refute it at one input. -/
def pairsLastWrong : ChangeSpec := { name := "pairsLast", fn := fun _ => fun
  | [d] => { results := [.lit (.bool false)], args := [d] }
  | _ => none }
def PairsLastWrongFalsely : Prop := pairsLastRow.holds Try.pinned (OpenSpec.ofChange pairsLastWrong)

/-- 'bowerlaw06.PairsApart': WHATEVER THE INPUT: true; the input reads as it did. -/
def pairsApartSpec : ChangeSpec := { name := "pairsApart", fn := fun _ => fun
  | [d1, d2] => { results := [.lit (.bool true)], args := [d1, d2] }
  | _ => none }
def pairsApartRow : OpenClaim := { program := "ytggjlnjpokdfpaa", sum := "51fba4f8729cf14b30f747b13cb1576047ef7b50c428961b02b7f51d7447de0a", func := "bower/bowerlaw06.PairsApart", spec := "pairsApart", unfollowed := true, recurses := true, apart := false }
def PairsApartSaid : Prop := pairsApartRow.holds Try.pinned (OpenSpec.ofChange pairsApartSpec)

/-- ITS FALSE NEIGHBOUR: 'it returns false'. Refute it at one input. -/
def pairsApartWrong : ChangeSpec := { name := "pairsApart", fn := fun _ => fun
  | [d1, d2] => { results := [.lit (.bool false)], args := [d1, d2] }
  | _ => none }
def PairsApartWrongFalsely : Prop := pairsApartRow.holds Try.pinned (OpenSpec.ofChange pairsApartWrong)

/-- 'bowerlaw18.BookPlays': WHATEVER THE INPUT: true; the input reads as it did. -/
def bookPlaysSpec : ChangeSpec := { name := "bookPlays", fn := fun _ => fun
  | [d] => { results := [.lit (.bool true)], args := [d] }
  | _ => none }
def bookPlaysRow : OpenClaim := { program := "ytggjlnjpokdfpaa", sum := "51fba4f8729cf14b30f747b13cb1576047ef7b50c428961b02b7f51d7447de0a", func := "bower/bowerlaw18.BookPlays", spec := "bookPlays", unfollowed := true, recurses := true, apart := false }
def BookPlaysSaid : Prop := bookPlaysRow.holds Try.pinned (OpenSpec.ofChange bookPlaysSpec)

/-- ITS FALSE NEIGHBOUR: 'it returns false'. Refute it at one input. -/
def bookPlaysWrong : ChangeSpec := { name := "bookPlays", fn := fun _ => fun
  | [d] => { results := [.lit (.bool false)], args := [d] }
  | _ => none }
def BookPlaysWrongFalsely : Prop := bookPlaysRow.holds Try.pinned (OpenSpec.ofChange bookPlaysWrong)

/-- 'bowerlaw18.BookTurns': WHATEVER THE INPUT: true; the input reads as it did. -/
def bookTurnsSpec : ChangeSpec := { name := "bookTurns", fn := fun _ => fun
  | [d1, d2] => { results := [.lit (.bool true)], args := [d1, d2] }
  | _ => none }
def bookTurnsRow : OpenClaim := { program := "ytggjlnjpokdfpaa", sum := "51fba4f8729cf14b30f747b13cb1576047ef7b50c428961b02b7f51d7447de0a", func := "bower/bowerlaw18.BookTurns", spec := "bookTurns", unfollowed := true, recurses := true, apart := false }
def BookTurnsSaid : Prop := bookTurnsRow.holds Try.pinned (OpenSpec.ofChange bookTurnsSpec)

/-- ITS FALSE NEIGHBOUR: 'it returns false'. Refute it at one input. -/
def bookTurnsWrong : ChangeSpec := { name := "bookTurns", fn := fun _ => fun
  | [d1, d2] => { results := [.lit (.bool false)], args := [d1, d2] }
  | _ => none }
def BookTurnsWrongFalsely : Prop := bookTurnsRow.holds Try.pinned (OpenSpec.ofChange bookTurnsWrong)

/- THE SECOND FORM. 'bulk': how many values and letters a reading holds, each counted each time it is reached (what is shared counts as often as it is met; a slice's spare places count too). A statement '..UptoSaid' is the law's where the arguments, and the package variables that the reading takes, are together of bulk at most 1048576: NARROWER than '..Said'. Prove '..Said' where nothing that the law and all that it calls make is longer than what came in: it says more and counts as full. Else prove '..UptoSaid'. A law counts once. -/
mutual
def uptoBulk {H : Type} : DataW H → Nat
  | .lit (.string bytes) => bytes.length + 1
  | .lit _ => 1
  | .nil => 1
  | .ptr d => uptoBulk d + 1
  | .slice elems spare => uptoBulkAll elems + uptoBulkAll spare + 1
  | .agg parts => uptoBulkAll parts + 1
  | .iface _ d => uptoBulk d + 1
  | .map entries => uptoBulkEntries entries + 1
  | .held _ => 1
def uptoBulkAll {H : Type} : List (DataW H) → Nat
  | [] => 0
  | d :: r => uptoBulk d + uptoBulkAll r
def uptoBulkEntries {H : Type} : List (Lit × DataW H) → Nat
  | [] => 0
  | x :: r => uptoBulkEntry x + uptoBulkEntries r
def uptoBulkEntry {H : Type} : Lit × DataW H → Nat
  | (.string bytes, d) => bytes.length + uptoBulk d + 1
  | (_, d) => uptoBulk d + 1
 end
def uptoSmall : (H : Type) → List (DataW H) → Bool := fun _ ds => decide (uptoBulkAll ds ≤ 1048576)
def OpenSpec.upto (s : _root_.Go.ChangeSpec) : _root_.Go.OpenSpec := { _root_.Go.OpenSpec.ofChange s with cond := some uptoSmall }

/-- 'bowerlaw03.KeyCompares', WHERE WHAT IT READS IS OF BULK AT MOST 1048576: true; the input reads as it did. -/
def keyComparesUptoRow : OpenClaim := { program := "ytggjlnjpokdfpaa", sum := "51fba4f8729cf14b30f747b13cb1576047ef7b50c428961b02b7f51d7447de0a", func := "bower/bowerlaw03.KeyCompares", spec := "keyCompares", unfollowed := true, recurses := true, apart := false, narrowed := true }
def KeyComparesUptoSaid : Prop := keyComparesUptoRow.holds Try.pinned (OpenSpec.upto keyComparesSpec)

/-- 'bowerlaw03.KeyOrders', WHERE WHAT IT READS IS OF BULK AT MOST 1048576: true; the input reads as it did. -/
def keyOrdersUptoRow : OpenClaim := { program := "ytggjlnjpokdfpaa", sum := "51fba4f8729cf14b30f747b13cb1576047ef7b50c428961b02b7f51d7447de0a", func := "bower/bowerlaw03.KeyOrders", spec := "keyOrders", unfollowed := true, recurses := true, apart := false, narrowed := true }
def KeyOrdersUptoSaid : Prop := keyOrdersUptoRow.holds Try.pinned (OpenSpec.upto keyOrdersSpec)

/-- 'bowerlaw03.KeyParts', WHERE WHAT IT READS IS OF BULK AT MOST 1048576: true; the input reads as it did. -/
def keyPartsUptoRow : OpenClaim := { program := "ytggjlnjpokdfpaa", sum := "51fba4f8729cf14b30f747b13cb1576047ef7b50c428961b02b7f51d7447de0a", func := "bower/bowerlaw03.KeyParts", spec := "keyParts", unfollowed := true, recurses := true, apart := false, narrowed := true }
def KeyPartsUptoSaid : Prop := keyPartsUptoRow.holds Try.pinned (OpenSpec.upto keyPartsSpec)

/-- 'bowerlaw03.KeyLies', WHERE WHAT IT READS IS OF BULK AT MOST 1048576: true; the input reads as it did. -/
def keyLiesUptoRow : OpenClaim := { program := "ytggjlnjpokdfpaa", sum := "51fba4f8729cf14b30f747b13cb1576047ef7b50c428961b02b7f51d7447de0a", func := "bower/bowerlaw03.KeyLies", spec := "keyLies", unfollowed := true, recurses := true, apart := false, narrowed := true }
def KeyLiesUptoSaid : Prop := keyLiesUptoRow.holds Try.pinned (OpenSpec.upto keyLiesSpec)

/-- 'bowerlaw04.SortedStays', WHERE WHAT IT READS IS OF BULK AT MOST 1048576: true; the input reads as it did. -/
def sortedStaysUptoRow : OpenClaim := { program := "ytggjlnjpokdfpaa", sum := "51fba4f8729cf14b30f747b13cb1576047ef7b50c428961b02b7f51d7447de0a", func := "bower/bowerlaw04.SortedStays", spec := "sortedStays", unfollowed := true, recurses := true, apart := false, narrowed := true }
def SortedStaysUptoSaid : Prop := sortedStaysUptoRow.holds Try.pinned (OpenSpec.upto sortedStaysSpec)

/-- 'bowerlaw04.SortedRows', WHERE WHAT IT READS IS OF BULK AT MOST 1048576: true; the input reads as it did. -/
def sortedRowsUptoRow : OpenClaim := { program := "ytggjlnjpokdfpaa", sum := "51fba4f8729cf14b30f747b13cb1576047ef7b50c428961b02b7f51d7447de0a", func := "bower/bowerlaw04.SortedRows", spec := "sortedRows", unfollowed := true, recurses := true, apart := false, narrowed := true }
def SortedRowsUptoSaid : Prop := sortedRowsUptoRow.holds Try.pinned (OpenSpec.upto sortedRowsSpec)

/-- 'bowerlaw04.SortedApart', WHERE WHAT IT READS IS OF BULK AT MOST 1048576: true; the input reads as it did. -/
def sortedApartUptoRow : OpenClaim := { program := "ytggjlnjpokdfpaa", sum := "51fba4f8729cf14b30f747b13cb1576047ef7b50c428961b02b7f51d7447de0a", func := "bower/bowerlaw04.SortedApart", spec := "sortedApart", unfollowed := true, recurses := true, apart := false, narrowed := true }
def SortedApartUptoSaid : Prop := sortedApartUptoRow.holds Try.pinned (OpenSpec.upto sortedApartSpec)

/-- 'bowerlaw06.PairsLast', WHERE WHAT IT READS IS OF BULK AT MOST 1048576: true; the input reads as it did. -/
def pairsLastUptoRow : OpenClaim := { program := "ytggjlnjpokdfpaa", sum := "51fba4f8729cf14b30f747b13cb1576047ef7b50c428961b02b7f51d7447de0a", func := "bower/bowerlaw06.PairsLast", spec := "pairsLast", unfollowed := true, recurses := true, apart := false, narrowed := true }
def PairsLastUptoSaid : Prop := pairsLastUptoRow.holds Try.pinned (OpenSpec.upto pairsLastSpec)

/-- 'bowerlaw06.PairsApart', WHERE WHAT IT READS IS OF BULK AT MOST 1048576: true; the input reads as it did. -/
def pairsApartUptoRow : OpenClaim := { program := "ytggjlnjpokdfpaa", sum := "51fba4f8729cf14b30f747b13cb1576047ef7b50c428961b02b7f51d7447de0a", func := "bower/bowerlaw06.PairsApart", spec := "pairsApart", unfollowed := true, recurses := true, apart := false, narrowed := true }
def PairsApartUptoSaid : Prop := pairsApartUptoRow.holds Try.pinned (OpenSpec.upto pairsApartSpec)

/-- 'bowerlaw18.BookPlays', WHERE WHAT IT READS IS OF BULK AT MOST 1048576: true; the input reads as it did. -/
def bookPlaysUptoRow : OpenClaim := { program := "ytggjlnjpokdfpaa", sum := "51fba4f8729cf14b30f747b13cb1576047ef7b50c428961b02b7f51d7447de0a", func := "bower/bowerlaw18.BookPlays", spec := "bookPlays", unfollowed := true, recurses := true, apart := false, narrowed := true }
def BookPlaysUptoSaid : Prop := bookPlaysUptoRow.holds Try.pinned (OpenSpec.upto bookPlaysSpec)

/-- 'bowerlaw18.BookTurns', WHERE WHAT IT READS IS OF BULK AT MOST 1048576: true; the input reads as it did. -/
def bookTurnsUptoRow : OpenClaim := { program := "ytggjlnjpokdfpaa", sum := "51fba4f8729cf14b30f747b13cb1576047ef7b50c428961b02b7f51d7447de0a", func := "bower/bowerlaw18.BookTurns", spec := "bookTurns", unfollowed := true, recurses := true, apart := false, narrowed := true }
def BookTurnsUptoSaid : Prop := bookTurnsUptoRow.holds Try.pinned (OpenSpec.upto bookTurnsSpec)

end Rows
end Go.Proofs.Ytggjlnjpokdfpaa
