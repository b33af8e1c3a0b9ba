/-
  No cell of these rows narrows 'for every input' (looked for: loops, veiled, ifaces, maps, wideKeys, modest, calm, conditions, laid).
  DERIVED. THE GIVEN ROWS OF THIS SEAT. 12 by the template 'for every input the law returns true; each argument reads behind the call as it read before'; 0 by the template 'total and deterministic' (their statements: YtcoiadncennhpaaTotals.lean).
  GIVEN WITH THE SEED: the statements are not yours to turn. If you find one false, say at which input.
  Laid BY PROGRAM, IN A SANDBOX (cutbox-rows.mjs): the forced cells as the released guide's own fill.sh prints them over the translation ced518d00368a41f… (all of the seat's roots in one cut). By AI agents, Wed Nov 11 2026. No macro, syntax, notation, axiom, sorry.
-/
import Derived.Test.YtcoiadncennhpaaChecked
import GoSem.Claim
import GoSem.ClaimJoined
import GoSem.ClaimMapViews
import Derived.JoinedTies
import Derived.KernelRfl
namespace Go.Proofs.Ytcoiadncennhpaa
/- THE CELL 'sum', in the pinned program and in every row, IS THE sha256 OF THE DUMP (.gsa) THAT YtcoiadncennhpaaProg.lean LOADS. Nothing in Lean hashes anything: it is a label: what it is worth is what the hold of that sum in a sandbox is worth. -/
noncomputable def Try.pinned : Pinned := { name := "ytcoiadncennhpaa", sum := "ced518d00368a41fbe132c38b4a227d55c6ebc9430837f703c5e4d905c0663a4", checked := Try.checked }
namespace Rows
def none {H : Type} : Left H := { results := [], args := [] }

/-- 'bowerlaw10.NodeChecks': WHATEVER THE INPUT: true; the input reads as it did. -/
def nodeChecksSpec : ChangeSpec := { name := "nodeChecks", fn := fun _ => fun
  | [d1, d2] => { results := [.lit (.bool true)], args := [d1, d2] }
  | _ => none }
def nodeChecksRow : OpenClaim := { program := "ytcoiadncennhpaa", sum := "ced518d00368a41fbe132c38b4a227d55c6ebc9430837f703c5e4d905c0663a4", func := "bower/bowerlaw10.NodeChecks", spec := "nodeChecks", unfollowed := true, recurses := true, apart := false }
def NodeChecksSaid : Prop := nodeChecksRow.holds Try.pinned (OpenSpec.ofChange nodeChecksSpec)

/-- ITS FALSE NEIGHBOUR: 'it returns false'. Refute it at one input. -/
def nodeChecksWrong : ChangeSpec := { name := "nodeChecks", fn := fun _ => fun
  | [d1, d2] => { results := [.lit (.bool false)], args := [d1, d2] }
  | _ => none }
def NodeChecksWrongFalsely : Prop := nodeChecksRow.holds Try.pinned (OpenSpec.ofChange nodeChecksWrong)

/-- 'bowerlaw10.NodeSame': WHATEVER THE INPUT: true; the input reads as it did. -/
def nodeSameSpec : ChangeSpec := { name := "nodeSame", fn := fun _ => fun
  | [d1, d2] => { results := [.lit (.bool true)], args := [d1, d2] }
  | _ => none }
def nodeSameRow : OpenClaim := { program := "ytcoiadncennhpaa", sum := "ced518d00368a41fbe132c38b4a227d55c6ebc9430837f703c5e4d905c0663a4", func := "bower/bowerlaw10.NodeSame", spec := "nodeSame", unfollowed := true, recurses := true, apart := false }
def NodeSameSaid : Prop := nodeSameRow.holds Try.pinned (OpenSpec.ofChange nodeSameSpec)

/-- ITS FALSE NEIGHBOUR: 'it returns false'. Refute it at one input. -/
def nodeSameWrong : ChangeSpec := { name := "nodeSame", fn := fun _ => fun
  | [d1, d2] => { results := [.lit (.bool false)], args := [d1, d2] }
  | _ => none }
def NodeSameWrongFalsely : Prop := nodeSameRow.holds Try.pinned (OpenSpec.ofChange nodeSameWrong)

/-- 'bowerlaw10.NodeRoutes': WHATEVER THE INPUT: true; the input reads as it did. -/
def nodeRoutesSpec : ChangeSpec := { name := "nodeRoutes", fn := fun _ => fun
  | [d1, d2] => { results := [.lit (.bool true)], args := [d1, d2] }
  | _ => none }
def nodeRoutesRow : OpenClaim := { program := "ytcoiadncennhpaa", sum := "ced518d00368a41fbe132c38b4a227d55c6ebc9430837f703c5e4d905c0663a4", func := "bower/bowerlaw10.NodeRoutes", spec := "nodeRoutes", unfollowed := true, recurses := true, apart := false }
def NodeRoutesSaid : Prop := nodeRoutesRow.holds Try.pinned (OpenSpec.ofChange nodeRoutesSpec)

/-- ITS FALSE NEIGHBOUR: 'it returns false'. Refute it at one input. -/
def nodeRoutesWrong : ChangeSpec := { name := "nodeRoutes", fn := fun _ => fun
  | [d1, d2] => { results := [.lit (.bool false)], args := [d1, d2] }
  | _ => none }
def NodeRoutesWrongFalsely : Prop := nodeRoutesRow.holds Try.pinned (OpenSpec.ofChange nodeRoutesWrong)

/-- 'bowerlaw11.LeafsTurn': WHATEVER THE INPUT: true; the input reads as it did. -/
def leafsTurnSpec : ChangeSpec := { name := "leafsTurn", fn := fun _ => fun
  | [d1, d2, d3, d4] => { results := [.lit (.bool true)], args := [d1, d2, d3, d4] }
  | _ => none }
def leafsTurnRow : OpenClaim := { program := "ytcoiadncennhpaa", sum := "ced518d00368a41fbe132c38b4a227d55c6ebc9430837f703c5e4d905c0663a4", func := "bower/bowerlaw11.LeafsTurn", spec := "leafsTurn", unfollowed := true, recurses := true, apart := false }
def LeafsTurnSaid : Prop := leafsTurnRow.holds Try.pinned (OpenSpec.ofChange leafsTurnSpec)

/-- ITS FALSE NEIGHBOUR: 'it returns false'. Refute it at one input. -/
def leafsTurnWrong : ChangeSpec := { name := "leafsTurn", fn := fun _ => fun
  | [d1, d2, d3, d4] => { results := [.lit (.bool false)], args := [d1, d2, d3, d4] }
  | _ => none }
def LeafsTurnWrongFalsely : Prop := leafsTurnRow.holds Try.pinned (OpenSpec.ofChange leafsTurnWrong)

/-- 'bowerlaw12.InnerOver': WHATEVER THE INPUT: true; the input reads as it did. -/
def innerOverSpec : ChangeSpec := { name := "innerOver", fn := fun _ => fun
  | [d1, d2, d3, d4] => { results := [.lit (.bool true)], args := [d1, d2, d3, d4] }
  | _ => none }
def innerOverRow : OpenClaim := { program := "ytcoiadncennhpaa", sum := "ced518d00368a41fbe132c38b4a227d55c6ebc9430837f703c5e4d905c0663a4", func := "bower/bowerlaw12.InnerOver", spec := "innerOver", unfollowed := true, recurses := true, apart := false }
def InnerOverSaid : Prop := innerOverRow.holds Try.pinned (OpenSpec.ofChange innerOverSpec)

/-- ITS FALSE NEIGHBOUR: 'it returns false'. Refute it at one input. -/
def innerOverWrong : ChangeSpec := { name := "innerOver", fn := fun _ => fun
  | [d1, d2, d3, d4] => { results := [.lit (.bool false)], args := [d1, d2, d3, d4] }
  | _ => none }
def InnerOverWrongFalsely : Prop := innerOverRow.holds Try.pinned (OpenSpec.ofChange innerOverWrong)

/-- 'bowerlaw11.LeafsBack': WHATEVER THE INPUT: true; the input reads as it did. -/
def leafsBackSpec : ChangeSpec := { name := "leafsBack", fn := fun _ => fun
  | [d1, d2, d3, d4] => { results := [.lit (.bool true)], args := [d1, d2, d3, d4] }
  | _ => none }
def leafsBackRow : OpenClaim := { program := "ytcoiadncennhpaa", sum := "ced518d00368a41fbe132c38b4a227d55c6ebc9430837f703c5e4d905c0663a4", func := "bower/bowerlaw11.LeafsBack", spec := "leafsBack", unfollowed := true, recurses := true, apart := false }
def LeafsBackSaid : Prop := leafsBackRow.holds Try.pinned (OpenSpec.ofChange leafsBackSpec)

/-- ITS FALSE NEIGHBOUR: 'it returns false'. Refute it at one input. -/
def leafsBackWrong : ChangeSpec := { name := "leafsBack", fn := fun _ => fun
  | [d1, d2, d3, d4] => { results := [.lit (.bool false)], args := [d1, d2, d3, d4] }
  | _ => none }
def LeafsBackWrongFalsely : Prop := leafsBackRow.holds Try.pinned (OpenSpec.ofChange leafsBackWrong)

/-- 'bowerlaw11.LeafsTell': WHATEVER THE INPUT: true; the input reads as it did. -/
def leafsTellSpec : ChangeSpec := { name := "leafsTell", fn := fun _ => fun
  | [d1, d2, d3, d4] => { results := [.lit (.bool true)], args := [d1, d2, d3, d4] }
  | _ => none }
def leafsTellRow : OpenClaim := { program := "ytcoiadncennhpaa", sum := "ced518d00368a41fbe132c38b4a227d55c6ebc9430837f703c5e4d905c0663a4", func := "bower/bowerlaw11.LeafsTell", spec := "leafsTell", unfollowed := true, recurses := true, apart := false }
def LeafsTellSaid : Prop := leafsTellRow.holds Try.pinned (OpenSpec.ofChange leafsTellSpec)

/-- ITS FALSE NEIGHBOUR: 'it returns false'. Refute it at one input. -/
def leafsTellWrong : ChangeSpec := { name := "leafsTell", fn := fun _ => fun
  | [d1, d2, d3, d4] => { results := [.lit (.bool false)], args := [d1, d2, d3, d4] }
  | _ => none }
def LeafsTellWrongFalsely : Prop := leafsTellRow.holds Try.pinned (OpenSpec.ofChange leafsTellWrong)

/-- 'bowerlaw13.HalveJoins': WHATEVER THE INPUT: true; the input reads as it did. -/
def halveJoinsSpec : ChangeSpec := { name := "halveJoins", fn := fun _ => fun
  | [d1, d2, d3] => { results := [.lit (.bool true)], args := [d1, d2, d3] }
  | _ => none }
def halveJoinsRow : OpenClaim := { program := "ytcoiadncennhpaa", sum := "ced518d00368a41fbe132c38b4a227d55c6ebc9430837f703c5e4d905c0663a4", func := "bower/bowerlaw13.HalveJoins", spec := "halveJoins", unfollowed := true, recurses := true, apart := false }
def HalveJoinsSaid : Prop := halveJoinsRow.holds Try.pinned (OpenSpec.ofChange halveJoinsSpec)

/-- ITS FALSE NEIGHBOUR: 'it returns false'. Refute it at one input. -/
def halveJoinsWrong : ChangeSpec := { name := "halveJoins", fn := fun _ => fun
  | [d1, d2, d3] => { results := [.lit (.bool false)], args := [d1, d2, d3] }
  | _ => none }
def HalveJoinsWrongFalsely : Prop := halveJoinsRow.holds Try.pinned (OpenSpec.ofChange halveJoinsWrong)

/-- 'bowerlaw12.InnerTurns': WHATEVER THE INPUT: true; the input reads as it did. -/
def innerTurnsSpec : ChangeSpec := { name := "innerTurns", fn := fun _ => fun
  | [d1, d2, d3, d4, d5] => { results := [.lit (.bool true)], args := [d1, d2, d3, d4, d5] }
  | _ => none }
def innerTurnsRow : OpenClaim := { program := "ytcoiadncennhpaa", sum := "ced518d00368a41fbe132c38b4a227d55c6ebc9430837f703c5e4d905c0663a4", func := "bower/bowerlaw12.InnerTurns", spec := "innerTurns", unfollowed := true, recurses := true, apart := false }
def InnerTurnsSaid : Prop := innerTurnsRow.holds Try.pinned (OpenSpec.ofChange innerTurnsSpec)

/-- ITS FALSE NEIGHBOUR: 'it returns false'. Refute it at one input. -/
def innerTurnsWrong : ChangeSpec := { name := "innerTurns", fn := fun _ => fun
  | [d1, d2, d3, d4, d5] => { results := [.lit (.bool false)], args := [d1, d2, d3, d4, d5] }
  | _ => none }
def InnerTurnsWrongFalsely : Prop := innerTurnsRow.holds Try.pinned (OpenSpec.ofChange innerTurnsWrong)

/-- 'bowerlaw12.InnerBack': WHATEVER THE INPUT: true; the input reads as it did. -/
def innerBackSpec : ChangeSpec := { name := "innerBack", fn := fun _ => fun
  | [d1, d2, d3, d4, d5] => { results := [.lit (.bool true)], args := [d1, d2, d3, d4, d5] }
  | _ => none }
def innerBackRow : OpenClaim := { program := "ytcoiadncennhpaa", sum := "ced518d00368a41fbe132c38b4a227d55c6ebc9430837f703c5e4d905c0663a4", func := "bower/bowerlaw12.InnerBack", spec := "innerBack", unfollowed := true, recurses := true, apart := false }
def InnerBackSaid : Prop := innerBackRow.holds Try.pinned (OpenSpec.ofChange innerBackSpec)

/-- ITS FALSE NEIGHBOUR: 'it returns false'. Refute it at one input. -/
def innerBackWrong : ChangeSpec := { name := "innerBack", fn := fun _ => fun
  | [d1, d2, d3, d4, d5] => { results := [.lit (.bool false)], args := [d1, d2, d3, d4, d5] }
  | _ => none }
def InnerBackWrongFalsely : Prop := innerBackRow.holds Try.pinned (OpenSpec.ofChange innerBackWrong)

/-- 'bowerlaw13.HalveParts': WHATEVER THE INPUT: true; the input reads as it did. -/
def halvePartsSpec : ChangeSpec := { name := "halveParts", fn := fun _ => fun
  | [d1, d2, d3, d4] => { results := [.lit (.bool true)], args := [d1, d2, d3, d4] }
  | _ => none }
def halvePartsRow : OpenClaim := { program := "ytcoiadncennhpaa", sum := "ced518d00368a41fbe132c38b4a227d55c6ebc9430837f703c5e4d905c0663a4", func := "bower/bowerlaw13.HalveParts", spec := "halveParts", unfollowed := true, recurses := true, apart := false }
def HalvePartsSaid : Prop := halvePartsRow.holds Try.pinned (OpenSpec.ofChange halvePartsSpec)

/-- ITS FALSE NEIGHBOUR: 'it returns false'. Refute it at one input. -/
def halvePartsWrong : ChangeSpec := { name := "halveParts", fn := fun _ => fun
  | [d1, d2, d3, d4] => { results := [.lit (.bool false)], args := [d1, d2, d3, d4] }
  | _ => none }
def HalvePartsWrongFalsely : Prop := halvePartsRow.holds Try.pinned (OpenSpec.ofChange halvePartsWrong)

/-- 'bowerlaw13.HalveWhole': WHATEVER THE INPUT: true; the input reads as it did. -/
def halveWholeSpec : ChangeSpec := { name := "halveWhole", fn := fun _ => fun
  | [d1, d2, d3, d4] => { results := [.lit (.bool true)], args := [d1, d2, d3, d4] }
  | _ => none }
def halveWholeRow : OpenClaim := { program := "ytcoiadncennhpaa", sum := "ced518d00368a41fbe132c38b4a227d55c6ebc9430837f703c5e4d905c0663a4", func := "bower/bowerlaw13.HalveWhole", spec := "halveWhole", unfollowed := true, recurses := true, apart := false }
def HalveWholeSaid : Prop := halveWholeRow.holds Try.pinned (OpenSpec.ofChange halveWholeSpec)

/-- ITS FALSE NEIGHBOUR: 'it returns false'. Refute it at one input. -/
def halveWholeWrong : ChangeSpec := { name := "halveWhole", fn := fun _ => fun
  | [d1, d2, d3, d4] => { results := [.lit (.bool false)], args := [d1, d2, d3, d4] }
  | _ => none }
def HalveWholeWrongFalsely : Prop := halveWholeRow.holds Try.pinned (OpenSpec.ofChange halveWholeWrong)

/- THE SECOND FORM. 'bulk': how many values and letters a reading holds, each counted each time it is reached (what is shared counts as often as it is met; a slice's spare places count too). A statement '..UptoSaid' is the law's where the arguments, and the package variables that the reading takes, are together of bulk at most 1048576: NARROWER than '..Said'. Prove '..Said' where nothing that the law and all that it calls make is longer than what came in: it says more and counts as full. Else prove '..UptoSaid'. A law counts once. -/
mutual
def uptoBulk {H : Type} : DataW H → Nat
  | .lit (.string bytes) => bytes.length + 1
  | .lit _ => 1
  | .nil => 1
  | .ptr d => uptoBulk d + 1
  | .slice elems spare => uptoBulkAll elems + uptoBulkAll spare + 1
  | .agg parts => uptoBulkAll parts + 1
  | .iface _ d => uptoBulk d + 1
  | .map entries => uptoBulkEntries entries + 1
  | .held _ => 1
def uptoBulkAll {H : Type} : List (DataW H) → Nat
  | [] => 0
  | d :: r => uptoBulk d + uptoBulkAll r
def uptoBulkEntries {H : Type} : List (Lit × DataW H) → Nat
  | [] => 0
  | x :: r => uptoBulkEntry x + uptoBulkEntries r
def uptoBulkEntry {H : Type} : Lit × DataW H → Nat
  | (.string bytes, d) => bytes.length + uptoBulk d + 1
  | (_, d) => uptoBulk d + 1
 end
def uptoSmall : (H : Type) → List (DataW H) → Bool := fun _ ds => decide (uptoBulkAll ds ≤ 1048576)
def OpenSpec.upto (s : _root_.Go.ChangeSpec) : _root_.Go.OpenSpec := { _root_.Go.OpenSpec.ofChange s with cond := some uptoSmall }

/-- 'bowerlaw10.NodeChecks', WHERE WHAT IT READS IS OF BULK AT MOST 1048576: true; the input reads as it did. -/
def nodeChecksUptoRow : OpenClaim := { program := "ytcoiadncennhpaa", sum := "ced518d00368a41fbe132c38b4a227d55c6ebc9430837f703c5e4d905c0663a4", func := "bower/bowerlaw10.NodeChecks", spec := "nodeChecks", unfollowed := true, recurses := true, apart := false, narrowed := true }
def NodeChecksUptoSaid : Prop := nodeChecksUptoRow.holds Try.pinned (OpenSpec.upto nodeChecksSpec)

/-- 'bowerlaw10.NodeSame', WHERE WHAT IT READS IS OF BULK AT MOST 1048576: true; the input reads as it did. -/
def nodeSameUptoRow : OpenClaim := { program := "ytcoiadncennhpaa", sum := "ced518d00368a41fbe132c38b4a227d55c6ebc9430837f703c5e4d905c0663a4", func := "bower/bowerlaw10.NodeSame", spec := "nodeSame", unfollowed := true, recurses := true, apart := false, narrowed := true }
def NodeSameUptoSaid : Prop := nodeSameUptoRow.holds Try.pinned (OpenSpec.upto nodeSameSpec)

/-- 'bowerlaw10.NodeRoutes', WHERE WHAT IT READS IS OF BULK AT MOST 1048576: true; the input reads as it did. -/
def nodeRoutesUptoRow : OpenClaim := { program := "ytcoiadncennhpaa", sum := "ced518d00368a41fbe132c38b4a227d55c6ebc9430837f703c5e4d905c0663a4", func := "bower/bowerlaw10.NodeRoutes", spec := "nodeRoutes", unfollowed := true, recurses := true, apart := false, narrowed := true }
def NodeRoutesUptoSaid : Prop := nodeRoutesUptoRow.holds Try.pinned (OpenSpec.upto nodeRoutesSpec)

/-- 'bowerlaw11.LeafsTurn', WHERE WHAT IT READS IS OF BULK AT MOST 1048576: true; the input reads as it did. -/
def leafsTurnUptoRow : OpenClaim := { program := "ytcoiadncennhpaa", sum := "ced518d00368a41fbe132c38b4a227d55c6ebc9430837f703c5e4d905c0663a4", func := "bower/bowerlaw11.LeafsTurn", spec := "leafsTurn", unfollowed := true, recurses := true, apart := false, narrowed := true }
def LeafsTurnUptoSaid : Prop := leafsTurnUptoRow.holds Try.pinned (OpenSpec.upto leafsTurnSpec)

/-- 'bowerlaw12.InnerOver', WHERE WHAT IT READS IS OF BULK AT MOST 1048576: true; the input reads as it did. -/
def innerOverUptoRow : OpenClaim := { program := "ytcoiadncennhpaa", sum := "ced518d00368a41fbe132c38b4a227d55c6ebc9430837f703c5e4d905c0663a4", func := "bower/bowerlaw12.InnerOver", spec := "innerOver", unfollowed := true, recurses := true, apart := false, narrowed := true }
def InnerOverUptoSaid : Prop := innerOverUptoRow.holds Try.pinned (OpenSpec.upto innerOverSpec)

/-- 'bowerlaw11.LeafsBack', WHERE WHAT IT READS IS OF BULK AT MOST 1048576: true; the input reads as it did. -/
def leafsBackUptoRow : OpenClaim := { program := "ytcoiadncennhpaa", sum := "ced518d00368a41fbe132c38b4a227d55c6ebc9430837f703c5e4d905c0663a4", func := "bower/bowerlaw11.LeafsBack", spec := "leafsBack", unfollowed := true, recurses := true, apart := false, narrowed := true }
def LeafsBackUptoSaid : Prop := leafsBackUptoRow.holds Try.pinned (OpenSpec.upto leafsBackSpec)

/-- 'bowerlaw11.LeafsTell', WHERE WHAT IT READS IS OF BULK AT MOST 1048576: true; the input reads as it did. -/
def leafsTellUptoRow : OpenClaim := { program := "ytcoiadncennhpaa", sum := "ced518d00368a41fbe132c38b4a227d55c6ebc9430837f703c5e4d905c0663a4", func := "bower/bowerlaw11.LeafsTell", spec := "leafsTell", unfollowed := true, recurses := true, apart := false, narrowed := true }
def LeafsTellUptoSaid : Prop := leafsTellUptoRow.holds Try.pinned (OpenSpec.upto leafsTellSpec)

/-- 'bowerlaw13.HalveJoins', WHERE WHAT IT READS IS OF BULK AT MOST 1048576: true; the input reads as it did. -/
def halveJoinsUptoRow : OpenClaim := { program := "ytcoiadncennhpaa", sum := "ced518d00368a41fbe132c38b4a227d55c6ebc9430837f703c5e4d905c0663a4", func := "bower/bowerlaw13.HalveJoins", spec := "halveJoins", unfollowed := true, recurses := true, apart := false, narrowed := true }
def HalveJoinsUptoSaid : Prop := halveJoinsUptoRow.holds Try.pinned (OpenSpec.upto halveJoinsSpec)

/-- 'bowerlaw12.InnerTurns', WHERE WHAT IT READS IS OF BULK AT MOST 1048576: true; the input reads as it did. -/
def innerTurnsUptoRow : OpenClaim := { program := "ytcoiadncennhpaa", sum := "ced518d00368a41fbe132c38b4a227d55c6ebc9430837f703c5e4d905c0663a4", func := "bower/bowerlaw12.InnerTurns", spec := "innerTurns", unfollowed := true, recurses := true, apart := false, narrowed := true }
def InnerTurnsUptoSaid : Prop := innerTurnsUptoRow.holds Try.pinned (OpenSpec.upto innerTurnsSpec)

/-- 'bowerlaw12.InnerBack', WHERE WHAT IT READS IS OF BULK AT MOST 1048576: true; the input reads as it did. -/
def innerBackUptoRow : OpenClaim := { program := "ytcoiadncennhpaa", sum := "ced518d00368a41fbe132c38b4a227d55c6ebc9430837f703c5e4d905c0663a4", func := "bower/bowerlaw12.InnerBack", spec := "innerBack", unfollowed := true, recurses := true, apart := false, narrowed := true }
def InnerBackUptoSaid : Prop := innerBackUptoRow.holds Try.pinned (OpenSpec.upto innerBackSpec)

/-- 'bowerlaw13.HalveParts', WHERE WHAT IT READS IS OF BULK AT MOST 1048576: true; the input reads as it did. -/
def halvePartsUptoRow : OpenClaim := { program := "ytcoiadncennhpaa", sum := "ced518d00368a41fbe132c38b4a227d55c6ebc9430837f703c5e4d905c0663a4", func := "bower/bowerlaw13.HalveParts", spec := "halveParts", unfollowed := true, recurses := true, apart := false, narrowed := true }
def HalvePartsUptoSaid : Prop := halvePartsUptoRow.holds Try.pinned (OpenSpec.upto halvePartsSpec)

/-- 'bowerlaw13.HalveWhole', WHERE WHAT IT READS IS OF BULK AT MOST 1048576: true; the input reads as it did. -/
def halveWholeUptoRow : OpenClaim := { program := "ytcoiadncennhpaa", sum := "ced518d00368a41fbe132c38b4a227d55c6ebc9430837f703c5e4d905c0663a4", func := "bower/bowerlaw13.HalveWhole", spec := "halveWhole", unfollowed := true, recurses := true, apart := false, narrowed := true }
def HalveWholeUptoSaid : Prop := halveWholeUptoRow.holds Try.pinned (OpenSpec.upto halveWholeSpec)

end Rows
end Go.Proofs.Ytcoiadncennhpaa
