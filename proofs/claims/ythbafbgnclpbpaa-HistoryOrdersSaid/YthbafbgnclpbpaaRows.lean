/-
  No cell of these rows narrows 'for every input' (looked for: loops, veiled, ifaces, maps, wideKeys, modest, calm, conditions, laid).
  DERIVED. THE GIVEN ROWS OF THIS SEAT. 12 by the template 'for every input the law returns true; each argument reads behind the call as it read before'; 0 by the template 'total and deterministic' (their statements: YthbafbgnclpbpaaTotals.lean).
  GIVEN WITH THE SEED: the statements are not yours to turn. If you find one false, say at which input.
  Laid BY PROGRAM, IN A SANDBOX (cutbox-rows.mjs): the forced cells as the released guide's own fill.sh prints them over the translation 0cafafd976c5abce… (all of the seat's roots in one cut). By AI agents, Wed Nov 11 2026. No macro, syntax, notation, axiom, sorry.
-/
import Derived.Test.YthbafbgnclpbpaaChecked
import GoSem.Claim
import GoSem.ClaimJoined
import GoSem.ClaimMapViews
import Derived.JoinedTies
import Derived.KernelRfl
namespace Go.Proofs.Ythbafbgnclpbpaa
/- THE CELL 'sum', in the pinned program and in every row, IS THE sha256 OF THE DUMP (.gsa) THAT YthbafbgnclpbpaaProg.lean LOADS. Nothing in Lean hashes anything: it is a label: what it is worth is what the hold of that sum in a sandbox is worth. -/
noncomputable def Try.pinned : Pinned := { name := "ythbafbgnclpbpaa", sum := "0cafafd976c5abce9f08807d21e1547a67d5eaff5d279b550e6fc223aa2b6bd6", checked := Try.checked }
namespace Rows
def none {H : Type} : Left H := { results := [], args := [] }

/-- 'bowerlaw17.AnswerTells': WHATEVER THE INPUT: true; the input reads as it did. -/
def answerTellsSpec : ChangeSpec := { name := "answerTells", fn := fun _ => fun
  | [d1, d2, d3] => { results := [.lit (.bool true)], args := [d1, d2, d3] }
  | _ => none }
def answerTellsRow : OpenClaim := { program := "ythbafbgnclpbpaa", sum := "0cafafd976c5abce9f08807d21e1547a67d5eaff5d279b550e6fc223aa2b6bd6", func := "bower/bowerlaw17.AnswerTells", spec := "answerTells", unfollowed := true, recurses := true, apart := false }
def AnswerTellsSaid : Prop := answerTellsRow.holds Try.pinned (OpenSpec.ofChange answerTellsSpec)

/-- ITS FALSE NEIGHBOUR: 'it returns false'. Refute it at one input. -/
def answerTellsWrong : ChangeSpec := { name := "answerTells", fn := fun _ => fun
  | [d1, d2, d3] => { results := [.lit (.bool false)], args := [d1, d2, d3] }
  | _ => none }
def AnswerTellsWrongFalsely : Prop := answerTellsRow.holds Try.pinned (OpenSpec.ofChange answerTellsWrong)

/-- 'bowerlaw01.SipWrites': WHATEVER THE INPUT: true; the input reads as it did. -/
def sipWritesSpec : ChangeSpec := { name := "sipWrites", fn := fun _ => fun
  | [d] => { results := [.lit (.bool true)], args := [d] }
  | _ => none }
def sipWritesRow : OpenClaim := { program := "ythbafbgnclpbpaa", sum := "0cafafd976c5abce9f08807d21e1547a67d5eaff5d279b550e6fc223aa2b6bd6", func := "bower/bowerlaw01.SipWrites", spec := "sipWrites", apart := false }
def SipWritesSaid : Prop := sipWritesRow.holds Try.pinned (OpenSpec.ofChange sipWritesSpec)

/-- ITS FALSE NEIGHBOUR: 'it returns false'. Refute it at one input. -/
def sipWritesWrong : ChangeSpec := { name := "sipWrites", fn := fun _ => fun
  | [d] => { results := [.lit (.bool false)], args := [d] }
  | _ => none }
def SipWritesWrongFalsely : Prop := sipWritesRow.holds Try.pinned (OpenSpec.ofChange sipWritesWrong)

/-- 'bowerlaw01.SipOnce': WHATEVER THE INPUT: true; the input reads as it did. -/
def sipOnceSpec : ChangeSpec := { name := "sipOnce", fn := fun _ => fun
  | [d1, d2] => { results := [.lit (.bool true)], args := [d1, d2] }
  | _ => none }
def sipOnceRow : OpenClaim := { program := "ythbafbgnclpbpaa", sum := "0cafafd976c5abce9f08807d21e1547a67d5eaff5d279b550e6fc223aa2b6bd6", func := "bower/bowerlaw01.SipOnce", spec := "sipOnce", apart := false }
def SipOnceSaid : Prop := sipOnceRow.holds Try.pinned (OpenSpec.ofChange sipOnceSpec)

/-- ITS FALSE NEIGHBOUR: 'it returns false'. Refute it at one input. -/
def sipOnceWrong : ChangeSpec := { name := "sipOnce", fn := fun _ => fun
  | [d1, d2] => { results := [.lit (.bool false)], args := [d1, d2] }
  | _ => none }
def SipOnceWrongFalsely : Prop := sipOnceRow.holds Try.pinned (OpenSpec.ofChange sipOnceWrong)

/-- 'bowerlaw01.SipBack': WHATEVER THE INPUT: true; the input reads as it did. -/
def sipBackSpec : ChangeSpec := { name := "sipBack", fn := fun _ => fun
  | [d] => { results := [.lit (.bool true)], args := [d] }
  | _ => none }
def sipBackRow : OpenClaim := { program := "ythbafbgnclpbpaa", sum := "0cafafd976c5abce9f08807d21e1547a67d5eaff5d279b550e6fc223aa2b6bd6", func := "bower/bowerlaw01.SipBack", spec := "sipBack", unfollowed := true, recurses := true, apart := false }
def SipBackSaid : Prop := sipBackRow.holds Try.pinned (OpenSpec.ofChange sipBackSpec)

/-- ITS FALSE NEIGHBOUR: 'it returns false'. Refute it at one input. -/
def sipBackWrong : ChangeSpec := { name := "sipBack", fn := fun _ => fun
  | [d] => { results := [.lit (.bool false)], args := [d] }
  | _ => none }
def SipBackWrongFalsely : Prop := sipBackRow.holds Try.pinned (OpenSpec.ofChange sipBackWrong)

/-- 'bowerlaw01.SipNobody': WHATEVER THE INPUT: true; the input reads as it did. -/
def sipNobodySpec : ChangeSpec := { name := "sipNobody", fn := fun _ => fun
  | [d] => { results := [.lit (.bool true)], args := [d] }
  | _ => none }
def sipNobodyRow : OpenClaim := { program := "ythbafbgnclpbpaa", sum := "0cafafd976c5abce9f08807d21e1547a67d5eaff5d279b550e6fc223aa2b6bd6", func := "bower/bowerlaw01.SipNobody", spec := "sipNobody", unfollowed := true, recurses := true, apart := false }
def SipNobodySaid : Prop := sipNobodyRow.holds Try.pinned (OpenSpec.ofChange sipNobodySpec)

/-- ITS FALSE NEIGHBOUR: 'it returns false'. Refute it at one input. -/
def sipNobodyWrong : ChangeSpec := { name := "sipNobody", fn := fun _ => fun
  | [d] => { results := [.lit (.bool false)], args := [d] }
  | _ => none }
def SipNobodyWrongFalsely : Prop := sipNobodyRow.holds Try.pinned (OpenSpec.ofChange sipNobodyWrong)

/-- 'bowerlaw16.OpTells': WHATEVER THE INPUT: true; the input reads as it did. -/
def opTellsSpec : ChangeSpec := { name := "opTells", fn := fun _ => fun
  | [d] => { results := [.lit (.bool true)], args := [d] }
  | _ => none }
def opTellsRow : OpenClaim := { program := "ythbafbgnclpbpaa", sum := "0cafafd976c5abce9f08807d21e1547a67d5eaff5d279b550e6fc223aa2b6bd6", func := "bower/bowerlaw16.OpTells", spec := "opTells", unfollowed := true, recurses := true, apart := false }
def OpTellsSaid : Prop := opTellsRow.holds Try.pinned (OpenSpec.ofChange opTellsSpec)

/-- ITS FALSE NEIGHBOUR: 'it returns false'. Refute it at one input. -/
def opTellsWrong : ChangeSpec := { name := "opTells", fn := fun _ => fun
  | [d] => { results := [.lit (.bool false)], args := [d] }
  | _ => none }
def OpTellsWrongFalsely : Prop := opTellsRow.holds Try.pinned (OpenSpec.ofChange opTellsWrong)

/-- 'bowerlaw17.AnswerWrites': WHATEVER THE INPUT: true; the input reads as it did. -/
def answerWritesSpec : ChangeSpec := { name := "answerWrites", fn := fun _ => fun
  | [d] => { results := [.lit (.bool true)], args := [d] }
  | _ => none }
def answerWritesRow : OpenClaim := { program := "ythbafbgnclpbpaa", sum := "0cafafd976c5abce9f08807d21e1547a67d5eaff5d279b550e6fc223aa2b6bd6", func := "bower/bowerlaw17.AnswerWrites", spec := "answerWrites", unfollowed := true, recurses := true, apart := false }
def AnswerWritesSaid : Prop := answerWritesRow.holds Try.pinned (OpenSpec.ofChange answerWritesSpec)

/-- ITS FALSE NEIGHBOUR: 'it returns false'. Refute it at one input. -/
def answerWritesWrong : ChangeSpec := { name := "answerWrites", fn := fun _ => fun
  | [d] => { results := [.lit (.bool false)], args := [d] }
  | _ => none }
def AnswerWritesWrongFalsely : Prop := answerWritesRow.holds Try.pinned (OpenSpec.ofChange answerWritesWrong)

/-- 'bowerlaw39.HistoryChecks': WHATEVER THE INPUT: true; the input reads as it did. -/
def historyChecksSpec : ChangeSpec := { name := "historyChecks", fn := fun _ => fun
  | [d1, d2] => { results := [.lit (.bool true)], args := [d1, d2] }
  | _ => none }
def historyChecksRow : OpenClaim := { program := "ythbafbgnclpbpaa", sum := "0cafafd976c5abce9f08807d21e1547a67d5eaff5d279b550e6fc223aa2b6bd6", func := "bower/bowerlaw39.HistoryChecks", spec := "historyChecks", unfollowed := true, recurses := true, apart := false }
def HistoryChecksSaid : Prop := historyChecksRow.holds Try.pinned (OpenSpec.ofChange historyChecksSpec)

/-- ITS FALSE NEIGHBOUR: 'it returns false'. Refute it at one input. -/
def historyChecksWrong : ChangeSpec := { name := "historyChecks", fn := fun _ => fun
  | [d1, d2] => { results := [.lit (.bool false)], args := [d1, d2] }
  | _ => none }
def HistoryChecksWrongFalsely : Prop := historyChecksRow.holds Try.pinned (OpenSpec.ofChange historyChecksWrong)

/-- 'bowerlaw16.OpReads': WHATEVER THE INPUT: true; the input reads as it did. -/
def opReadsSpec : ChangeSpec := { name := "opReads", fn := fun _ => fun
  | [d] => { results := [.lit (.bool true)], args := [d] }
  | _ => none }
def opReadsRow : OpenClaim := { program := "ythbafbgnclpbpaa", sum := "0cafafd976c5abce9f08807d21e1547a67d5eaff5d279b550e6fc223aa2b6bd6", func := "bower/bowerlaw16.OpReads", spec := "opReads", unfollowed := true, recurses := true, apart := false }
def OpReadsSaid : Prop := opReadsRow.holds Try.pinned (OpenSpec.ofChange opReadsSpec)

/-- ITS FALSE NEIGHBOUR: 'it returns false'. Refute it at one input. -/
def opReadsWrong : ChangeSpec := { name := "opReads", fn := fun _ => fun
  | [d] => { results := [.lit (.bool false)], args := [d] }
  | _ => none }
def OpReadsWrongFalsely : Prop := opReadsRow.holds Try.pinned (OpenSpec.ofChange opReadsWrong)

/-- 'bowerlaw16.OpWrites': WHATEVER THE INPUT: true; the input reads as it did. -/
def opWritesSpec : ChangeSpec := { name := "opWrites", fn := fun _ => fun
  | [d] => { results := [.lit (.bool true)], args := [d] }
  | _ => none }
def opWritesRow : OpenClaim := { program := "ythbafbgnclpbpaa", sum := "0cafafd976c5abce9f08807d21e1547a67d5eaff5d279b550e6fc223aa2b6bd6", func := "bower/bowerlaw16.OpWrites", spec := "opWrites", unfollowed := true, recurses := true, apart := false }
def OpWritesSaid : Prop := opWritesRow.holds Try.pinned (OpenSpec.ofChange opWritesSpec)

/-- ITS FALSE NEIGHBOUR: 'it returns false'. Refute it at one input. -/
def opWritesWrong : ChangeSpec := { name := "opWrites", fn := fun _ => fun
  | [d] => { results := [.lit (.bool false)], args := [d] }
  | _ => none }
def OpWritesWrongFalsely : Prop := opWritesRow.holds Try.pinned (OpenSpec.ofChange opWritesWrong)

/-- 'bowerlaw39.HistoryWrites': WHATEVER THE INPUT: true; the input reads as it did. -/
def historyWritesSpec : ChangeSpec := { name := "historyWrites", fn := fun _ => fun
  | [d] => { results := [.lit (.bool true)], args := [d] }
  | _ => none }
def historyWritesRow : OpenClaim := { program := "ythbafbgnclpbpaa", sum := "0cafafd976c5abce9f08807d21e1547a67d5eaff5d279b550e6fc223aa2b6bd6", func := "bower/bowerlaw39.HistoryWrites", spec := "historyWrites", unfollowed := true, recurses := true, apart := false }
def HistoryWritesSaid : Prop := historyWritesRow.holds Try.pinned (OpenSpec.ofChange historyWritesSpec)

/-- ITS FALSE NEIGHBOUR: 'it returns false'. Refute it at one input. -/
def historyWritesWrong : ChangeSpec := { name := "historyWrites", fn := fun _ => fun
  | [d] => { results := [.lit (.bool false)], args := [d] }
  | _ => none }
def HistoryWritesWrongFalsely : Prop := historyWritesRow.holds Try.pinned (OpenSpec.ofChange historyWritesWrong)

/-- 'bowerlaw39.HistoryOrders': WHATEVER THE INPUT: true; the input reads as it did. -/
def historyOrdersSpec : ChangeSpec := { name := "historyOrders", fn := fun _ => fun
  | [d] => { results := [.lit (.bool true)], args := [d] }
  | _ => none }
def historyOrdersRow : OpenClaim := { program := "ythbafbgnclpbpaa", sum := "0cafafd976c5abce9f08807d21e1547a67d5eaff5d279b550e6fc223aa2b6bd6", func := "bower/bowerlaw39.HistoryOrders", spec := "historyOrders", unfollowed := true, recurses := true, apart := false }
def HistoryOrdersSaid : Prop := historyOrdersRow.holds Try.pinned (OpenSpec.ofChange historyOrdersSpec)

/-- ITS FALSE NEIGHBOUR: 'it returns false'. Refute it at one input. -/
def historyOrdersWrong : ChangeSpec := { name := "historyOrders", fn := fun _ => fun
  | [d] => { results := [.lit (.bool false)], args := [d] }
  | _ => none }
def HistoryOrdersWrongFalsely : Prop := historyOrdersRow.holds Try.pinned (OpenSpec.ofChange historyOrdersWrong)

/- THE SECOND FORM. 'bulk': how many values and letters a reading holds, each counted each time it is reached (what is shared counts as often as it is met; a slice's spare places count too). A statement '..UptoSaid' is the law's where the arguments, and the package variables that the reading takes, are together of bulk at most 1048576: NARROWER than '..Said'. Prove '..Said' where nothing that the law and all that it calls make is longer than what came in: it says more and counts as full. Else prove '..UptoSaid'. A law counts once. -/
mutual
def uptoBulk {H : Type} : DataW H → Nat
  | .lit (.string bytes) => bytes.length + 1
  | .lit _ => 1
  | .nil => 1
  | .ptr d => uptoBulk d + 1
  | .slice elems spare => uptoBulkAll elems + uptoBulkAll spare + 1
  | .agg parts => uptoBulkAll parts + 1
  | .iface _ d => uptoBulk d + 1
  | .map entries => uptoBulkEntries entries + 1
  | .held _ => 1
def uptoBulkAll {H : Type} : List (DataW H) → Nat
  | [] => 0
  | d :: r => uptoBulk d + uptoBulkAll r
def uptoBulkEntries {H : Type} : List (Lit × DataW H) → Nat
  | [] => 0
  | x :: r => uptoBulkEntry x + uptoBulkEntries r
def uptoBulkEntry {H : Type} : Lit × DataW H → Nat
  | (.string bytes, d) => bytes.length + uptoBulk d + 1
  | (_, d) => uptoBulk d + 1
 end
def uptoSmall : (H : Type) → List (DataW H) → Bool := fun _ ds => decide (uptoBulkAll ds ≤ 1048576)
def OpenSpec.upto (s : _root_.Go.ChangeSpec) : _root_.Go.OpenSpec := { _root_.Go.OpenSpec.ofChange s with cond := some uptoSmall }

/-- 'bowerlaw17.AnswerTells', WHERE WHAT IT READS IS OF BULK AT MOST 1048576: true; the input reads as it did. -/
def answerTellsUptoRow : OpenClaim := { program := "ythbafbgnclpbpaa", sum := "0cafafd976c5abce9f08807d21e1547a67d5eaff5d279b550e6fc223aa2b6bd6", func := "bower/bowerlaw17.AnswerTells", spec := "answerTells", unfollowed := true, recurses := true, apart := false, narrowed := true }
def AnswerTellsUptoSaid : Prop := answerTellsUptoRow.holds Try.pinned (OpenSpec.upto answerTellsSpec)

/-- 'bowerlaw01.SipWrites', WHERE WHAT IT READS IS OF BULK AT MOST 1048576: true; the input reads as it did. -/
def sipWritesUptoRow : OpenClaim := { program := "ythbafbgnclpbpaa", sum := "0cafafd976c5abce9f08807d21e1547a67d5eaff5d279b550e6fc223aa2b6bd6", func := "bower/bowerlaw01.SipWrites", spec := "sipWrites", apart := false, narrowed := true }
def SipWritesUptoSaid : Prop := sipWritesUptoRow.holds Try.pinned (OpenSpec.upto sipWritesSpec)

/-- 'bowerlaw01.SipOnce', WHERE WHAT IT READS IS OF BULK AT MOST 1048576: true; the input reads as it did. -/
def sipOnceUptoRow : OpenClaim := { program := "ythbafbgnclpbpaa", sum := "0cafafd976c5abce9f08807d21e1547a67d5eaff5d279b550e6fc223aa2b6bd6", func := "bower/bowerlaw01.SipOnce", spec := "sipOnce", apart := false, narrowed := true }
def SipOnceUptoSaid : Prop := sipOnceUptoRow.holds Try.pinned (OpenSpec.upto sipOnceSpec)

/-- 'bowerlaw01.SipBack', WHERE WHAT IT READS IS OF BULK AT MOST 1048576: true; the input reads as it did. -/
def sipBackUptoRow : OpenClaim := { program := "ythbafbgnclpbpaa", sum := "0cafafd976c5abce9f08807d21e1547a67d5eaff5d279b550e6fc223aa2b6bd6", func := "bower/bowerlaw01.SipBack", spec := "sipBack", unfollowed := true, recurses := true, apart := false, narrowed := true }
def SipBackUptoSaid : Prop := sipBackUptoRow.holds Try.pinned (OpenSpec.upto sipBackSpec)

/-- 'bowerlaw01.SipNobody', WHERE WHAT IT READS IS OF BULK AT MOST 1048576: true; the input reads as it did. -/
def sipNobodyUptoRow : OpenClaim := { program := "ythbafbgnclpbpaa", sum := "0cafafd976c5abce9f08807d21e1547a67d5eaff5d279b550e6fc223aa2b6bd6", func := "bower/bowerlaw01.SipNobody", spec := "sipNobody", unfollowed := true, recurses := true, apart := false, narrowed := true }
def SipNobodyUptoSaid : Prop := sipNobodyUptoRow.holds Try.pinned (OpenSpec.upto sipNobodySpec)

/-- 'bowerlaw16.OpTells', WHERE WHAT IT READS IS OF BULK AT MOST 1048576: true; the input reads as it did. -/
def opTellsUptoRow : OpenClaim := { program := "ythbafbgnclpbpaa", sum := "0cafafd976c5abce9f08807d21e1547a67d5eaff5d279b550e6fc223aa2b6bd6", func := "bower/bowerlaw16.OpTells", spec := "opTells", unfollowed := true, recurses := true, apart := false, narrowed := true }
def OpTellsUptoSaid : Prop := opTellsUptoRow.holds Try.pinned (OpenSpec.upto opTellsSpec)

/-- 'bowerlaw17.AnswerWrites', WHERE WHAT IT READS IS OF BULK AT MOST 1048576: true; the input reads as it did. -/
def answerWritesUptoRow : OpenClaim := { program := "ythbafbgnclpbpaa", sum := "0cafafd976c5abce9f08807d21e1547a67d5eaff5d279b550e6fc223aa2b6bd6", func := "bower/bowerlaw17.AnswerWrites", spec := "answerWrites", unfollowed := true, recurses := true, apart := false, narrowed := true }
def AnswerWritesUptoSaid : Prop := answerWritesUptoRow.holds Try.pinned (OpenSpec.upto answerWritesSpec)

/-- 'bowerlaw39.HistoryChecks', WHERE WHAT IT READS IS OF BULK AT MOST 1048576: true; the input reads as it did. -/
def historyChecksUptoRow : OpenClaim := { program := "ythbafbgnclpbpaa", sum := "0cafafd976c5abce9f08807d21e1547a67d5eaff5d279b550e6fc223aa2b6bd6", func := "bower/bowerlaw39.HistoryChecks", spec := "historyChecks", unfollowed := true, recurses := true, apart := false, narrowed := true }
def HistoryChecksUptoSaid : Prop := historyChecksUptoRow.holds Try.pinned (OpenSpec.upto historyChecksSpec)

/-- 'bowerlaw16.OpReads', WHERE WHAT IT READS IS OF BULK AT MOST 1048576: true; the input reads as it did. -/
def opReadsUptoRow : OpenClaim := { program := "ythbafbgnclpbpaa", sum := "0cafafd976c5abce9f08807d21e1547a67d5eaff5d279b550e6fc223aa2b6bd6", func := "bower/bowerlaw16.OpReads", spec := "opReads", unfollowed := true, recurses := true, apart := false, narrowed := true }
def OpReadsUptoSaid : Prop := opReadsUptoRow.holds Try.pinned (OpenSpec.upto opReadsSpec)

/-- 'bowerlaw16.OpWrites', WHERE WHAT IT READS IS OF BULK AT MOST 1048576: true; the input reads as it did. -/
def opWritesUptoRow : OpenClaim := { program := "ythbafbgnclpbpaa", sum := "0cafafd976c5abce9f08807d21e1547a67d5eaff5d279b550e6fc223aa2b6bd6", func := "bower/bowerlaw16.OpWrites", spec := "opWrites", unfollowed := true, recurses := true, apart := false, narrowed := true }
def OpWritesUptoSaid : Prop := opWritesUptoRow.holds Try.pinned (OpenSpec.upto opWritesSpec)

/-- 'bowerlaw39.HistoryWrites', WHERE WHAT IT READS IS OF BULK AT MOST 1048576: true; the input reads as it did. -/
def historyWritesUptoRow : OpenClaim := { program := "ythbafbgnclpbpaa", sum := "0cafafd976c5abce9f08807d21e1547a67d5eaff5d279b550e6fc223aa2b6bd6", func := "bower/bowerlaw39.HistoryWrites", spec := "historyWrites", unfollowed := true, recurses := true, apart := false, narrowed := true }
def HistoryWritesUptoSaid : Prop := historyWritesUptoRow.holds Try.pinned (OpenSpec.upto historyWritesSpec)

/-- 'bowerlaw39.HistoryOrders', WHERE WHAT IT READS IS OF BULK AT MOST 1048576: true; the input reads as it did. -/
def historyOrdersUptoRow : OpenClaim := { program := "ythbafbgnclpbpaa", sum := "0cafafd976c5abce9f08807d21e1547a67d5eaff5d279b550e6fc223aa2b6bd6", func := "bower/bowerlaw39.HistoryOrders", spec := "historyOrders", unfollowed := true, recurses := true, apart := false, narrowed := true }
def HistoryOrdersUptoSaid : Prop := historyOrdersUptoRow.holds Try.pinned (OpenSpec.upto historyOrdersSpec)

end Rows
end Go.Proofs.Ythbafbgnclpbpaa
