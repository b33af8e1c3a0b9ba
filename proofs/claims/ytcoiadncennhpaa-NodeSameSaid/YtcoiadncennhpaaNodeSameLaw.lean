/- The law NodeSame, as its row wants it. -/
import Derived.Test.YtcoiadncennhpaaNodeDup2
namespace Go.Proofs.Ytcoiadncennhpaa
open Go.RowKit

theorem nodesame_row (a : Nd) (A B C : Option Addr) (ca cb cc : Nat) (b : Nd) (A' B' C' : Option Addr) (ca' cb' cc' : Nat) (w : World) (h : Lies w a A B C ca cb cc) (_ : Bnd a) (k : Lies w b A' B' C' ca' cb' cc') (_ : Bnd b) :
    Calls Try.prog 4 #[.agg (ndCells a A B C ca cb cc), .agg (ndCells b A' B' C' ca' cb' cc')] w (Ret (.bool true) w) := nodesame_any a b A B C A' B' C' ca cb cc ca' cb' cc' w h k

end Go.Proofs.Ytcoiadncennhpaa
