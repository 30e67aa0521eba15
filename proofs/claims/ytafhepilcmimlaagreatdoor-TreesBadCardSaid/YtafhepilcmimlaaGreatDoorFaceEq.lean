/- Are two faces the same? -/
import Derived.Test.YtafhepilcmimlaaGreatDoorOpen
import Derived.Test.YtafhepilcmimlaaGreatDoorStrs
import Derived.Laws.StructEq
import Derived.Deep.QuietTactic
import Derived.BigQuiet
import Derived.WalkSmall
namespace Go.Proofs.YtafhepilcmimlaaGreatDoor
open Go.RowKit Go.Shelf

def eqB (a b : ByteArray) : Bool := a.toList == b.toList
theorem eqB_iff (a b : ByteArray) : eqB a b = decide (a = b) := str_eq a b
def knownEq (a b : Known) : Bool := eqB a.name b.name && eqB a.is_ b.is_

end Go.Proofs.YtafhepilcmimlaaGreatDoor
