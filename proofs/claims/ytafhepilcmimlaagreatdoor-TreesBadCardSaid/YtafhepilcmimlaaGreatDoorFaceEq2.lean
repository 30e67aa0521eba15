/- Are two faces the same: face.Same. -/
import Derived.Test.YtafhepilcmimlaaGreatDoorFaceEq
namespace Go.Proofs.YtafhepilcmimlaaGreatDoor
open Go.RowKit Go.Shelf

theorem lt_below {F : Foot} {B : Nat} {w W : World} (h : ∀ k, F k → k < w.heap.size) (hb : Below B w W) : ∀ k, F k → k < W.heap.size := fun k hk => Nat.lt_of_lt_of_le (h k hk) hb.size

def sigEq (a b : Sig) : Bool := eqB a.name b.name && (eqB a.result b.result && listEq eqB a.params b.params)
def faceEq (a b : Face) : Bool := listEq knownEq a.types b.types && listEq sigEq a.funcs b.funcs

end Go.Proofs.YtafhepilcmimlaaGreatDoor
