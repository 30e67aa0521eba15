/- Are lists of texts, of findings, are signatures the same: the laws' own sameTexts, sameDiags, sameSig. -/
import Derived.Test.YthedfpcdibhfpaaDoorFaceEq2
import Derived.Test.YthedfpcdibhfpaaDoorBase
import Derived.Deep.QuietTactic
import Derived.BigQuiet
namespace Go.Proofs.YthedfpcdibhfpaaDoor
open Go.RowKit Go.Shelf

def diagEq (a b : Diag) : Bool := eqB a.where_ b.where_ && (a.code == b.code)








end Go.Proofs.YthedfpcdibhfpaaDoor
