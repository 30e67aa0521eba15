/- Functions that must be right: tree.fun. -/
import Derived.Test.YthedfpcdibhfpaaDoorTreeChk2
import Derived.Test.YthedfpcdibhfpaaDoorTreeErr3
namespace Go.Proofs.YthedfpcdibhfpaaDoor
open Go.RowKit Go.Shelf

end Go.Proofs.YthedfpcdibhfpaaDoor
