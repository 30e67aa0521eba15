/- What must be, else a fault is thrown: tree.need, tree.caught. -/
import Derived.Test.YthedfpcdibhfpaaDoorBase
import Derived.Test.YthedfpcdibhfpaaDoorRows
import Derived.Defers
import Derived.Recover
import Derived.WalkSmall
import Derived.Handy
namespace Go.Proofs.YthedfpcdibhfpaaDoor
open Go.RowKit Go.Shelf

end Go.Proofs.YthedfpcdibhfpaaDoor
