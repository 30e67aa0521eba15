/- What must be, else a fault is thrown: tree.need, tree.caught. -/
import Derived.Test.YtejiaimcgmpliaaBase
import Derived.Test.YtejiaimcgmpliaaRows
import Derived.Defers
import Derived.Recover
import Derived.WalkSmall
import Derived.Handy
namespace Go.Proofs.Ytejiaimcgmpliaa
open Go.RowKit Go.Shelf

end Go.Proofs.Ytejiaimcgmpliaa
