/- What must be, else a fault is thrown: tree.need, tree.caught. -/
import Derived.Test.YtoejhgbndehaiaaBase
import Derived.Test.YtoejhgbndehaiaaRows
import Derived.Defers
import Derived.Recover
import Derived.WalkSmall
import Derived.Handy
namespace Go.Proofs.Ytoejhgbndehaiaa
open Go.RowKit Go.Shelf

end Go.Proofs.Ytoejhgbndehaiaa
