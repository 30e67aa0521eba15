/- Functions that must be right: tree.fun. -/
import Derived.Test.YtoejhgbndehaiaaTreeChk2
import Derived.Test.YtoejhgbndehaiaaTreeErr3
namespace Go.Proofs.Ytoejhgbndehaiaa
open Go.RowKit Go.Shelf

end Go.Proofs.Ytoejhgbndehaiaa
