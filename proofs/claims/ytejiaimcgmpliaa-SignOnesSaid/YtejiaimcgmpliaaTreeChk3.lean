/- Functions that must be right: tree.fun. -/
import Derived.Test.YtejiaimcgmpliaaTreeChk2
import Derived.Test.YtejiaimcgmpliaaTreeErr3
namespace Go.Proofs.Ytejiaimcgmpliaa
open Go.RowKit Go.Shelf

end Go.Proofs.Ytejiaimcgmpliaa
