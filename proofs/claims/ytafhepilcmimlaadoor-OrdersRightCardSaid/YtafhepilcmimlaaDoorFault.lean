/- What must be, else a fault is thrown: tree.need, tree.caught. -/
import Derived.Test.YtafhepilcmimlaaDoorBase
import Derived.Test.YtafhepilcmimlaaDoorRows
import Derived.Defers
import Derived.Recover
import Derived.WalkSmall
import Derived.Handy
namespace Go.Proofs.YtafhepilcmimlaaDoor
open Go.RowKit Go.Shelf

end Go.Proofs.YtafhepilcmimlaaDoor
