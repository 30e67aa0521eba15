/- Functions that must be right: tree.fun. -/
import Derived.Test.YtafhepilcmimlaaDoorTreeChk2
import Derived.Test.YtafhepilcmimlaaDoorTreeErr3
namespace Go.Proofs.YtafhepilcmimlaaDoor
open Go.RowKit Go.Shelf

end Go.Proofs.YtafhepilcmimlaaDoor
