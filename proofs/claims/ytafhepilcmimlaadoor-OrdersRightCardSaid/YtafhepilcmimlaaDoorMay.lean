/- A module, and imports, that may be. -/
import Derived.Test.YtafhepilcmimlaaDoorModErr
import Derived.Test.YtafhepilcmimlaaDoorImpErr
import Derived.Test.YtafhepilcmimlaaDoorBase
import Derived.Handy
namespace Go.Proofs.YtafhepilcmimlaaDoor
open Go.RowKit Go.Shelf

def mayB (m : Module) (l : List Import) : Bool := decide (modErr m = 0) && decide (importsErr l = 0)

theorem may_both {m : Module} {l : List Import} (h : mayB m l = true) : modErr m = 0 ∧ importsErr l = 0 := by
  unfold mayB at h
  simpa using h
theorem modErr_small {m : Module} (h : modErr m = 0) : m.uses.length + m.types.length + m.funcs.length ≤ 24 := by
  unfold modErr at h
  by_cases h24 : 24 < m.uses.length + m.types.length + m.funcs.length
  · rw [if_pos h24] at h; cases h
  · omega

end Go.Proofs.YtafhepilcmimlaaDoor
