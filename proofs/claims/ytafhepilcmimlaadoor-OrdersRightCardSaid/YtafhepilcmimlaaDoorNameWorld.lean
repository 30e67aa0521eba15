/- A world that holds the six names: for the row's witness. -/
import Derived.Test.YtafhepilcmimlaaDoorRows
namespace Go.Proofs.YtafhepilcmimlaaDoor

def namesIn : Obj → Obj
  | .cells _ t frozen => .cells #[.string ⟨#[97]⟩, .string ⟨#[98]⟩, .string ⟨#[98, 111, 120]⟩, .string ⟨#[100]⟩, .string ⟨#[101, 50]⟩, .string ⟨#[102, 117, 110]⟩] t frozen
  | o => o
/-- The names, laid in their block. -/
def layNames (w : World) : World := { w with heap := w.heap.modify 0 namesIn }

end Go.Proofs.YtafhepilcmimlaaDoor
