/- The law KindOpens: its walk. -/
import Derived.Test.YtamkgphamffdcaaOpenB
import Derived.Handy
namespace Go.Proofs.Ytamkgphamffdcaa
open Go.ChangeShapes Go.WideShapes Go.ChangeAt Go.RowKit
open Go.ChangeMaps (open_string)

set_option maxHeartbeats 400000 in
theorem kindOpens_calls (s : ByteArray) (w : World) (hs : s.size ≤ 140737488355328) :
    Calls Try.prog 20 #[.string s] w fun e w' => e = .returned (.bool true) ∧ Below w.heap.size w w' := by
  go_enter Try.func20, Try.ntmps20
  go_wp2_with (first
    | (go_at_call 70; refine (kindOpen_any s _).mono ?_; rintro e w' ⟨rfl, rfl⟩)
    | (go_at_call 71; refine (isOpen_any s _ hs).mono ?_; rintro e w' ⟨rfl, rfl⟩))
  go_ret
  exact ⟨rfl, Below.refl _ _⟩

end Go.Proofs.Ytamkgphamffdcaa
