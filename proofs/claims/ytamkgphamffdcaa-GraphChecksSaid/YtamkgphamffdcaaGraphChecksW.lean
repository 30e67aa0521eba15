/- The law GraphChecks: its walk. -/
import Derived.Test.YtamkgphamffdcaaGraphErr
import Derived.Handy
namespace Go.Proofs.Ytamkgphamffdcaa
open Go.ChangeShapes Go.WideShapes Go.ChangeAt Go.RowKit
open Go.ChangeMaps (open_string)

set_option maxHeartbeats 1000000 in
theorem graphChecks_calls (v : Value) (l : List Node) (W : World) (hl : SliceOf NodeR 2 40 W (old W.heap.size) v l) :
    Calls Try.prog 17 #[v] W fun e w' => e = .returned (.bool true) ∧ Below W.heap.size W w' := by
  have hO : ∀ k, old W.heap.size k → k < W.heap.size := fun _ h => h
  have hc := fun U (hU : Below W.heap.size W U) => graphCheck_any v l (old W.heap.size) U (foot_up hO hU) (hl.up NodeR.stays hO hU)
  have hd := fun U (hU : Below W.heap.size W U) => nodesFault_any v l (old W.heap.size) U (foot_up hO hU) (hl.up NodeR.stays hO hU)
  generalize nodesErr l = z at hc hd
  obtain ⟨L1, l1, rfl, _⟩ := hl.form
  have HC := Lib.hid hc
  have HD := Lib.hid hd
  clear hc hd hl
  go_enter Try.func17, Try.ntmps17
  go_wp2_with fail
  refine (HC.out _ (Below.refl _ _)).mono ?_
  rintro e w1 ⟨rfl, hb⟩
  have HB := Lib.hid hb
  clear hb
  go_wp2_with fail
  refine (HD.out _ HB.out).mono ?_
  rintro e w2 ⟨rfl, hb2⟩
  go_wp2_with fail
  go_ret
  exact ⟨ret_bool (by simp), HB.out.trans (hb2.mono HB.out.size)⟩

end Go.Proofs.Ytamkgphamffdcaa
