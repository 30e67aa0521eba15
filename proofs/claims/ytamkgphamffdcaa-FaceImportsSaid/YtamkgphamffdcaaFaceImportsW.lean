/- The law FaceImports: its walk. -/
import Derived.Test.YtamkgphamffdcaaImpChk
import Derived.Handy
namespace Go.Proofs.Ytamkgphamffdcaa
open Go.ChangeShapes Go.WideShapes Go.ChangeAt Go.RowKit
open Go.ChangeMaps (open_string)

set_option maxHeartbeats 1000000 in
theorem faceImports_calls (v : Value) (l : List Import) (W : World) (hl : SliceOf ImportR 4 72 W (old W.heap.size) v l) :
    Calls Try.prog 26 #[v] W fun e w' => e = .returned (.bool true) ∧ Below W.heap.size W w' := by
  have hO : ∀ k, old W.heap.size k → k < W.heap.size := fun _ h => h
  have hc := fun U (hU : Below W.heap.size W U) => checkImports_any v l (old W.heap.size) U (foot_up hO hU) (hl.up ImportR.stays hO hU)
  have hd := fun U (hU : Below W.heap.size W U) => importsFault_any v l (old W.heap.size) U (foot_up hO hU) (hl.up ImportR.stays hO hU)
  generalize importsErr l = z at hc hd
  obtain ⟨L1, l1, rfl, _⟩ := hl.form
  have HC := Lib.hid hc; have HD := Lib.hid hd
  clear hc hd
  clear hl
  go_enter Try.func26, Try.ntmps26
  go_wp2_with fail
  refine (HC.out _ (Below.refl _ _)).mono ?_
  rintro e w1 ⟨rfl, hb⟩
  have HB := Lib.hid hb
  clear hb
  go_wp2_with fail
  refine (HD.out _ HB.out).mono ?_
  rintro e w2 ⟨rfl, hb2⟩
  go_wp2_with fail
  go_ret
  exact ⟨ret_bool (by simp), HB.out.trans (hb2.mono HB.out.size)⟩

end Go.Proofs.Ytamkgphamffdcaa
