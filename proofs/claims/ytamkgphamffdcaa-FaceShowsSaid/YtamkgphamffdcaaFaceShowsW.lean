/- The law FaceShows: its walk. -/
import Derived.Test.YtamkgphamffdcaaFaceShow
import Derived.Test.YtamkgphamffdcaaFaceTxtR
import Derived.Handy
namespace Go.Proofs.Ytamkgphamffdcaa
open Go.ChangeShapes Go.WideShapes Go.ChangeAt Go.RowKit
open Go.ChangeMaps (open_string)

set_option maxRecDepth 100000 in
set_option maxHeartbeats 1000000 in
theorem faceShows_calls (cs : List Value) (a : Face) (W : World) (ha : FaceR W (old W.heap.size) cs a) :
    Calls Try.prog 28 #[.agg cs.toArray] W fun e w' => e = .returned (.bool true) ∧ Below W.heap.size W w' := by
  have hO : ∀ k, old W.heap.size k → k < W.heap.size := fun _ h => h
  have hc := fun U (hU : Below W.heap.size W U) => faceShow_any a cs (old W.heap.size) U (foot_up hO hU) (FaceR.stays.later ha hU hO)
  have hd := fun U (hU : Below W.heap.size W U) => faceText_any a cs (old W.heap.size) U (foot_up hO hU) (FaceR.stays.later ha hU hO)
  obtain ⟨T1, e1, T2, e2, rfl⟩ := FaceR.form ha
  generalize shownTxt a = S at hc hd
  generalize faceErr a = E at hc hd
  have HC := Lib.hid hc; have HD := Lib.hid hd
  clear hc hd
  clear ha
  go_enter Try.func28, Try.ntmps28
  go_upto_region 1 with fail
  have hBb := Box.made W 32 #[.slice T1 a.types.length e1, .slice T2 a.funcs.length e2]
  have hbb : Below W.heap.size W (W.alloc (.cells #[.slice T1 a.types.length e1, .slice T2 a.funcs.length e2] 32)) := by go_grown
  have hzb : (W.alloc (.cells #[.slice T1 a.types.length e1, .slice T2 a.funcs.length e2] 32)).heap.size = W.heap.size + 1 := by simp
  generalize W.alloc (.cells #[.slice T1 a.types.length e1, .slice T2 a.funcs.length e2] 32) = W1 at hBb hbb hzb ⊢
  have x0 := hBb.at_ 0 _ rfl
  have x1 := hBb.at_ 1 _ rfl
  have HB := Lib.hid hBb; have Hb := Lib.hid hbb
  clear hBb hbb
  clear hzb
  go_wp2_with fail
  refine (HC.out _ Hb.out).mono ?_
  rintro e W2 ⟨rfl, hb2⟩
  have hB2 := HB.out.later hb2 HB.out.lt
  clear x0 x1
  have x0 := hB2.at_ 0 _ rfl
  have x1 := hB2.at_ 1 _ rfl
  have HB2 := Lib.hid (Hb.out.trans (hb2.mono Hb.out.size))
  clear hb2 hB2
  go_wp2_with fail
  refine (HD.out _ HB2.out).mono ?_
  rintro e W3 ⟨rfl, hb3⟩
  go_wp2_with fail
  go_ret
  exact ⟨ret_bool (by simp), HB2.out.trans (hb3.mono HB2.out.size)⟩

end Go.Proofs.Ytamkgphamffdcaa
