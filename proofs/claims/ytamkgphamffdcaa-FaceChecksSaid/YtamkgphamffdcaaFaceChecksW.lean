/- The law FaceChecks: its walk. -/
import Derived.Test.YtamkgphamffdcaaFaceChk
import Derived.Handy
namespace Go.Proofs.Ytamkgphamffdcaa
open Go.ChangeShapes Go.WideShapes Go.ChangeAt Go.RowKit
open Go.ChangeMaps (open_string)

set_option maxRecDepth 100000 in
set_option maxHeartbeats 1000000 in
theorem faceChecks_calls (cs : List Value) (a : Face) (W : World) (hr : FaceR W (old W.heap.size) cs a) :
    Calls Try.prog 25 #[.agg cs.toArray] W fun e w' => e = .returned (.bool true) ∧ Below W.heap.size W w' := by
  have hO : ∀ k, old W.heap.size k → k < W.heap.size := fun _ h => h
  have hc := fun U (hU : Below W.heap.size W U) => faceCheck_any a cs (old W.heap.size) U (foot_up hO hU) (FaceR.stays.later hr hU hO)
  have hd := fun U (hU : Below W.heap.size W U) => faceFault_any a cs (old W.heap.size) U (foot_up hO hU) (FaceR.stays.later hr hU hO)
  obtain ⟨T1, e1, T2, e2, rfl⟩ := FaceR.form hr
  generalize faceErr a = z at hc hd
  have HC := Lib.hid hc; have HD := Lib.hid hd
  clear hc hd
  clear hr
  go_enter Try.func25, Try.ntmps25
  go_wp2_with fail
  have hBb := Box.made W 32 #[.slice T1 a.types.length e1, .slice T2 a.funcs.length e2]
  have hbb : Below W.heap.size W (W.alloc (.cells #[.slice T1 a.types.length e1, .slice T2 a.funcs.length e2] 32)) := by go_grown
  have hzb : (W.alloc (.cells #[.slice T1 a.types.length e1, .slice T2 a.funcs.length e2] 32)).heap.size = W.heap.size + 1 := by simp
  generalize W.alloc (.cells #[.slice T1 a.types.length e1, .slice T2 a.funcs.length e2] 32) = W1 at hBb hbb hzb ⊢
  refine (HC.out _ hbb).mono ?_
  rintro e W2 ⟨rfl, hb2⟩
  have hB2 := hBb.later hb2 hBb.lt
  have xx0 := hB2.at_ 0 _ rfl
  have xx1 := hB2.at_ 1 _ rfl
  have HB := Lib.hid (hbb.trans (hb2.mono hbb.size))
  clear hBb hbb hb2 hzb hB2
  go_wp2_with fail
  refine (HD.out _ HB.out).mono ?_
  rintro e W3 ⟨rfl, hb3⟩
  go_wp2_with fail
  go_ret
  exact ⟨ret_bool (by simp), HB.out.trans (hb3.mono HB.out.size)⟩

end Go.Proofs.Ytamkgphamffdcaa
