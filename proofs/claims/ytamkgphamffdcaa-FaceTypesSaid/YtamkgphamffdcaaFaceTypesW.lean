/- The law FaceTypes: its walk. -/
import Derived.Test.YtamkgphamffdcaaFaceFind
import Derived.Handy
namespace Go.Proofs.Ytamkgphamffdcaa
open Go.ChangeShapes Go.WideShapes Go.ChangeAt Go.RowKit
open Go.ChangeMaps (open_string)

set_option maxRecDepth 100000 in
set_option maxHeartbeats 1000000 in
theorem faceTypes_calls (cs : List Value) (a : Face) (t : ByteArray) (W : World) (ha : FaceR W (old W.heap.size) cs a) (_ht : t.size ≤ 140737488355328) :
    Calls Try.prog 12 #[.agg cs.toArray, .string t] W fun e w' => e = .returned (.bool true) ∧ Below W.heap.size W w' := by
  have hO : ∀ k, old W.heap.size k → k < W.heap.size := fun _ h => h
  have hca := fun U (hU : Below W.heap.size W U) => FaceR.stays W U _ _ cs a ha (fun _ h => h) (Keeps.of_below hU hO)
  have hf := fun U (hU : Below W.heap.size W U) => faceFault_any a cs (old W.heap.size) U (foot_up hO hU) (hca U hU)
  have hc := fun U (hU : Below W.heap.size W U) hR => faceType_any a t cs (old W.heap.size) U (foot_up hO hU) (hca U hU) hR
  have hd := fun U (hU : Below W.heap.size W U) => typeIn_any a t cs (old W.heap.size) U (foot_up hO hU) (hca U hU)
  have hR := fun (h : faceErr a = 0) => (face_rising h).1
  obtain ⟨T1, e1, T2, e2, rfl⟩ := FaceR.form ha
  obtain ⟨z, hz⟩ : ∃ z, faceErr a = z := ⟨_, rfl⟩
  rw [hz] at hf hR
  generalize (typeIn a.types t).1 = E1 at hc hd
  generalize (typeIn a.types t).2 = E2 at hc hd
  have HF := Lib.hid hf; have HC := Lib.hid hc; have HD := Lib.hid hd; have HR := Lib.hid hR
  clear hf hc hd hR hz hca ha
  go_enter Try.func12, Try.ntmps12
  go_wp2_with fail
  have hB := Box.made W 32 #[.slice T1 a.types.length e1, .slice T2 a.funcs.length e2]
  have hb0 : Below W.heap.size W (W.alloc (.cells #[.slice T1 a.types.length e1, .slice T2 a.funcs.length e2] 32)) := by go_grown
  generalize W.alloc (.cells #[.slice T1 a.types.length e1, .slice T2 a.funcs.length e2] 32) = W1 at hB hb0 ⊢
  refine (HF.out _ hb0).mono ?_
  rintro e w1 ⟨rfl, hb1⟩
  have hB1 := hB.later hb1 hB.lt
  have hb2 := hb0.trans (hb1.mono hb0.size)
  have a0 := hB1.at_ 0 _ rfl
  have a1 := hB1.at_ 1 _ rfl
  have HB := Lib.hid hb2; have HBx := Lib.hid hB1
  clear hB hB1 hb0 hb1 hb2
  by_cases hz : z = 0
  · subst hz
    go_wp2_with fail
    refine (HC.out _ HB.out (HR.out (by trivial))).mono ?_
    rintro e w2 ⟨rfl, hb3⟩
    have hB2 := HBx.out.later hb3 HBx.out.lt
    have hb4 := HB.out.trans (hb3.mono HB.out.size)
    have a0' := hB2.at_ 0 _ rfl
    have a1' := hB2.at_ 1 _ rfl
    have HB4 := Lib.hid hb4
    clear hB2 hb3 hb4 a0 a1
    go_wp2_with fail
    refine (HD.out _ HB4.out).mono ?_
    rintro e w3 ⟨rfl, hb5⟩
    go_wp2_with fail
    go_ret
    exact ⟨ret_bool (by simp), HB4.out.trans (hb5.mono HB4.out.size)⟩
  · have hzn : (z != 0) = true := by simp [hz]
    go_wp2_with fail
    go_ret
    exact ⟨rfl, HB.out⟩

end Go.Proofs.Ytamkgphamffdcaa
