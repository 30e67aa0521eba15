/- The law FaceFuncs: its walk. -/
import Derived.Test.YtamkgphamffdcaaFaceFunc
import Derived.Test.YtamkgphamffdcaaSame
import Derived.Handy
namespace Go.Proofs.Ytamkgphamffdcaa
open Go.ChangeShapes Go.WideShapes Go.ChangeAt Go.RowKit
open Go.ChangeMaps (open_string)

theorem eqB_refl' (a : ByteArray) : eqB a a = true := by simp [eqB]
theorem sigEq_refl' (a : Sig) : sigEq a a = true := by simp [sigEq, eqB_refl', listEq_refl eqB_refl']

set_option maxRecDepth 100000 in
set_option maxHeartbeats 2000000 in
theorem faceFuncs_calls (cs : List Value) (a : Face) (t : ByteArray) (W : World) (ha : FaceR W (old W.heap.size) cs a) (_ht : t.size ≤ 140737488355328) :
    Calls Try.prog 15 #[.agg cs.toArray, .string t] W fun e w' => e = .returned (.bool true) ∧ Below W.heap.size W w' := by
  have hO : ∀ k, old W.heap.size k → k < W.heap.size := fun _ h => h
  have hca := fun U (hU : Below W.heap.size W U) => FaceR.stays W U _ _ cs a ha (fun _ h => h) (Keeps.of_below hU hO)
  have hf := fun U (hU : Below W.heap.size W U) => faceFault_any a cs (old W.heap.size) U (foot_up hO hU) (hca U hU)
  have hc := fun U (hU : Below W.heap.size W U) hR => faceFunc_any a t cs (old W.heap.size) U (foot_up hO hU) (hca U hU) hR
  have hd := fun U (hU : Below W.heap.size W U) => funcIn_any a t cs (old W.heap.size) U (foot_up hO hU) (hca U hU)
  have hR := fun (h : faceErr a = 0) => (face_rising h).2.1
  obtain ⟨T1, e1, T2, e2, rfl⟩ := FaceR.form ha
  obtain ⟨z, hz⟩ : ∃ z, faceErr a = z := ⟨_, rfl⟩
  rw [hz] at hf hR
  generalize funcIn a.funcs t = E1 at hc hd
  generalize funcCode a.funcs t = E2 at hc hd
  have HF := Lib.hid hf; have HC := Lib.hid hc; have HD := Lib.hid hd; have HR := Lib.hid hR
  clear hf hc hd hR hz hca ha
  go_enter Try.func15, Try.ntmps15
  go_wp2_with fail
  have hB := Box.made W 32 #[.slice T1 a.types.length e1, .slice T2 a.funcs.length e2]
  have hb0 : Below W.heap.size W (W.alloc (.cells #[.slice T1 a.types.length e1, .slice T2 a.funcs.length e2] 32)) := by go_grown
  generalize W.alloc (.cells #[.slice T1 a.types.length e1, .slice T2 a.funcs.length e2] 32) = W1 at hB hb0 ⊢
  refine (HF.out _ hb0).mono ?_
  rintro e w1 ⟨rfl, hb1⟩
  have hB1 := hB.later hb1 hB.lt
  have hb2 := hb0.trans (hb1.mono hb0.size)
  have a0 := hB1.at_ 0 _ rfl
  have a1 := hB1.at_ 1 _ rfl
  have HB := Lib.hid hb2; have HBx := Lib.hid hB1
  clear hB hB1 hb0 hb1 hb2
  by_cases hz : z = 0
  · subst hz
    go_wp2_with fail
    refine (HC.out _ HB.out (HR.out (by trivial))).mono ?_
    rintro e w2 ⟨ds, rfl, hb3, hr3⟩
    have hr3' := hr3
    obtain ⟨pv, rfl, _, _, hp⟩ := hr3'
    obtain ⟨P1, p1, rfl, _⟩ := hp.form
    have hB2 := HBx.out.later hb3 HBx.out.lt
    have hb4 := HB.out.trans (hb3.mono HB.out.size)
    have HB4 := Lib.hid hb4
    have HR3 := Lib.hid hr3
    have HB2 := Lib.hid hB2
    clear hb3 hb4 a0 a1 hr3 hp hB2
    go_upto_region 4 with fail
    have hS := Box.made w2 52 #[.string E1.name, .slice P1 E1.params.length p1, .string E1.result]
    have hB3 := HB2.out.alloc (.cells #[.string E1.name, .slice P1 E1.params.length p1, .string E1.result] 52)
    have hs3 : Below w2.heap.size w2 (w2.alloc (.cells #[.string E1.name, .slice P1 E1.params.length p1, .string E1.result] 52)) := by go_grown
    generalize w2.alloc (.cells #[.string E1.name, .slice P1 E1.params.length p1, .string E1.result] 52) = W3 at hS hB3 hs3 ⊢
    have a0 := hB3.at_ 0 _ rfl
    have a1 := hB3.at_ 1 _ rfl
    have HS := Lib.hid hS
    have HW3 := Lib.hid (HB4.out.trans (hs3.mono HB4.out.size))
    have HF3 := Lib.hid (fun k (hk : fresh w1.heap.size w2.heap.size k) => Nat.lt_of_lt_of_le hk.2 hs3.size)
    have HR4 := Lib.hid (SigR.stays _ _ _ _ _ _ HR3.out (fun _ h => h) (Keeps.of_below hs3 (fun k hk => hk.2)))
    clear hS hB3 hs3
    go_wp2_with fail
    refine (HD.out _ HW3.out).mono ?_
    rintro e w4 ⟨ds, rfl, hb5, hr5⟩
    have hr5' := hr5
    obtain ⟨qv, rfl, _, _, hq⟩ := hr5'
    obtain ⟨Q1, q1, rfl, _⟩ := hq.form
    have hS4 := HS.out.later hb5 HS.out.lt
    have hsz := HW3.out.size
    have hb6 := HW3.out.trans (hb5.mono hsz)
    have HR6 := Lib.hid (SigR.stays _ _ _ _ _ _ HR4.out (fun _ h => h) (Keeps.of_below hb5 HF3.out))
    have HF6 := Lib.hid (fun k hk => Nat.lt_of_lt_of_le (HF3.out k hk) hb5.size)
    have HB6 := Lib.hid hb6
    have HR5 := Lib.hid hr5
    have HS4 := Lib.hid hS4
    clear hb5 hb6 hr5 hq hS4 a0 a1
    go_upto_region 5 with fail
    have hS2 := Box.made w4 52 #[.string E1.name, .slice Q1 E1.params.length q1, .string E1.result]
    have hS5 := HS4.out.alloc (.cells #[.string E1.name, .slice Q1 E1.params.length q1, .string E1.result] 52)
    have hs5 : Below w4.heap.size w4 (w4.alloc (.cells #[.string E1.name, .slice Q1 E1.params.length q1, .string E1.result] 52)) := by go_grown
    generalize w4.alloc (.cells #[.string E1.name, .slice Q1 E1.params.length q1, .string E1.result] 52) = W5 at hS2 hS5 hs5 ⊢
    have c0 := hS2.at_ 0 _ rfl
    have c1 := hS2.at_ 1 _ rfl
    have c2 := hS2.at_ 2 _ rfl
    have d0 := hS5.at_ 0 _ rfl
    have d1 := hS5.at_ 1 _ rfl
    have d2 := hS5.at_ 2 _ rfl
    have hOW := foot_up hO HB6.out
    have HX := Lib.hid (same_sig E1 E1 _ _ _ _ W5 (fun k hk => Nat.lt_of_lt_of_le (HF6.out k hk) hs5.size) (foot_up hOW hs5) (SigR.stays _ _ _ _ _ _ HR6.out (fun _ h => h) (Keeps.of_below hs5 HF6.out)) (SigR.stays _ _ _ _ _ _ HR5.out (fun _ h => h) (Keeps.of_below hs5 hOW)))
    have HB7 := Lib.hid (HB6.out.trans (hs5.mono HB6.out.size))
    clear hS2 hS5 hs5 hOW
    go_wp2_with fail
    refine HX.out.mono ?_
    rintro e w6 ⟨rfl, hb8⟩
    go_wp2_with fail
    go_ret
    exact ⟨ret_bool (sigEq_refl' E1), HB7.out.trans (hb8.mono HB7.out.size)⟩
  · have hzn : (z != 0) = true := by simp [hz]
    go_wp2_with fail
    go_ret
    exact ⟨rfl, HB.out⟩

end Go.Proofs.Ytamkgphamffdcaa
