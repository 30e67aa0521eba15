/- The law AliasFroms: its walk. -/
import Derived.Test.YtamkgphamffdcaaAliasFrom
import Derived.Test.YtamkgphamffdcaaMay
import Derived.Test.YtamkgphamffdcaaRefl
import Derived.Handy
namespace Go.Proofs.Ytamkgphamffdcaa
open Go.ChangeShapes Go.WideShapes Go.ChangeAt Go.RowKit
open Go.ChangeMaps (open_string)

set_option maxRecDepth 100000 in
set_option maxHeartbeats 2000000 in
theorem aliasFroms_calls (cs : List Value) (m : Module) (v : Value) (l : List Import) (t : ByteArray) (W : World) (hm : ModuleR W (old W.heap.size) cs m) (hl : SliceOf ImportR 4 72 W (old W.heap.size) v l) (_ht : t.size ≤ 140737488355328) :
    Calls Try.prog 16 #[.agg cs.toArray, v, .string t] W fun e w' => e = .returned (.bool true) ∧ Below W.heap.size W w' := by
  have hO : ∀ k, old W.heap.size k → k < W.heap.size := fun _ h => h
  have hmy := fun U (hU : Below W.heap.size W U) => may_any m l cs v (old W.heap.size) (old W.heap.size) U (foot_up hO hU) (foot_up hO hU) (ModuleR.stays.later hm hU hO) (hl.up ImportR.stays hO hU)
  have hc := fun U (hU : Below W.heap.size W U) => aliasFrom_any m l t cs v (old W.heap.size) (old W.heap.size) U (foot_up hO hU) (foot_up hO hU) (ModuleR.stays.later hm hU hO) (hl.up ImportR.stays hO hU)
  have hd := fun U (hU : Below W.heap.size W U) => fromOf_any m l t cs v (old W.heap.size) (old W.heap.size) U (foot_up hO hU) (foot_up hO hU) (ModuleR.stays.later hm hU hO) (hl.up ImportR.stays hO hU)
  obtain ⟨U1, u1, T1, e1, T2, e2, rfl, _⟩ := ModuleR.form hm
  obtain ⟨L1, l1, rfl, _⟩ := hl.form
  obtain ⟨z, hz⟩ : ∃ z, (mayB m l) = z := ⟨_, rfl⟩
  rw [hz] at hmy
  have Z := Lib.hid hz; clear hz
  generalize fromIs m l t = E1 at hc hd
  generalize fromFace m l t = E2 at hc hd
  have HM := Lib.hid hmy; have HC := Lib.hid hc; have HD := Lib.hid hd
  clear hmy hc hd
  clear hm hl
  go_enter Try.func16, Try.ntmps16
  go_wp2_with fail
  have hBb := Box.made W 59 #[.slice U1 m.uses.length u1, .slice T1 m.types.length e1, .slice T2 m.funcs.length e2]
  have hbb : Below W.heap.size W (W.alloc (.cells #[.slice U1 m.uses.length u1, .slice T1 m.types.length e1, .slice T2 m.funcs.length e2] 59)) := by go_grown
  have hzb : (W.alloc (.cells #[.slice U1 m.uses.length u1, .slice T1 m.types.length e1, .slice T2 m.funcs.length e2] 59)).heap.size = W.heap.size + 1 := by simp
  generalize W.alloc (.cells #[.slice U1 m.uses.length u1, .slice T1 m.types.length e1, .slice T2 m.funcs.length e2] 59) = W1 at hBb hbb hzb ⊢
  refine (HM.out _ hbb).mono ?_
  rintro e W2 ⟨rfl, hb2⟩
  have hB2 := hBb.later hb2 hBb.lt
  have hbw := hbb.trans (hb2.mono hbb.size)
  have xp0 := hB2.at_ 0 _ rfl
  have xp1 := hB2.at_ 1 _ rfl
  have xp2 := hB2.at_ 2 _ rfl
  have HB2 := Lib.hid hB2; have HBW := Lib.hid hbw
  clear hB2 hbw
  clear hBb hbb hb2 hzb
  cases z with
  | false =>
    go_wp2_with fail
    go_ret
    exact ⟨rfl, HBW.out⟩
  | true =>
    go_wp2_with fail
    refine (HC.out _ HBW.out).mono ?_
    rintro e W3 ⟨ds, rfl, hb3, hr3⟩
    obtain ⟨P1, p1, P2, p2, rfl⟩ := FaceR.form hr3
    have hB3 := HB2.out.later hb3 HB2.out.lt
    have hbw := HBW.out.trans (hb3.mono HBW.out.size)
    have hF3 : ∀ k, fresh W2.heap.size W3.heap.size k → k < W3.heap.size := fun k hk => hk.2
    have HB3 := Lib.hid hB3; have HBW3 := Lib.hid hbw; have HR3 := Lib.hid hr3; have HF3 := Lib.hid hF3
    clear hB3 hbw hr3 hF3
    clear hb3 xp0 xp1 xp2
    go_upto_region 4 with fail
    have hBc := Box.made W3 32 #[.slice P1 E2.types.length p1, .slice P2 E2.funcs.length p2]
    have hbc : Below W3.heap.size W3 (W3.alloc (.cells #[.slice P1 E2.types.length p1, .slice P2 E2.funcs.length p2] 32)) := by go_grown
    have hzc : (W3.alloc (.cells #[.slice P1 E2.types.length p1, .slice P2 E2.funcs.length p2] 32)).heap.size = W3.heap.size + 1 := by simp
    generalize W3.alloc (.cells #[.slice P1 E2.types.length p1, .slice P2 E2.funcs.length p2] 32) = W4 at hBc hbc hzc ⊢
    have hbw := HBW3.out.trans (hbc.mono HBW3.out.size)
    have hB4 := HB3.out.later hbc HB3.out.lt
    have xq0 := hB4.at_ 0 _ rfl
    have xq1 := hB4.at_ 1 _ rfl
    have xq2 := hB4.at_ 2 _ rfl
    have HR4 := Lib.hid (FaceR.stays.later HR3.out hbc HF3.out)
    have HF4 := Lib.hid (foot_up HF3.out hbc)
    have HB4 := Lib.hid hB4; have HBW4 := Lib.hid hbw; have HBc := Lib.hid hBc
    clear hB4 hbw hBc
    clear hbc hzc
    go_wp2_with fail
    refine (HD.out _ HBW4.out).mono ?_
    rintro e W5 ⟨ds, rfl, hb5, hr5⟩
    obtain ⟨Q1, q1, Q2, q2, rfl⟩ := FaceR.form hr5
    have hbw := HBW4.out.trans (hb5.mono HBW4.out.size)
    have HR5 := Lib.hid (FaceR.stays.later HR4.out hb5 HF4.out)
    have HF5 := Lib.hid (foot_up HF4.out hb5)
    have hBc5 := HBc.out.later hb5 HBc.out.lt
    have HBW5 := Lib.hid hbw; have HS5 := Lib.hid hr5; have HBc5 := Lib.hid hBc5
    clear hbw hr5 hBc5
    clear hb5 xq0 xq1 xq2
    go_upto_region 5 with fail
    have hBd := Box.made W5 32 #[.slice Q1 E2.types.length q1, .slice Q2 E2.funcs.length q2]
    have hbd : Below W5.heap.size W5 (W5.alloc (.cells #[.slice Q1 E2.types.length q1, .slice Q2 E2.funcs.length q2] 32)) := by go_grown
    have hzd : (W5.alloc (.cells #[.slice Q1 E2.types.length q1, .slice Q2 E2.funcs.length q2] 32)).heap.size = W5.heap.size + 1 := by simp
    generalize W5.alloc (.cells #[.slice Q1 E2.types.length q1, .slice Q2 E2.funcs.length q2] 32) = W6 at hBd hbd hzd ⊢
    have hBc6 := HBc5.out.later hbd HBc5.out.lt
    have xr0 := hBc6.at_ 0 _ rfl
    have xr1 := hBc6.at_ 1 _ rfl
    have xs0 := hBd.at_ 0 _ rfl
    have xs1 := hBd.at_ 1 _ rfl
    have hOW := foot_up hO HBW5.out
    have HX := Lib.hid (sameFace_any E2 E2 _ _ _ _ W6 (foot_up HF5.out hbd) (foot_up hOW hbd) (FaceR.stays.later HR5.out hbd HF5.out) (FaceR.stays.later HS5.out hbd hOW))
    have HB7 := Lib.hid (HBW5.out.trans (hbd.mono HBW5.out.size))
    clear hBc6 hBd hbd hzd hOW
    go_wp2_with fail
    refine HX.out.mono ?_
    rintro e W7 ⟨rfl, hb8⟩
    go_wp2_with fail
    go_ret
    exact ⟨ret_bool (by rw [faceEq_self]), HB7.out.trans (hb8.mono HB7.out.size)⟩

end Go.Proofs.Ytamkgphamffdcaa
