/- The law SignFaces: its walk. -/
import Derived.Test.YtoejhgbndehaiaaSignFace
import Derived.Test.YtoejhgbndehaiaaFaceOf
import Derived.Test.YtoejhgbndehaiaaMay
import Derived.Test.YtoejhgbndehaiaaRefl
import Derived.Handy
namespace Go.Proofs.Ytoejhgbndehaiaa
open Go.ChangeShapes Go.WideShapes Go.ChangeAt Go.RowKit
open Go.ChangeMaps (open_string)

set_option maxRecDepth 100000 in
set_option maxHeartbeats 4000000 in
theorem signFaces_calls (cs : List Value) (m : Module) (v : Value) (l : List Import) (W : World) (hm : ModuleR W (old W.heap.size) cs m) (hl : SliceOf ImportR 4 72 W (old W.heap.size) v l) :
    Calls Try.prog 5 #[.agg cs.toArray, v] W fun e w' => e = .returned (.bool true) ∧ Below W.heap.size W w' := by
  have hmy := fun U (hU : Below W.heap.size W U) => may_any m l cs v (old U.heap.size) (old U.heap.size) U old_lt old_lt (now_up ModuleR.stays hm hU) (now_lup ImportR.stays hl hU)
  have hc := fun (h : mayB m l = true) U (hU : Below W.heap.size W U) => signFace_any m l (may_both h).1 (may_both h).2 cs v U (now_up ModuleR.stays hm hU) (now_lup ImportR.stays hl hU)
  have hd := fun (h : mayB m l = true) U (hU : Below W.heap.size W U) => faceOf_any m l (may_both h).1 (may_both h).2 cs v U (now_up ModuleR.stays hm hU) (now_lup ImportR.stays hl hU)
  obtain ⟨U1, u1, T1, e1, T2, e2, rfl, _⟩ := ModuleR.form hm
  obtain ⟨L1, l1, rfl, _⟩ := hl.form
  obtain ⟨z, hz⟩ : ∃ z, (mayB m l) = z := ⟨_, rfl⟩
  rw [hz] at hmy hc hd
  have Z := Lib.hid hz; clear hz
  generalize faceOf m l = E at hc hd
  generalize faceBad m l = D at hc hd
  have HM := Lib.hid hmy; have HC := Lib.hid hc; have HD := Lib.hid hd
  clear hmy hc hd
  clear hm hl
  go_enter Try.func5, Try.ntmps5
  go_wp2_with fail
  have hBb := Box.made W 39 #[.slice U1 m.uses.length u1, .slice T1 m.types.length e1, .slice T2 m.funcs.length e2]
  have hbb : Below W.heap.size W (W.alloc (.cells #[.slice U1 m.uses.length u1, .slice T1 m.types.length e1, .slice T2 m.funcs.length e2] 39)) := by go_grown
  have hzb : (W.alloc (.cells #[.slice U1 m.uses.length u1, .slice T1 m.types.length e1, .slice T2 m.funcs.length e2] 39)).heap.size = W.heap.size + 1 := by simp
  generalize W.alloc (.cells #[.slice U1 m.uses.length u1, .slice T1 m.types.length e1, .slice T2 m.funcs.length e2] 39) = W1 at hBb hbb hzb ⊢
  refine (HM.out _ hbb).mono ?_
  rintro e W2 ⟨rfl, hb2⟩
  have hB2 := hBb.later hb2 hBb.lt
  have hbw := hbb.trans (hb2.mono hbb.size)
  have xp0 := hB2.at_ 0 _ rfl
  have xp1 := hB2.at_ 1 _ rfl
  have xp2 := hB2.at_ 2 _ rfl
  have HB2 := Lib.hid hB2; have HBW := Lib.hid hbw
  clear hB2 hbw
  clear hBb hbb hb2 hzb
  cases z with
  | false =>
    go_wp2_with fail
    go_ret
    exact ⟨rfl, HBW.out⟩
  | true =>
    go_wp2_with fail
    refine (HC.out (by first | rfl | trivial) _ HBW.out).mono ?_
    rintro e W3 ⟨q3, u3, rfl, hb3, hr3, hs3⟩
    obtain ⟨A3, n3, A3', n3', rfl⟩ := FaceR.form hr3
    obtain ⟨A4, n4, rfl, _⟩ := hs3.form
    have hB3 := HB2.out.later hb3 HB2.out.lt
    have hbw := HBW.out.trans (hb3.mono HBW.out.size)
    clear xp0 xp1 xp2
    have HBW3 := Lib.hid hbw; have HR3 := Lib.hid hr3; have HS3 := Lib.hid hs3; have HB3 := Lib.hid hB3
    clear hbw hr3 hs3 hB3
    clear hb3
    go_upto_region 4 with fail
    have hBs := Box.made W3 30 #[.slice A3 E.types.length n3, .slice A3' E.funcs.length n3']
    have hbs : Below W3.heap.size W3 (W3.alloc (.cells #[.slice A3 E.types.length n3, .slice A3' E.funcs.length n3'] 30)) := by go_grown
    have hzs : (W3.alloc (.cells #[.slice A3 E.types.length n3, .slice A3' E.funcs.length n3'] 30)).heap.size = W3.heap.size + 1 := by simp
    generalize W3.alloc (.cells #[.slice A3 E.types.length n3, .slice A3' E.funcs.length n3'] 30) = W4 at hBs hbs hzs ⊢
    have hB4 := HB3.out.later hbs HB3.out.lt
    have hr4 := FaceR.stays.later HR3.out hbs fresh_lt
    have hs4 := HS3.out.up DiagR.stays fresh_lt hbs
    have hbw := HBW3.out.trans (hbs.mono HBW3.out.size)
    have hz4 := hbs.size
    have xq0 := hB4.at_ 0 _ rfl
    have xq1 := hB4.at_ 1 _ rfl
    have xq2 := hB4.at_ 2 _ rfl
    have HBW4 := Lib.hid hbw; have HR4 := Lib.hid hr4; have HS4 := Lib.hid hs4; have HBs := Lib.hid hBs; have HZ4 := Lib.hid hz4
    clear hbw hr4 hs4 hBs hz4
    clear hB4 hbs hzs
    go_wp2_with fail
    refine (HD.out (by first | rfl | trivial) _ HBW4.out).mono ?_
    rintro e W5 ⟨q5, u5, rfl, hb5, hr5, hs5⟩
    obtain ⟨A5, n5, A5', n5', rfl⟩ := FaceR.form hr5
    obtain ⟨A6, n6, rfl, _⟩ := hs5.form
    have hBs5 := HBs.out.later hb5 HBs.out.lt
    have hf3 : ∀ k, fresh W2.heap.size W3.heap.size k → k < W4.heap.size := fun k hk => Nat.lt_of_lt_of_le hk.2 HZ4.out
    have hr45 := FaceR.stays.later HR4.out hb5 hf3
    have hs45 := HS4.out.up DiagR.stays hf3 hb5
    have hbw := HBW4.out.trans (hb5.mono HBW4.out.size)
    have hz5 := hb5.size
    clear xq0 xq1 xq2
    have HBW5 := Lib.hid hbw; have HR5 := Lib.hid hr5; have HS5 := Lib.hid hs5; have HBs5 := Lib.hid hBs5; have HR45 := Lib.hid hr45; have HS45 := Lib.hid hs45; have HZ5 := Lib.hid hz5
    clear hbw hr5 hs5 hBs5 hr45 hs45 hz5
    clear hb5
    go_upto_region 5 with fail
    have hBt := Box.made W5 30 #[.slice A5 E.types.length n5, .slice A5' E.funcs.length n5']
    have hbt : Below W5.heap.size W5 (W5.alloc (.cells #[.slice A5 E.types.length n5, .slice A5' E.funcs.length n5'] 30)) := by go_grown
    have hzt : (W5.alloc (.cells #[.slice A5 E.types.length n5, .slice A5' E.funcs.length n5'] 30)).heap.size = W5.heap.size + 1 := by simp
    generalize W5.alloc (.cells #[.slice A5 E.types.length n5, .slice A5' E.funcs.length n5'] 30) = W6 at hBt hbt hzt ⊢
    have hBs6 := HBs5.out.later hbt HBs5.out.lt
    have hf4 : ∀ k, fresh W2.heap.size W3.heap.size k → k < W5.heap.size := fun k hk => Nat.lt_of_lt_of_le (hf3 k hk) HZ5.out
    have hr6 := FaceR.stays.later HR5.out hbt fresh_lt
    have hs6 := HS5.out.up DiagR.stays fresh_lt hbt
    have hr46 := FaceR.stays.later HR45.out hbt hf4
    have hs46 := HS45.out.up DiagR.stays hf4 hbt
    have hbw := HBW5.out.trans (hbt.mono HBW5.out.size)
    have HX := Lib.hid (sameFace_any E E _ _ _ _ W6 (foot_up hf4 hbt) (foot_up fresh_lt hbt) hr46 hr6)
    have HY := Lib.hid (fun U (hU : Below W6.heap.size W6 U) => same_diags (.slice A4 D.length n4) (.slice A6 D.length n6) D D _ _ U (foot_up (foot_up hf4 hbt) hU) (foot_up (foot_up fresh_lt hbt) hU) (hs46.up DiagR.stays (foot_up hf4 hbt) hU) (hs6.up DiagR.stays (foot_up fresh_lt hbt) hU))
    have s0 := hBs6.at_ 0 _ rfl
    have s1 := hBs6.at_ 1 _ rfl
    have t0 := hBt.at_ 0 _ rfl
    have t1 := hBt.at_ 1 _ rfl
    have HBW6 := Lib.hid hbw
    clear hbw
    clear hr6 hs6 hr46 hs46 hBs6 hBt hbt hzt hf3 hf4
    go_wp2_with fail
    refine HX.out.mono ?_
    rintro e W7 ⟨rfl, hb7⟩
    have hbw7 := HBW6.out.trans (hb7.mono HBW6.out.size)
    have hfe : faceEq E E = true := faceEq_self _
    have hy := HY.out W7 hb7
    rw [listEq_refl diagEq_self] at hy
    rw [hfe]
    have HYY := Lib.hid hy; have HBW7 := Lib.hid hbw7
    clear hy hbw7
    clear hfe hb7
    go_wp2_with fail
    refine HYY.out.mono ?_
    rintro e W8 ⟨rfl, hb8⟩
    go_wp2_with fail
    go_ret
    exact ⟨rfl, HBW7.out.trans (hb8.mono HBW7.out.size)⟩

end Go.Proofs.Ytoejhgbndehaiaa
