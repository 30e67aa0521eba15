/- The law AliasTypes: its walk. -/
import Derived.Test.YtoejhgbndehaiaaTypesA
import Derived.Test.YtoejhgbndehaiaaTypesR
import Derived.Test.YtoejhgbndehaiaaMay
import Derived.Test.YtoejhgbndehaiaaRefl
import Derived.Handy
namespace Go.Proofs.Ytoejhgbndehaiaa
open Go.ChangeShapes Go.WideShapes Go.ChangeAt Go.RowKit
open Go.ChangeMaps (open_string)

set_option maxRecDepth 100000 in
set_option maxHeartbeats 4000000 in
theorem aliasTypes_calls (cs : List Value) (m : Module) (v : Value) (l : List Import) (W : World) (hm : ModuleR W (old W.heap.size) cs m) (hl : SliceOf ImportR 4 72 W (old W.heap.size) v l) :
    Calls Try.prog 4 #[.agg cs.toArray, v] W fun e w' => e = .returned (.bool true) ∧ Below W.heap.size W w' := by
  have hmy := fun U (hU : Below W.heap.size W U) => may_any m l cs v (old U.heap.size) (old U.heap.size) U old_lt old_lt (now_up ModuleR.stays hm hU) (now_lup ImportR.stays hl hU)
  have hc := fun (h : mayB m l = true) U (hU : Below W.heap.size W U) => aliasTypes_any m l (may_both h).1 (may_both h).2 cs v U (now_up ModuleR.stays hm hU) (now_lup ImportR.stays hl hU)
  have hd := fun (h : mayB m l = true) U (hU : Below W.heap.size W U) => typesOf_any m l (may_both h).1 (may_both h).2 cs v U (now_up ModuleR.stays hm hU) (now_lup ImportR.stays hl hU)
  obtain ⟨U1, u1, T1, e1, T2, e2, rfl, _⟩ := ModuleR.form hm
  obtain ⟨L1, l1, rfl, _⟩ := hl.form
  obtain ⟨z, hz⟩ : ∃ z, (mayB m l) = z := ⟨_, rfl⟩
  rw [hz] at hmy hc hd
  have Z := Lib.hid hz; clear hz
  generalize typesOf m l = E at hc hd
  generalize typesBad m l = D at hc hd
  have HM := Lib.hid hmy; have HC := Lib.hid hc; have HD := Lib.hid hd
  clear hmy hc hd
  clear hm hl
  go_enter Try.func4, Try.ntmps4
  go_wp2_with fail
  have hBb := Box.made W 39 #[.slice U1 m.uses.length u1, .slice T1 m.types.length e1, .slice T2 m.funcs.length e2]
  have hbb : Below W.heap.size W (W.alloc (.cells #[.slice U1 m.uses.length u1, .slice T1 m.types.length e1, .slice T2 m.funcs.length e2] 39)) := by go_grown
  have hzb : (W.alloc (.cells #[.slice U1 m.uses.length u1, .slice T1 m.types.length e1, .slice T2 m.funcs.length e2] 39)).heap.size = W.heap.size + 1 := by simp
  generalize W.alloc (.cells #[.slice U1 m.uses.length u1, .slice T1 m.types.length e1, .slice T2 m.funcs.length e2] 39) = W1 at hBb hbb hzb ⊢
  refine (HM.out _ hbb).mono ?_
  rintro e W2 ⟨rfl, hb2⟩
  have hB2 := hBb.later hb2 hBb.lt
  have hbw := hbb.trans (hb2.mono hbb.size)
  have xp0 := hB2.at_ 0 _ rfl
  have xp1 := hB2.at_ 1 _ rfl
  have xp2 := hB2.at_ 2 _ rfl
  have HB2 := Lib.hid hB2; have HBW := Lib.hid hbw
  clear hB2 hbw
  clear hBb hbb hb2 hzb
  cases z with
  | false =>
    go_wp2_with fail
    go_ret
    exact ⟨rfl, HBW.out⟩
  | true =>
    go_wp2_with fail
    refine (HC.out (by first | rfl | trivial) _ HBW.out).mono ?_
    rintro e W3 ⟨v3, u3, rfl, hb3, hr3, hs3⟩
    obtain ⟨A3, n3, rfl, _⟩ := hr3.form
    obtain ⟨A4, n4, rfl, _⟩ := hs3.form
    have hB3 := HB2.out.later hb3 HB2.out.lt
    have hbw := HBW.out.trans (hb3.mono HBW.out.size)
    clear xp0 xp1 xp2
    have xq0 := hB3.at_ 0 _ rfl
    have xq1 := hB3.at_ 1 _ rfl
    have xq2 := hB3.at_ 2 _ rfl
    have HBW3 := Lib.hid hbw; have HR3 := Lib.hid hr3; have HS3 := Lib.hid hs3
    clear hbw hr3 hs3
    clear hb3 hB3
    go_wp2_with fail
    refine (HD.out (by first | rfl | trivial) _ HBW3.out).mono ?_
    rintro e W4 ⟨v4, u4, rfl, hb4, hr4, hs4⟩
    obtain ⟨A5, n5, rfl, _⟩ := hr4.form
    obtain ⟨A6, n6, rfl, _⟩ := hs4.form
    have hbw := HBW3.out.trans (hb4.mono HBW3.out.size)
    have hfa : FaceR W4 (fresh W2.heap.size W3.heap.size) [.slice A3 E.length n3, .slice none 0 0] ⟨E, []⟩ := ⟨_, _, rfl, HR3.out.up KnownR.stays fresh_lt hb4, SliceOf.nil_⟩
    have hfb : FaceR W4 (fresh W3.heap.size W4.heap.size) [.slice A5 E.length n5, .slice none 0 0] ⟨E, []⟩ := ⟨_, _, rfl, hr4, SliceOf.nil_⟩
    have HX := Lib.hid (sameFace_any ⟨E, []⟩ ⟨E, []⟩ _ _ _ _ W4 (foot_up fresh_lt hb4) fresh_lt hfa hfb)
    have HY := Lib.hid (fun U (hU : Below W4.heap.size W4 U) => same_diags (.slice A4 D.length n4) (.slice A6 D.length n6) D D _ _ U (foot_up (foot_up fresh_lt hb4) hU) (foot_up fresh_lt hU) ((HS3.out.up DiagR.stays fresh_lt hb4).up DiagR.stays (foot_up fresh_lt hb4) hU) (hs4.up DiagR.stays fresh_lt hU))
    have HBW4 := Lib.hid hbw
    clear hbw
    clear hb4 hr4 hs4 hfa hfb xq0 xq1 xq2
    go_wp2_with fail
    refine HX.out.mono ?_
    rintro e W5 ⟨rfl, hb5⟩
    have hbw5 := HBW4.out.trans (hb5.mono HBW4.out.size)
    have hfe : faceEq ⟨E, []⟩ ⟨E, []⟩ = true := faceEq_self _
    have hy := HY.out W5 hb5
    rw [listEq_refl diagEq_self] at hy
    rw [hfe]
    have HYY := Lib.hid hy; have HBW5 := Lib.hid hbw5
    clear hy hbw5
    clear hfe hb5
    go_wp2_with fail
    refine HYY.out.mono ?_
    rintro e W6 ⟨rfl, hb6⟩
    go_wp2_with fail
    go_ret
    exact ⟨rfl, HBW5.out.trans (hb6.mono HBW5.out.size)⟩

end Go.Proofs.Ytoejhgbndehaiaa
