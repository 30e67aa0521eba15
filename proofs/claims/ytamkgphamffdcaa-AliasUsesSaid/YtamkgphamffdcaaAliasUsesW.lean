/- The law AliasUses: its walk. -/
import Derived.Test.YtamkgphamffdcaaAliasUse
import Derived.Test.YtamkgphamffdcaaMay
import Derived.Test.YtamkgphamffdcaaRefl
import Derived.Handy
namespace Go.Proofs.Ytamkgphamffdcaa
open Go.ChangeShapes Go.WideShapes Go.ChangeAt Go.RowKit
open Go.ChangeMaps (open_string)

set_option maxRecDepth 100000 in
set_option maxHeartbeats 2000000 in
theorem aliasUses_calls (cs : List Value) (m : Module) (v : Value) (l : List Import) (W : World) (hm : ModuleR W (old W.heap.size) cs m) (hl : SliceOf ImportR 4 72 W (old W.heap.size) v l) :
    Calls Try.prog 19 #[.agg cs.toArray, v] W fun e w' => e = .returned (.bool true) ∧ Below W.heap.size W w' := by
  have hO : ∀ k, old W.heap.size k → k < W.heap.size := fun _ h => h
  have hmy := fun U (hU : Below W.heap.size W U) => may_any m l cs v (old W.heap.size) (old W.heap.size) U (foot_up hO hU) (foot_up hO hU) (ModuleR.stays.later hm hU hO) (hl.up ImportR.stays hO hU)
  have hc := fun h24 U (hU : Below W.heap.size W U) => aliasUses_any m l cs v (old W.heap.size) (old W.heap.size) U (foot_up hO hU) (foot_up hO hU) (ModuleR.stays.later hm hU hO) (hl.up ImportR.stays hO hU) h24
  have hd := fun h24 U (hU : Below W.heap.size W U) => usesOf_any m l cs v (old W.heap.size) (old W.heap.size) U (foot_up hO hU) (foot_up hO hU) (ModuleR.stays.later hm hU hO) (hl.up ImportR.stays hO hU) h24
  obtain ⟨U1, u1, T1, e1, T2, e2, rfl, _⟩ := ModuleR.form hm
  obtain ⟨L1, l1, rfl, _⟩ := hl.form
  have h24 := fun h => modErr_small (may_both (m := m) (l := l) h).1
  obtain ⟨z, hz⟩ : ∃ z, (mayB m l) = z := ⟨_, rfl⟩
  rw [hz] at hmy h24
  have Z := Lib.hid hz; clear hz
  generalize usesOf m l = E at hc hd
  have HM := Lib.hid hmy; have HC := Lib.hid hc; have HD := Lib.hid hd; have H24 := Lib.hid h24
  clear hmy hc hd h24
  clear hm hl
  go_enter Try.func19, Try.ntmps19
  go_wp2_with fail
  have hBb := Box.made W 59 #[.slice U1 m.uses.length u1, .slice T1 m.types.length e1, .slice T2 m.funcs.length e2]
  have hbb : Below W.heap.size W (W.alloc (.cells #[.slice U1 m.uses.length u1, .slice T1 m.types.length e1, .slice T2 m.funcs.length e2] 59)) := by go_grown
  have hzb : (W.alloc (.cells #[.slice U1 m.uses.length u1, .slice T1 m.types.length e1, .slice T2 m.funcs.length e2] 59)).heap.size = W.heap.size + 1 := by simp
  generalize W.alloc (.cells #[.slice U1 m.uses.length u1, .slice T1 m.types.length e1, .slice T2 m.funcs.length e2] 59) = W1 at hBb hbb hzb ⊢
  refine (HM.out _ hbb).mono ?_
  rintro e W2 ⟨rfl, hb2⟩
  have hB2 := hBb.later hb2 hBb.lt
  have hbw := hbb.trans (hb2.mono hbb.size)
  have xp0 := hB2.at_ 0 _ rfl
  have xp1 := hB2.at_ 1 _ rfl
  have xp2 := hB2.at_ 2 _ rfl
  have HB2 := Lib.hid hB2; have HBW := Lib.hid hbw
  clear hB2 hbw
  clear hBb hbb hb2 hzb
  cases z with
  | false =>
    go_wp2_with fail
    go_ret
    exact ⟨rfl, HBW.out⟩
  | true =>
    have H24' := Lib.hid (show m.uses.length ≤ 24 by have := H24.out rfl; omega)
    go_wp2_with fail
    refine (HC.out H24'.out _ HBW.out).mono ?_
    rintro e W3 ⟨v3, rfl, hb3, hr3⟩
    have hB3 := HB2.out.later hb3 HB2.out.lt
    have hbw := HBW.out.trans (hb3.mono HBW.out.size)
    clear xp0 xp1 xp2
    have xq0 := hB3.at_ 0 _ rfl
    have xq1 := hB3.at_ 1 _ rfl
    have xq2 := hB3.at_ 2 _ rfl
    have HBW3 := Lib.hid hbw; have HR3 := Lib.hid hr3
    clear hbw hr3
    clear hb3 hB3
    go_wp2_with fail
    refine (HD.out H24'.out _ HBW3.out).mono ?_
    rintro e W4 ⟨v4, rfl, hb4, hr4⟩
    have hbw := HBW3.out.trans (hb4.mono HBW3.out.size)
    have HX := Lib.hid (same_diags v3 v4 E E _ _ W4 (foot_up fresh_lt hb4) fresh_lt (HR3.out.up DiagR.stays fresh_lt hb4) hr4)
    have HBW4 := Lib.hid hbw
    clear hbw
    clear hb4 hr4
    go_wp2_with fail
    refine HX.out.mono ?_
    rintro e W5 ⟨rfl, hb5⟩
    go_wp2_with fail
    go_ret
    exact ⟨ret_bool (by rw [listEq_refl diagEq_self]), HBW4.out.trans (hb5.mono HBW4.out.size)⟩

end Go.Proofs.Ytamkgphamffdcaa
