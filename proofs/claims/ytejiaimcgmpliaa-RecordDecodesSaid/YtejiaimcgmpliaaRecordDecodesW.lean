/- The law RecordDecodes: its walk. -/
import Derived.Test.YtejiaimcgmpliaaRecordOf
import Derived.Test.YtejiaimcgmpliaaSameRec
import Derived.Handy
namespace Go.Proofs.Ytejiaimcgmpliaa
open Go.ChangeShapes Go.WideShapes Go.ChangeAt Go.RowKit
open Go.ChangeMaps (open_string)

set_option maxRecDepth 100000 in
set_option maxHeartbeats 4000000 in
theorem recordDecodes_calls (s : ByteArray) (W : World) (hs : s.size ≤ 140737488355328) :
    Calls Try.prog 7 #[.string s] W fun e w' => e = .returned (.bool true) ∧ Below W.heap.size W w' := by
  have ha := decode_any s W hs
  have hb := fun U => recordOf_any s U hs
  have hd := fun U ds es F G hF hG h k => sameRecord_self (decRec s) ds es F G U hF hG h k
  generalize decRec s = r at *
  generalize decCode s = C at *
  have HA := Lib.hid ha; have HB := Lib.hid hb; have HD := Lib.hid hd
  clear ha hb hd
  go_enter Try.func7, Try.ntmps7
  go_wp2_with fail
  refine HA.out.mono ?_
  rintro e W1 ⟨cs, rfl, hb1, hr1⟩
  obtain ⟨I1, i1, T1, e1, T2, e2, D1, d1, rfl, _⟩ := hr1.parts
  have HB1 := Lib.hid hb1; have HR1 := Lib.hid hr1
  clear hb1 hr1
  go_upto_region 2 with fail
  have hBb := Box.made W1 66 #[.string r.name, .string r.source, .slice I1 r.imports.length i1, .slice T1 r.face.types.length e1, .slice T2 r.face.funcs.length e2, .slice D1 r.diags.length d1]
  have hbb : Below W1.heap.size W1 (W1.alloc (.cells #[.string r.name, .string r.source, .slice I1 r.imports.length i1, .slice T1 r.face.types.length e1, .slice T2 r.face.funcs.length e2, .slice D1 r.diags.length d1] 66)) := by go_grown
  have hzb : (W1.alloc (.cells #[.string r.name, .string r.source, .slice I1 r.imports.length i1, .slice T1 r.face.types.length e1, .slice T2 r.face.funcs.length e2, .slice D1 r.diags.length d1] 66)).heap.size = W1.heap.size + 1 := by simp
  generalize W1.alloc (.cells #[.string r.name, .string r.source, .slice I1 r.imports.length i1, .slice T1 r.face.types.length e1, .slice T2 r.face.funcs.length e2, .slice D1 r.diags.length d1] 66) = W2 at hBb hbb hzb ⊢
  have hb2 := HB1.out.trans (hbb.mono HB1.out.size)
  have hr2 := RecordR.stays.later HR1.out hbb fresh_lt
  have hf2 := foot_up (F := fresh W.heap.size W1.heap.size) fresh_lt hbb
  have HB2 := Lib.hid hb2; have HR2 := Lib.hid hr2; have HF2 := Lib.hid hf2; have HX2 := Lib.hid hBb
  clear hb2 hr2 hf2 hBb
  clear hbb hzb HR1
  go_wp2_with fail
  refine (HB.out _).mono ?_
  rintro e W3 ⟨ds, rfl, hb3, hr3⟩
  obtain ⟨I3, i3, T3, e3, T4, e4, D3, d3, rfl, _⟩ := hr3.parts
  have hX3 := HX2.out.later hb3 HX2.out.lt
  have hr23 := RecordR.stays.later HR2.out hb3 HF2.out
  have hf3 := foot_up HF2.out hb3
  have hbw := HB2.out.trans (hb3.mono HB2.out.size)
  have HR23 := Lib.hid hr23; have HF3 := Lib.hid hf3; have HBW := Lib.hid hbw; have HX3 := Lib.hid hX3; have HR3 := Lib.hid hr3
  clear hr23 hf3 hbw hX3 hr3
  clear hb3 HX2
  go_upto_region 3 with fail
  have hBc := Box.made W3 66 #[.string r.name, .string r.source, .slice I3 r.imports.length i3, .slice T3 r.face.types.length e3, .slice T4 r.face.funcs.length e4, .slice D3 r.diags.length d3]
  have hbc : Below W3.heap.size W3 (W3.alloc (.cells #[.string r.name, .string r.source, .slice I3 r.imports.length i3, .slice T3 r.face.types.length e3, .slice T4 r.face.funcs.length e4, .slice D3 r.diags.length d3] 66)) := by go_grown
  have hzc : (W3.alloc (.cells #[.string r.name, .string r.source, .slice I3 r.imports.length i3, .slice T3 r.face.types.length e3, .slice T4 r.face.funcs.length e4, .slice D3 r.diags.length d3] 66)).heap.size = W3.heap.size + 1 := by simp
  generalize W3.alloc (.cells #[.string r.name, .string r.source, .slice I3 r.imports.length i3, .slice T3 r.face.types.length e3, .slice T4 r.face.funcs.length e4, .slice D3 r.diags.length d3] 66) = W4 at hBc hbc hzc ⊢
  have hX4 := HX3.out.later hbc HX3.out.lt
  have HQ := Lib.hid (HD.out W4 _ _ _ _ (foot_up HF3.out hbc) (foot_up fresh_lt hbc) (RecordR.stays.later HR23.out hbc HF3.out) (RecordR.stays.later HR3.out hbc fresh_lt))
  have HB4 := Lib.hid (HBW.out.trans (hbc.mono HBW.out.size))
  have x0 := hX4.at_ 0 _ rfl
  have x1 := hX4.at_ 1 _ rfl
  have x2 := hX4.at_ 2 _ rfl
  have x3 := hX4.at_ 3 _ rfl
  have x4 := hX4.at_ 4 _ rfl
  have x5 := hX4.at_ 5 _ rfl
  have y0 := hBc.at_ 0 _ rfl
  have y1 := hBc.at_ 1 _ rfl
  have y2 := hBc.at_ 2 _ rfl
  have y3 := hBc.at_ 3 _ rfl
  have y4 := hBc.at_ 4 _ rfl
  have y5 := hBc.at_ 5 _ rfl
  clear hX4 hBc hbc hzc
  go_wp2_with fail
  refine HQ.out.mono ?_
  rintro e W5 ⟨rfl, hb5⟩
  go_wp2_with fail
  go_ret
  exact ⟨rfl, HB4.out.trans (hb5.mono HB4.out.size)⟩

end Go.Proofs.Ytejiaimcgmpliaa
