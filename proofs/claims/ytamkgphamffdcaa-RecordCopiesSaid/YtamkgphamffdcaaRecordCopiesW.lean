/- The law RecordCopies: its walk. -/
import Derived.Test.YtamkgphamffdcaaSameRec
import Derived.Handy
namespace Go.Proofs.Ytamkgphamffdcaa
open Go.ChangeShapes Go.WideShapes Go.ChangeAt Go.RowKit
open Go.ChangeMaps (open_string)

set_option maxRecDepth 100000 in
set_option maxHeartbeats 2000000 in
theorem recordCopies_calls (cs : List Value) (r : Record) (W : World) (hr : RecordR W (old W.heap.size) cs r) :
    Calls Try.prog 9 #[.agg cs.toArray] W fun e w' => e = .returned (.bool true) ∧ Below W.heap.size W w' := by
  have hO : ∀ k, old W.heap.size k → k < W.heap.size := fun _ h => h
  have hc := fun U (hU : Below W.heap.size W U) => recordCopy_any r cs (old W.heap.size) U (foot_up hO hU) (RecordR.stays.later hr hU hO)
  have hd := fun U (hU : Below W.heap.size W U) ds G hG h => sameRecord_self r ds cs G (old W.heap.size) U hG (foot_up hO hU) h (RecordR.stays.later hr hU hO)
  obtain ⟨I1, i1, T1, e1, T2, e2, D1, d1, rfl, _⟩ := hr.parts
  have HC := Lib.hid hc; have HD := Lib.hid hd
  clear hc hd
  clear hr
  go_enter Try.func9, Try.ntmps9
  go_wp2_with fail
  have hBb := Box.made W 40 #[.string r.name, .string r.source, .slice I1 r.imports.length i1, .slice T1 r.face.types.length e1, .slice T2 r.face.funcs.length e2, .slice D1 r.diags.length d1]
  have hbb : Below W.heap.size W (W.alloc (.cells #[.string r.name, .string r.source, .slice I1 r.imports.length i1, .slice T1 r.face.types.length e1, .slice T2 r.face.funcs.length e2, .slice D1 r.diags.length d1] 40)) := by go_grown
  have hzb : (W.alloc (.cells #[.string r.name, .string r.source, .slice I1 r.imports.length i1, .slice T1 r.face.types.length e1, .slice T2 r.face.funcs.length e2, .slice D1 r.diags.length d1] 40)).heap.size = W.heap.size + 1 := by simp
  generalize W.alloc (.cells #[.string r.name, .string r.source, .slice I1 r.imports.length i1, .slice T1 r.face.types.length e1, .slice T2 r.face.funcs.length e2, .slice D1 r.diags.length d1] 40) = W1 at hBb hbb hzb ⊢
  refine (HC.out _ hbb).mono ?_
  rintro e W2 ⟨ds, rfl, hb2, hr2⟩
  obtain ⟨I3, i3, T3, e3, T4, e4, D3, d3, rfl, _⟩ := hr2.parts
  have hB2 := hBb.later hb2 hBb.lt
  have hbw := hbb.trans (hb2.mono hbb.size)
  have HB2 := Lib.hid hB2; have HBW := Lib.hid hbw; have HR2 := Lib.hid hr2
  clear hB2 hbw hr2
  clear hBb hbb hb2 hzb
  go_upto_region 2 with fail
  have hBc := Box.made W2 40 #[.string r.name, .string r.source, .slice I3 r.imports.length i3, .slice T3 r.face.types.length e3, .slice T4 r.face.funcs.length e4, .slice D3 r.diags.length d3]
  have hbc : Below W2.heap.size W2 (W2.alloc (.cells #[.string r.name, .string r.source, .slice I3 r.imports.length i3, .slice T3 r.face.types.length e3, .slice T4 r.face.funcs.length e4, .slice D3 r.diags.length d3] 40)) := by go_grown
  have hzc : (W2.alloc (.cells #[.string r.name, .string r.source, .slice I3 r.imports.length i3, .slice T3 r.face.types.length e3, .slice T4 r.face.funcs.length e4, .slice D3 r.diags.length d3] 40)).heap.size = W2.heap.size + 1 := by simp
  generalize W2.alloc (.cells #[.string r.name, .string r.source, .slice I3 r.imports.length i3, .slice T3 r.face.types.length e3, .slice T4 r.face.funcs.length e4, .slice D3 r.diags.length d3] 40) = W3 at hBc hbc hzc ⊢
  have hB3 := HB2.out.later hbc HB2.out.lt
  have x0 := hB3.at_ 0 _ rfl
  have x1 := hB3.at_ 1 _ rfl
  have x2 := hB3.at_ 2 _ rfl
  have x3 := hB3.at_ 3 _ rfl
  have x4 := hB3.at_ 4 _ rfl
  have x5 := hB3.at_ 5 _ rfl
  have y0 := hBc.at_ 0 _ rfl
  have y1 := hBc.at_ 1 _ rfl
  have y2 := hBc.at_ 2 _ rfl
  have y3 := hBc.at_ 3 _ rfl
  have y4 := hBc.at_ 4 _ rfl
  have y5 := hBc.at_ 5 _ rfl
  have HX := Lib.hid (HD.out W3 (HBW.out.trans (hbc.mono HBW.out.size)) _ _ (foot_up fresh_lt hbc) (RecordR.stays.later HR2.out hbc fresh_lt))
  have HB3 := Lib.hid (HBW.out.trans (hbc.mono HBW.out.size))
  clear hB3 hBc hbc hzc
  go_wp2_with fail
  refine HX.out.mono ?_
  rintro e W4 ⟨rfl, hb4⟩
  go_wp2_with fail
  go_ret
  exact ⟨rfl, HB3.out.trans (hb4.mono HB3.out.size)⟩

end Go.Proofs.Ytamkgphamffdcaa
