/- The law RecordChecks: its walk. -/
import Derived.Test.YtamkgphamffdcaaRecErr
import Derived.Handy
namespace Go.Proofs.Ytamkgphamffdcaa
open Go.ChangeShapes Go.WideShapes Go.ChangeAt Go.RowKit
open Go.ChangeMaps (open_string)

set_option maxRecDepth 100000 in
set_option maxHeartbeats 1000000 in
theorem recordChecks_calls (cs : List Value) (r : Record) (W : World) (hr : RecordR W (old W.heap.size) cs r) :
    Calls Try.prog 27 #[.agg cs.toArray] W fun e w' => e = .returned (.bool true) ∧ Below W.heap.size W w' := by
  have hO : ∀ k, old W.heap.size k → k < W.heap.size := fun _ h => h
  have hc := fun U (hU : Below W.heap.size W U) => recordCheck_any r cs (old W.heap.size) U (foot_up hO hU) (RecordR.stays.later hr hU hO)
  have hd := fun U (hU : Below W.heap.size W U) => recordFault_any r cs (old W.heap.size) U (foot_up hO hU) (RecordR.stays.later hr hU hO)
  obtain ⟨I1, i1, T1, e1, T2, e2, D1, d1, rfl, _⟩ := hr.parts
  generalize recErr r = z at hc hd
  have HC := Lib.hid hc; have HD := Lib.hid hd
  clear hc hd
  clear hr
  go_enter Try.func27, Try.ntmps27
  go_wp2_with fail
  have hBb := Box.made W 40 #[.string r.name, .string r.source, .slice I1 r.imports.length i1, .slice T1 r.face.types.length e1, .slice T2 r.face.funcs.length e2, .slice D1 r.diags.length d1]
  have hbb : Below W.heap.size W (W.alloc (.cells #[.string r.name, .string r.source, .slice I1 r.imports.length i1, .slice T1 r.face.types.length e1, .slice T2 r.face.funcs.length e2, .slice D1 r.diags.length d1] 40)) := by go_grown
  have hzb : (W.alloc (.cells #[.string r.name, .string r.source, .slice I1 r.imports.length i1, .slice T1 r.face.types.length e1, .slice T2 r.face.funcs.length e2, .slice D1 r.diags.length d1] 40)).heap.size = W.heap.size + 1 := by simp
  generalize W.alloc (.cells #[.string r.name, .string r.source, .slice I1 r.imports.length i1, .slice T1 r.face.types.length e1, .slice T2 r.face.funcs.length e2, .slice D1 r.diags.length d1] 40) = W1 at hBb hbb hzb ⊢
  refine (HC.out _ hbb).mono ?_
  rintro e W2 ⟨rfl, hb2⟩
  have hB2 := hBb.later hb2 hBb.lt
  have xx0 := hB2.at_ 0 _ rfl
  have xx1 := hB2.at_ 1 _ rfl
  have xx2 := hB2.at_ 2 _ rfl
  have xx3 := hB2.at_ 3 _ rfl
  have xx4 := hB2.at_ 4 _ rfl
  have xx5 := hB2.at_ 5 _ rfl
  have HB := Lib.hid (hbb.trans (hb2.mono hbb.size))
  clear hBb hbb hb2 hzb hB2
  go_wp2_with fail
  refine (HD.out _ HB.out).mono ?_
  rintro e W3 ⟨rfl, hb3⟩
  go_wp2_with fail
  go_ret
  exact ⟨ret_bool (by simp), HB.out.trans (hb3.mono HB.out.size)⟩

end Go.Proofs.Ytamkgphamffdcaa
