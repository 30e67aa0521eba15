/- The law LogAppends: its walk. -/
import Derived.Test.YtamkgphamffdcaaLogApp
import Derived.Handy
namespace Go.Proofs.Ytamkgphamffdcaa
open Go.ChangeShapes Go.WideShapes Go.ChangeAt Go.RowKit
open Go.ChangeMaps (open_string)

set_option maxRecDepth 100000 in
set_option maxHeartbeats 1000000 in
theorem logAppends_calls (s : ByteArray) (cs : List Value) (r : Record) (W : World) (hs : s.size ≤ 140737488355328) (hr : RecordR W (old W.heap.size) cs r) :
    Calls Try.prog 32 #[.string s, .agg cs.toArray] W fun e w' => e = .returned (.bool true) ∧ Below W.heap.size W w' := by
  have hO : ∀ k, old W.heap.size k → k < W.heap.size := fun _ h => h
  have hc := fun U (hU : Below W.heap.size W U) => logAppend_any s r cs (old W.heap.size) U (foot_up hO hU) (RecordR.stays.later hr hU hO) hs
  have hd := fun U (hU : Below W.heap.size W U) => appendedOf_any s r cs (old W.heap.size) U (foot_up hO hU) (RecordR.stays.later hr hU hO) hs
  obtain ⟨I1, i1, T1, e1, T2, e2, D1, d1, rfl, _⟩ := RecordR.all hr
  generalize apTxt s r = S at hc hd
  generalize apErr s r = E at hc hd
  have HC := Lib.hid hc; have HD := Lib.hid hd
  clear hc hd
  clear hr
  go_enter Try.func32, Try.ntmps32
  go_upto_region 1 with fail
  have hBb := Box.made W 40 #[.string r.name, .string r.source, .slice I1 r.imports.length i1, .slice T1 r.face.types.length e1, .slice T2 r.face.funcs.length e2, .slice D1 r.diags.length d1]
  have hbb : Below W.heap.size W (W.alloc (.cells #[.string r.name, .string r.source, .slice I1 r.imports.length i1, .slice T1 r.face.types.length e1, .slice T2 r.face.funcs.length e2, .slice D1 r.diags.length d1] 40)) := by go_grown
  have hzb : (W.alloc (.cells #[.string r.name, .string r.source, .slice I1 r.imports.length i1, .slice T1 r.face.types.length e1, .slice T2 r.face.funcs.length e2, .slice D1 r.diags.length d1] 40)).heap.size = W.heap.size + 1 := by simp
  generalize W.alloc (.cells #[.string r.name, .string r.source, .slice I1 r.imports.length i1, .slice T1 r.face.types.length e1, .slice T2 r.face.funcs.length e2, .slice D1 r.diags.length d1] 40) = W1 at hBb hbb hzb ⊢
  have x0 := hBb.at_ 0 _ rfl
  have x1 := hBb.at_ 1 _ rfl
  have x2 := hBb.at_ 2 _ rfl
  have x3 := hBb.at_ 3 _ rfl
  have x4 := hBb.at_ 4 _ rfl
  have x5 := hBb.at_ 5 _ rfl
  have HB := Lib.hid hBb; have Hb := Lib.hid hbb
  clear hBb hbb
  clear hzb
  go_wp2_with fail
  refine (HC.out _ Hb.out).mono ?_
  rintro e W2 ⟨rfl, hb2⟩
  have hB2 := HB.out.later hb2 HB.out.lt
  clear x0 x1 x2 x3 x4 x5
  have x0 := hB2.at_ 0 _ rfl
  have x1 := hB2.at_ 1 _ rfl
  have x2 := hB2.at_ 2 _ rfl
  have x3 := hB2.at_ 3 _ rfl
  have x4 := hB2.at_ 4 _ rfl
  have x5 := hB2.at_ 5 _ rfl
  have HB2 := Lib.hid (Hb.out.trans (hb2.mono Hb.out.size))
  clear hb2 hB2
  go_wp2_with fail
  refine (HD.out _ HB2.out).mono ?_
  rintro e W3 ⟨rfl, hb3⟩
  go_wp2_with fail
  go_ret
  exact ⟨ret_bool (by simp), HB2.out.trans (hb3.mono HB2.out.size)⟩

end Go.Proofs.Ytamkgphamffdcaa
