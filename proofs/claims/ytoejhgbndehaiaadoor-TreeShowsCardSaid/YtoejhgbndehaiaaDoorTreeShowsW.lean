/- The law TreeShows: its walk. -/
import Derived.Test.YtoejhgbndehaiaaDoorTreeShow
import Derived.Test.YtoejhgbndehaiaaDoorModText
import Derived.Handy
namespace Go.Proofs.YtoejhgbndehaiaaDoor
open Go.ChangeShapes Go.WideShapes Go.ChangeAt Go.RowKit

set_option maxRecDepth 100000 in
set_option maxHeartbeats 1000000 in
theorem treeShows_calls (cs : List Value) (m : Module) (W : World) (hm : ModuleR W (old W.heap.size) cs m) (hP : Pow W) :
    Calls Tryd.prog 6 #[.agg cs.toArray] W fun e w' => e = .returned (.bool true) ∧ Below W.heap.size W w' := by
  have hO : ∀ k, old W.heap.size k → k < W.heap.size := fun _ h => h
  have hc := fun U (hU : Below W.heap.size W U) => treeShow_any m cs (old W.heap.size) U (foot_up hO hU) (ModuleR.stays.later hm hU hO) (hP.later hU)
  have hd := fun U (hU : Below W.heap.size W U) => moduleText_any m cs (old W.heap.size) U (foot_up hO hU) (ModuleR.stays.later hm hU hO)
  obtain ⟨U1, u1, T1, e1, T2, e2, rfl, _⟩ := ModuleR.form hm
  generalize (modR m).1 = X at hc hd
  generalize (modR m).2 = z at hc hd
  have HC := Lib.hid hc; have HD := Lib.hid hd
  clear hc hd
  clear hm hP
  go_enter Tryd.func6, Tryd.ntmps6
  go_upto_region 1 with fail
  have hBb := Box.made W 38 #[.slice U1 m.uses.length u1, .slice T1 m.types.length e1, .slice T2 m.funcs.length e2]
  have hbb : Below W.heap.size W (W.alloc (.cells #[.slice U1 m.uses.length u1, .slice T1 m.types.length e1, .slice T2 m.funcs.length e2] 38)) := by go_grown
  have hzb : (W.alloc (.cells #[.slice U1 m.uses.length u1, .slice T1 m.types.length e1, .slice T2 m.funcs.length e2] 38)).heap.size = W.heap.size + 1 := by simp
  generalize W.alloc (.cells #[.slice U1 m.uses.length u1, .slice T1 m.types.length e1, .slice T2 m.funcs.length e2] 38) = W1 at hBb hbb hzb ⊢
  have x0 := hBb.at_ 0 _ rfl
  have x1 := hBb.at_ 1 _ rfl
  have x2 := hBb.at_ 2 _ rfl
  have HB := Lib.hid hBb; have Hb := Lib.hid hbb
  clear hBb hbb
  clear hzb
  go_wp2_with fail
  refine (HC.out _ Hb.out).mono ?_
  rintro e W2 ⟨rfl, hb2⟩
  have hB2 := HB.out.later hb2 HB.out.lt
  clear x0 x1 x2
  have x0 := hB2.at_ 0 _ rfl
  have x1 := hB2.at_ 1 _ rfl
  have x2 := hB2.at_ 2 _ rfl
  have HB2 := Lib.hid (Hb.out.trans (hb2.mono Hb.out.size))
  clear hb2 hB2
  go_wp2_with fail
  refine (HD.out _ HB2.out).mono ?_
  rintro e W3 ⟨rfl, hb3⟩
  go_wp2_with fail
  go_ret
  exact ⟨ret_bool (by simp), HB2.out.trans (hb3.mono HB2.out.size)⟩

end Go.Proofs.YtoejhgbndehaiaaDoor
