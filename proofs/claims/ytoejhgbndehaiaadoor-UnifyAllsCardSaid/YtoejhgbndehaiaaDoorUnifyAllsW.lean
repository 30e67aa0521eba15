/- The law UnifyAlls: its walk. -/
import Derived.Test.YtoejhgbndehaiaaDoorAll
namespace Go.Proofs.YtoejhgbndehaiaaDoor
open Go.ChangeShapes Go.WideShapes Go.ChangeAt Go.RowKit

set_option maxRecDepth 100000 in
set_option maxHeartbeats 1000000 in
theorem unifyAlls_calls (v1 : Value) (ps : List ByteArray) (v2 : Value) (as_ : List ByteArray) (r : ByteArray) (m : Int) (w : World) (h1 : SliceOf StrR 1 16 w (old w.heap.size) v1 ps) (h2 : SliceOf StrR 1 16 w (old w.heap.size) v2 as_)
    (hr : r.size ≤ 140737488355328) (hm : w.cell? ⟨0, 0, none⟩ = some (.int .i64 m)) :
    Calls Tryd.prog 4 #[v1, v2, .string r] w fun e w' => e = .returned (.bool true) ∧ Below w.heap.size w w' := by
  have hc := all_any ps as_ r v1 v2 _ _ m w old_lt old_lt h1 h2 hr hm
  have hd := fun U (hU : Below w.heap.size w U) => allOf_any ps as_ r v1 v2 _ _ U (foot_up old_lt hU) (foot_up old_lt hU) (h1.up StrR.stays old_lt hU) (h2.up StrR.stays old_lt hU) hr
  obtain ⟨A1, c1, rfl, _⟩ := h1.form
  obtain ⟨A2, c2, rfl, _⟩ := h2.form
  generalize allR ps as_ r = E at hc hd
  obtain ⟨S, C⟩ := E
  dsimp only at hc hd
  have HC := Lib.hid hc; have HD := Lib.hid hd
  clear hc hd
  go_enter Tryd.func4, Tryd.ntmps4
  go_wp2_with fail
  refine HC.out.mono ?_
  rintro e w1 ⟨rfl, hb1⟩
  go_wp2_with fail
  refine (HD.out w1 hb1).mono ?_
  rintro e w2 ⟨rfl, hb2⟩
  go_wp2_with fail
  go_ret
  exact ⟨ret_bool (by simp), hb1.trans (hb2.mono hb1.size)⟩

end Go.Proofs.YtoejhgbndehaiaaDoor
