/- The law TokenShows: its walk. -/
import Derived.Test.YthedfpcdibhfpaaDoorTokShow
namespace Go.Proofs.YthedfpcdibhfpaaDoor
open Go.ChangeShapes Go.WideShapes Go.ChangeAt Go.RowKit

set_option maxRecDepth 100000 in
set_option maxHeartbeats 1000000 in
theorem tokenShows_calls (v : Value) (l : List Token) (mx : Int) (w : World) (hl : SliceOf TokenR 2 24 w (old w.heap.size) v l) (hT : Tabs w mx) :
    Calls Tryd.prog 5 #[v] w fun e w' => e = .returned (.bool true) ∧ Below w.heap.size w w' := by
  have hc := tokShow_any l v _ w mx old_lt hl hT
  have hd := fun U (hU : Below w.heap.size w U) => toksText_any l v _ U (foot_up old_lt hU) (hl.up TokenR.stays old_lt hU)
  obtain ⟨A1, c1, rfl, _⟩ := hl.form
  generalize toksR l = E at hc hd
  obtain ⟨S, C⟩ := E
  dsimp only at hc hd
  have HC := Lib.hid hc; have HD := Lib.hid hd
  clear hc hd
  clear hl hT
  go_enter Tryd.func5, Tryd.ntmps5
  go_wp2_with fail
  refine HC.out.mono ?_
  rintro e w1 ⟨rfl, hb1⟩
  go_wp2_with fail
  refine (HD.out w1 hb1).mono ?_
  rintro e w2 ⟨rfl, hb2⟩
  go_wp2_with fail
  go_ret
  exact ⟨ret_bool (by simp), hb1.trans (hb2.mono hb1.size)⟩

end Go.Proofs.YthedfpcdibhfpaaDoor
