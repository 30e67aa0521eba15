/- The law GraphOrders: its walk. -/
import Derived.Test.YtejiaimcgmpliaaGraphOrdR
import Derived.Test.YtejiaimcgmpliaaRefl
import Derived.Handy
namespace Go.Proofs.Ytejiaimcgmpliaa
open Go.ChangeShapes Go.WideShapes Go.ChangeAt Go.RowKit
open Go.ChangeMaps (open_string)

set_option maxRecDepth 100000 in
set_option maxHeartbeats 4000000 in
theorem graphOrders_calls (v : Value) (l : List Node) (W : World) (hl : SliceOf NodeR 2 40 W (old W.heap.size) v l) :
    Calls Try.prog 3 #[v] W fun e w' => e = .returned (.bool true) ∧ Below W.heap.size W w' := by
  have ha := order_any l v W hl
  have hb := fun U (hU : Below W.heap.size W U) => orderOf_any l v U (now_lup NodeR.stays hl hU)
  obtain ⟨B, d, rfl, _⟩ := hl.form
  obtain ⟨z, hz⟩ : ∃ z, nodesErr l = z := ⟨_, rfl⟩
  unfold Ordered at ha
  unfold OrderedR at hb
  rw [hz] at ha hb
  generalize (if z = 0 then orderOf l else []) = X at ha hb
  generalize (if z = 0 then roundsOf l else []) = Y at ha hb
  have HA := Lib.hid ha; have HB := Lib.hid hb
  clear ha hb
  clear hl hz
  go_enter Try.func3, Try.ntmps3
  go_wp2_with fail
  refine HA.out.mono ?_
  rintro e W1 ⟨v1, v2, rfl, hb1, hx1, hy1⟩
  have HB1 := Lib.hid hb1; have HX1 := Lib.hid hx1; have HY1 := Lib.hid hy1
  clear hb1 hx1 hy1
  go_wp2_with fail
  refine (HB.out _ HB1.out).mono ?_
  rintro e W2 ⟨v3, v4, rfl, hb2, hx2, hy2⟩
  have hx1 := HX1.out.stays StrR.stays (fun _ h => h) (Keeps.of_below hb2 fun k hk => hk.2)
  have hy1 := HY1.out.stays StrR.stays (fun _ h => h) (Keeps.of_below hb2 fun k hk => hk.2)
  have hsx := fun U (hU : Below W2.heap.size W2 U) => same_texts v1 v3 X X _ _ U (fun k hk => Nat.lt_of_lt_of_le (Nat.lt_of_lt_of_le hk.2 hb2.size) hU.size) (fun k hk => Nat.lt_of_lt_of_le hk.2 hU.size) (hx1.stays StrR.stays (fun _ h => h) (Keeps.of_below hU fun k hk => Nat.lt_of_lt_of_le hk.2 hb2.size)) (hx2.stays StrR.stays (fun _ h => h) (Keeps.of_below hU fun k hk => hk.2))
  have hsy := fun U (hU : Below W2.heap.size W2 U) => same_texts v2 v4 Y Y _ _ U (fun k hk => Nat.lt_of_lt_of_le (Nat.lt_of_lt_of_le hk.2 hb2.size) hU.size) (fun k hk => Nat.lt_of_lt_of_le hk.2 hU.size) (hy1.stays StrR.stays (fun _ h => h) (Keeps.of_below hU fun k hk => Nat.lt_of_lt_of_le hk.2 hb2.size)) (hy2.stays StrR.stays (fun _ h => h) (Keeps.of_below hU fun k hk => hk.2))
  rw [listEq_refl eqB_self] at hsx hsy
  have hbw := HB1.out.trans (hb2.mono HB1.out.size)
  have HSX := Lib.hid hsx; have HSY := Lib.hid hsy; have HBW := Lib.hid hbw
  clear hsx hsy hbw
  clear hx1 hy1 hx2 hy2 hb2
  go_wp2_with fail
  refine (HSX.out _ (Below.refl _ _)).mono ?_
  rintro e W3 ⟨rfl, hb3⟩
  have HB3 := Lib.hid hb3
  clear hb3
  go_wp2_with fail
  refine (HSY.out _ HB3.out).mono ?_
  rintro e W4 ⟨rfl, hb4⟩
  have hbw := (HBW.out.trans (HB3.out.mono HBW.out.size)).trans (hb4.mono (HBW.out.trans (HB3.out.mono HBW.out.size)).size)
  have HBE := Lib.hid hbw
  clear hbw
  clear hb4
  go_wp2_with fail
  go_ret
  exact ⟨rfl, HBE.out⟩

end Go.Proofs.Ytejiaimcgmpliaa
