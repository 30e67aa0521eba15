/- The law ModuleUses: its walk. -/
import Derived.Test.YtjaladhdnbhliaaGreatDoorUsesG
import Derived.Test.YtjaladhdnbhliaaGreatDoorUsedRef
import Derived.Test.YtjaladhdnbhliaaGreatDoorSame
namespace Go.Proofs.YtjaladhdnbhliaaGreatDoor
open Go.RowKit Go.Shelf

set_option maxRecDepth 100000 in
set_option maxHeartbeats 2000000 in
theorem moduleUses_calls (s : ByteArray) (mx : Int) (W : World) (_hs : s.size ≤ 140737488355328) (hT : Tabs W mx) :
    Calls Tryz.prog 4 #[.string s] W fun e w' => e = .returned (.bool true) ∧ Below W.heap.size W w' := by
  have h1 := moduleUses_any s W mx hT
  have h2 := fun U => usedOf_any s U
  have h24 : (usedR s).length ≤ 24 := Nat.le_trans (usedOf_length _) (mod_uses (readR_good s)).1
  obtain ⟨R, hR⟩ : ∃ R, usedR s = R := ⟨_, rfl⟩
  rw [hR] at h1 h24
  simp only [hR] at h2
  have H1 := Lib.hid h1; have H2 := Lib.hid h2
  clear h1 h2
  clear hT hR
  go_enter Tryz.func4, Tryz.ntmps4
  go_wp2_with fail
  refine H1.out.mono ?_
  rintro e W1 ⟨v1, rfl, hb1, ho1⟩
  obtain ⟨A1, c1, rfl, _⟩ := ho1.form
  have hs1 := ho1.slice StrR.stays (by_ := 16) (F' := fresh W.heap.size W1.heap.size) (fun k hk => hk.elim) (fun k h1 h2 => ⟨h1, h2⟩) (by omega) (by omega)
  have HB1 := Lib.hid hb1; have HS1 := Lib.hid hs1
  clear hb1 hs1
  clear ho1 H1
  go_wp2_with fail
  refine (H2.out W1).mono ?_
  rintro e W2 ⟨v2, rfl, hb2, hs2⟩
  obtain ⟨A2, c2, rfl, _⟩ := hs2.form
  have hs12 := HS1.out.up StrR.stays fresh_lt hb2
  have hbw := HB1.out.trans (hb2.mono HB1.out.size)
  have hc := same_texts (.slice A1 R.length c1) (.slice A2 R.length c2) R R _ _ W2 (foot_up fresh_lt hb2) fresh_lt hs12 hs2
  rw [listEq_refl fun a => by simp [eqB]] at hc
  have HC := Lib.hid hc; have HB2 := Lib.hid hbw
  clear hc hbw
  clear hb2 hs2 hs12 HS1 H2
  go_wp2_with fail
  refine HC.out.mono ?_
  rintro e W3 ⟨rfl, hb3⟩
  have hbw3 := HB2.out.trans (hb3.mono HB2.out.size)
  have HB3 := Lib.hid hbw3
  clear hbw3
  clear hb3
  go_wp2_with fail
  go_ret
  exact ⟨rfl, HB3.out⟩

end Go.Proofs.YtjaladhdnbhliaaGreatDoor
