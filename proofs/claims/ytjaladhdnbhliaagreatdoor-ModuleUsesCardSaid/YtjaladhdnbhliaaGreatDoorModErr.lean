/- What is wrong with a module: the reference's ModuleFault. -/
import Derived.Test.YtjaladhdnbhliaaGreatDoorTreeErr3
namespace Go.Proofs.YtjaladhdnbhliaaGreatDoor
open Go.RowKit Go.Shelf

theorem modErr_uses {m : Module} {z : Int} (h : ¬ 24 < m.uses.length + m.types.length + m.funcs.length) (h2 : eachErr useErr m.uses = z) (h3 : z ≠ 0) : modErr m = z := by
  subst h2
  unfold modErr; rw [if_neg h, if_pos h3]
theorem modErr_types {m : Module} {z : Int} (h : ¬ 24 < m.uses.length + m.types.length + m.funcs.length) (h2 : eachErr useErr m.uses = 0) (h3 : eachErr fieldErr m.types = z) (h4 : z ≠ 0) : modErr m = z := by
  subst h3
  unfold modErr; rw [if_neg h, if_neg (by rw [h2]; decide), if_pos h4]
theorem modErr_funcs {m : Module} {z : Int} (h : ¬ 24 < m.uses.length + m.types.length + m.funcs.length) (h2 : eachErr useErr m.uses = 0) (h3 : eachErr fieldErr m.types = 0) (h4 : eachErr funErr m.funcs = z) : modErr m = z := by
  subst h4
  unfold modErr; rw [if_neg h, if_neg (by rw [h2]; decide), if_neg (by rw [h3]; decide)]
theorem useErr_no {s : ByteArray} (h : nameOk s = false) : useErr s = 4 := by unfold useErr; rw [h]; rfl
theorem useErr_ok {s : ByteArray} (h : nameOk s = true) : useErr s = 0 := by unfold useErr; rw [h, if_pos rfl]

set_option maxRecDepth 100000 in
set_option maxHeartbeats 8000000 in
theorem moduleFault_any (m : Module) (cs : List Value) (F : Foot) (w : World) (hF : ∀ k, F k → k < w.heap.size) (hm : ModuleR w F cs m) :
    Calls Tryz.prog 86 #[.agg cs.toArray] w fun e w' => e = .returned (.int .i64 (modErr m)) ∧ Below w.heap.size w w' := by
  obtain ⟨U1, u1, T1, e1, T2, e2, rfl, hu, ht, hf⟩ := ModuleR.form hm
  obtain ⟨_, _, _, _, _, hul, _⟩ := hu.form
  obtain ⟨_, _, _, _, _, htl, _⟩ := ht.form
  obtain ⟨_, _, _, _, _, hfl, _⟩ := hf.form
  obtain ⟨E, hE⟩ : ∃ E, modErr m = E := ⟨_, rfl⟩
  rw [hE]
  by_cases h24 : 24 < m.uses.length + m.types.length + m.funcs.length
  · have h24z : (24 : Int) < (m.uses.length : Int) + (m.types.length : Int) + (m.funcs.length : Int) := by omega
    obtain rfl : E = 1 := by rw [← hE]; unfold modErr; rw [if_pos h24]
    clear hE hu ht hf hm
    go_enter Tryz.func86, Tryz.ntmps86
    go_wp2_with fail
    go_ret
    exact ⟨rfl, by go_grown⟩
  · have h24z : ¬ (24 : Int) < (m.uses.length : Int) + (m.types.length : Int) + (m.funcs.length : Int) := by omega
    have HE := Lib.hid hE; have H24 := Lib.hid h24; have HU := Lib.hid hu; have HT := Lib.hid ht; have HFn := Lib.hid hf
    clear hE h24 hu ht hf hm
    go_enter Tryz.func86, Tryz.ntmps86
    go_wp2_with fail
    have hB := Box.made w 27 #[.slice U1 m.uses.length u1, .slice T1 m.types.length e1, .slice T2 m.funcs.length e2]
    have hb0 : Below w.heap.size w (w.alloc (.cells #[.slice U1 m.uses.length u1, .slice T1 m.types.length e1, .slice T2 m.funcs.length e2] 27)) := by go_grown
    generalize w.alloc (.cells #[.slice U1 m.uses.length u1, .slice T1 m.types.length e1, .slice T2 m.funcs.length e2] 27) = W1 at hB hb0 ⊢
    have x0 := hB.at_ 0 _ rfl
    have HB := Lib.hid hB; have Hb0 := Lib.hid hb0
    clear hB hb0
    go_loopg [3] m.uses.length (fun gg s3 wr => ∃ kk : Nat, kk ≤ m.uses.length ∧ m.uses.length - kk ≤ gg ∧ s3 = .int .i64 kk ∧ W1 = wr ∧ Aside (∀ j, j < kk → ∀ y, m.uses[j]? = some y → useErr y = 0))
    case atStart => exact ⟨0, Nat.zero_le _, by omega, rfl, rfl, aside (fun j hj => absurd hj (Nat.not_lt_zero _))⟩
    case round =>
      obtain ⟨kk, hkk, hg, rfl, rfl, Al⟩ := hrel
      by_cases hlt : kk < m.uses.length
      · have hltz : (kk : Int) < (m.uses.length : Int) := by omega
        obtain ⟨b1, off, cs, rfl, hbF, hcs, ⟨rfl, hsz⟩, hcell⟩ := (HU.out.up StrR.stays hF Hb0.out).at_ hlt
        have hc0 := hcell 0 _ rfl
        simp only [Nat.mul_one, Nat.add_zero] at hc0
        have hy := List.getElem?_eq_getElem hlt
        generalize m.uses[kk] = y at *
        have hym := fun W => nameMay_any y W hsz
        obtain ⟨z5, hz5⟩ : ∃ z, nameOk y = z := ⟨_, rfl⟩
        rw [hz5] at hym
        have HY := Lib.hid hy; have HYM := Lib.hid hym; have Z5 := Lib.hid hz5
        clear hy hym hz5 hcell hcs
        cases z5 with
        | false =>
          go_wp2_with fail
          refine (HYM.out _).mono ?_
          rintro e w' ⟨rfl, rfl⟩
          go_wp2_with fail
          go_ret
          exact ⟨ret_int (by rw [← HE.out, modErr_uses H24.out (eachErr_hit HY.out (useErr_no Z5.out) (by decide) Al.out) (by decide)]), Hb0.out⟩
        | true =>
          go_wp2_with fail
          refine (HYM.out _).mono ?_
          rintro e w' ⟨rfl, rfl⟩
          go_wp2_with fail
          go_roundg (m.uses.length - (kk + 1))
          case measure => omega
          case rel => exact ⟨kk + 1, by omega, by omega, by go_num, rfl, aside (good_succ HY.out (useErr_ok Z5.out) Al.out)⟩
      · have hltz : ¬ (kk : Int) < (m.uses.length : Int) := by omega
        obtain rfl : kk = m.uses.length := by omega
        have HU0 := Lib.hid (eachErr_none Al.out)
        clear Al
        go_wp2_with fail
        go_loopg [4, 5] m.types.length (fun gg s4 _ wr => ∃ kk : Nat, kk ≤ m.types.length ∧ m.types.length - kk ≤ gg ∧ s4 = .int .i64 kk ∧ Aside (Below W1.heap.size W1 wr) ∧ Aside (∀ j, j < kk → ∀ y, m.types[j]? = some y → fieldErr y = 0))
        case atStart => exact ⟨0, Nat.zero_le _, by omega, rfl, Below.refl _ _, aside (fun j hj => absurd hj (Nat.not_lt_zero _))⟩
        case round =>
          obtain ⟨kk, hkk, hg, rfl, BW, Al⟩ := hrel
          have hBr := HB.out.later BW.out HB.out.lt
          have y1 := hBr.at_ 1 _ rfl
          have hbw := Hb0.out.trans (BW.out.mono Hb0.out.size)
          clear hBr
          by_cases hlt : kk < m.types.length
          · have hltz : (kk : Int) < (m.types.length : Int) := by omega
            obtain ⟨b1, off, cs, rfl, hbF, hcs, hr1, hcell⟩ := (HT.out.up FieldR.stays hF hbw).at_ hlt
            have hy := List.getElem?_eq_getElem hlt
            generalize m.types[kk] = y at *
            obtain ⟨c1, c2, c3, c4, rfl, hyn, hyt⟩ := FieldR.form hr1
            have hc0 := hcell 0 _ rfl
            have hc1 := hcell 1 _ rfl
            have hc2 := hcell 2 _ rfl
            have hc3 := hcell 3 _ rfl
            have hc4 := hcell 4 _ rfl
            simp only [Nat.add_zero] at hc0
            have hyr := typeFault_any 10 y.is_ 1 [c1, c2, c3, c4] F wr (by omega) (by omega) hyt (foot_up hF hbw)
            have hym := fun W => nameMay_any y.name W hyn
            obtain ⟨z5, hz5⟩ : ∃ z, nameOk y.name = z := ⟨_, rfl⟩
            obtain ⟨z6, hz6⟩ : ∃ z, tyErr 10 y.is_ = z := ⟨_, rfl⟩
            rw [hz6] at hyr; rw [hz5] at hym
            have HY := Lib.hid hy; have HYR := Lib.hid hyr; have HYM := Lib.hid hym; have Z5 := Lib.hid hz5; have Z6 := Lib.hid hz6; have HBW := Lib.hid hbw
            clear hy hyr hym hz5 hz6 hcell hr1 hyt hcs hbw
            cases z5 with
            | false =>
              go_wp2_with fail
              refine (HYM.out _).mono ?_
              rintro e w' ⟨rfl, rfl⟩
              go_wp2_with fail
              go_ret
              exact ⟨ret_int (by rw [← HE.out, modErr_types H24.out HU0.out (eachErr_hit HY.out (fieldErr_name Z5.out) (by decide) Al.out) (by decide)]), HBW.out⟩
            | true =>
              go_wp2_with fail
              refine (HYM.out _).mono ?_
              rintro e w' ⟨rfl, rfl⟩
              go_wp2_with fail
              refine HYR.out.mono ?_
              rintro e w1 ⟨rfl, hb1⟩
              have HB1 := Lib.hid (BW.out.trans (hb1.mono BW.out.size))
              have HB2 := Lib.hid (HBW.out.trans (hb1.mono HBW.out.size))
              clear hb1
              by_cases hz0 : z6 = 0
              · subst hz0
                go_wp2_with fail
                go_roundg (m.types.length - (kk + 1))
                case measure => omega
                case rel => exact ⟨kk + 1, by omega, by omega, by go_num, HB1.out, aside (good_succ HY.out (fieldErr_type Z5.out Z6.out) Al.out)⟩
              · have hzn : (z6 != 0) = true := by simp [hz0]
                go_wp2_with fail
                go_ret
                exact ⟨ret_int (by rw [← HE.out, modErr_types H24.out HU0.out (eachErr_hit HY.out (fieldErr_type Z5.out Z6.out) hz0 Al.out) hz0]), HB2.out⟩
          · have hltz : ¬ (kk : Int) < (m.types.length : Int) := by omega
            obtain rfl : kk = m.types.length := by omega
            have HT0 := Lib.hid (eachErr_none Al.out)
            obtain ⟨W2, rfl⟩ : ∃ W2, W2 = wr := ⟨_, rfl⟩
            have HB2 := Lib.hid (HB.out.later BW.out HB.out.lt)
            have HBW := Lib.hid hbw
            clear Al hbw BW
            go_wp2_with fail
            go_loopg [6, 7] m.funcs.length (fun gg s6 _ wr => ∃ kk : Nat, kk ≤ m.funcs.length ∧ m.funcs.length - kk ≤ gg ∧ s6 = .int .i64 kk ∧ Aside (Below W2.heap.size W2 wr) ∧ Aside (∀ j, j < kk → ∀ y, m.funcs[j]? = some y → funErr y = 0))
            case atStart => exact ⟨0, Nat.zero_le _, by omega, rfl, Below.refl _ _, aside (fun j hj => absurd hj (Nat.not_lt_zero _))⟩
            case round =>
              obtain ⟨kk, hkk, hg, rfl, BW, Al⟩ := hrel
              have hBr := HB2.out.later BW.out HB2.out.lt
              have y2 := hBr.at_ 2 _ rfl
              have hbw := HBW.out.trans (BW.out.mono HBW.out.size)
              clear hBr
              by_cases hlt : kk < m.funcs.length
              · have hltz : (kk : Int) < (m.funcs.length : Int) := by omega
                obtain ⟨b1, off, cs, rfl, hbF, hcs, hr1, hcell⟩ := (HFn.out.up FuncR.stays hF hbw).at_ hlt
                have hy := List.getElem?_eq_getElem hlt
                generalize m.funcs[kk] = y at *
                have hyr := funcFault_any y cs F wr (foot_up hF hbw) hr1
                obtain ⟨P1, p1, a, b, c, d, e, f, g, i, j, rfl, _⟩ := FuncR.form hr1
                have hc0 := hcell 0 _ rfl
                have hc1 := hcell 1 _ rfl
                have hc2 := hcell 2 _ rfl
                have hc3 := hcell 3 _ rfl
                have hc4 := hcell 4 _ rfl
                have hc5 := hcell 5 _ rfl
                have hc6 := hcell 6 _ rfl
                have hc7 := hcell 7 _ rfl
                have hc8 := hcell 8 _ rfl
                have hc9 := hcell 9 _ rfl
                have hc10 := hcell 10 _ rfl
                have hc11 := hcell 11 _ rfl
                simp only [Nat.add_zero] at hc0
                obtain ⟨z6, hz6⟩ : ∃ z, funErr y = z := ⟨_, rfl⟩
                rw [hz6] at hyr
                have HY := Lib.hid hy; have HYR := Lib.hid hyr; have Z6 := Lib.hid hz6; have HBR := Lib.hid hbw
                clear hy hyr hz6 hcell hr1 hcs hbw
                by_cases hz0 : z6 = 0
                · subst hz0
                  go_wp2_with fail
                  refine HYR.out.mono ?_
                  rintro e w1 ⟨rfl, hb1⟩
                  have HB1 := Lib.hid (BW.out.trans (hb1.mono BW.out.size))
                  clear hb1
                  go_wp2_with fail
                  go_roundg (m.funcs.length - (kk + 1))
                  case measure => omega
                  case rel => exact ⟨kk + 1, by omega, by omega, by go_num, HB1.out, aside (good_succ HY.out Z6.out Al.out)⟩
                · have hzn : (z6 != 0) = true := by simp [hz0]
                  go_wp2_with fail
                  refine HYR.out.mono ?_
                  rintro e w1 ⟨rfl, hb1⟩
                  have HB3 := Lib.hid (HBR.out.trans (hb1.mono HBR.out.size))
                  clear hb1
                  go_wp2_with fail
                  go_ret
                  exact ⟨ret_int (by rw [← HE.out, modErr_funcs H24.out HU0.out HT0.out (eachErr_hit HY.out Z6.out hz0 Al.out)]), HB3.out⟩
              · have hltz : ¬ (kk : Int) < (m.funcs.length : Int) := by omega
                obtain rfl : kk = m.funcs.length := by omega
                go_wp2_with fail
                go_ret
                exact ⟨ret_int (by rw [← HE.out, modErr_funcs H24.out HU0.out HT0.out (eachErr_none Al.out)]), hbw⟩

end Go.Proofs.YtjaladhdnbhliaaGreatDoor
