/- What is wrong with functions: the reference's funcFault. -/
import Derived.Test.YtjaladhdnbhliaaGreatDoorTreeErr2
namespace Go.Proofs.YtjaladhdnbhliaaGreatDoor
open Go.RowKit Go.Shelf

theorem TyR.four {w : World} {F : Foot} {cs : List Value} {t : Ty} (h : TyR w F cs t) : ∃ a b c d, cs = [a, b, c, d] := by
  obtain ⟨n, h⟩ := h
  cases n with
  | zero => exact h.elim
  | succ n => obtain ⟨av, rfl, _⟩ := h; exact ⟨_, _, _, _, rfl⟩
theorem ExR.five {w : World} {F : Foot} {cs : List Value} {t : Ex} (h : ExR w F cs t) : ∃ a b c d e, cs = [a, b, c, d, e] := by
  obtain ⟨n, h⟩ := h
  cases n with
  | zero => exact h.elim
  | succ n => obtain ⟨av, rfl, _⟩ := h; exact ⟨_, _, _, _, _, rfl⟩
theorem FieldR.form {w : World} {F : Foot} {cs : List Value} {x : Field} (h : FieldR w F cs x) : ∃ a b c d, cs = [.string x.name, a, b, c, d] ∧ okS x.name ∧ TyR w F [a, b, c, d] x.is_ := by
  obtain ⟨tc, rfl, h1, h2⟩ := h
  obtain ⟨a, b, c, d, rfl⟩ := h2.four
  exact ⟨_, _, _, _, rfl, h1, h2⟩
theorem FuncR.form {w : World} {F : Foot} {cs : List Value} {x : Func} (h : FuncR w F cs x) : ∃ P1 p1 a b c d e f g i j, cs = [.string x.name, .string x.var_, .slice P1 x.params.length p1, a, b, c, d, e, f, g, i, j] ∧ okS x.name ∧ okS x.var_ ∧
    SliceOf FieldR 5 80 w F (.slice P1 x.params.length p1) x.params ∧ TyR w F [a, b, c, d] x.result ∧ ExR w F [e, f, g, i, j] x.body := by
  obtain ⟨pv, tc, bc, rfl, h1, h2, h3, h4, h5⟩ := h
  obtain ⟨a, b, c, d, rfl⟩ := h4.four
  obtain ⟨e, f, g, i, j, rfl⟩ := h5.five
  obtain ⟨P1, p1, rfl, _⟩ := h3.form
  exact ⟨_, _, _, _, _, _, _, _, _, _, _, rfl, h1, h2, h3, h4, h5⟩
theorem ModuleR.form {w : World} {F : Foot} {cs : List Value} {x : Module} (h : ModuleR w F cs x) : ∃ U1 u1 T1 e1 T2 e2, cs = [.slice U1 x.uses.length u1, .slice T1 x.types.length e1, .slice T2 x.funcs.length e2] ∧
    SliceOf StrR 1 16 w F (.slice U1 x.uses.length u1) x.uses ∧ SliceOf FieldR 5 80 w F (.slice T1 x.types.length e1) x.types ∧ SliceOf FuncR 12 192 w F (.slice T2 x.funcs.length e2) x.funcs := by
  obtain ⟨uv, tv, fv, rfl, h1, h2, h3⟩ := h
  obtain ⟨U1, u1, rfl, _⟩ := h1.form
  obtain ⟨T1, e1, rfl, _⟩ := h2.form
  obtain ⟨T2, e2, rfl, _⟩ := h3.form
  exact ⟨_, _, _, _, _, _, rfl, h1, h2, h3⟩

theorem fun_q {x : Func} {z1 z2 : Bool} (h1 : nameOk x.name = z1) (h2 : nameOk x.var_ = z2) : (!z1 || (!x.var_.toList.isEmpty && !z2)) = decide (nameOk x.name = false ∨ (x.var_.size ≠ 0 ∧ nameOk x.var_ = false)) := by
  subst h1; subst h2
  rw [str_isEmpty]
  by_cases h : x.var_.size = 0 <;> cases nameOk x.name <;> cases nameOk x.var_ <;> simp [h]
theorem fieldErr_name {x : Field} (h : nameOk x.name = false) : fieldErr x = 4 := by unfold fieldErr; rw [h]; rfl
theorem fieldErr_type {x : Field} {z : Int} (h : nameOk x.name = true) (h2 : tyErr 10 x.is_ = z) : fieldErr x = z := by unfold fieldErr; rw [h, if_pos rfl, h2]
theorem funErr_name {x : Func} (h : nameOk x.name = false ∨ (x.var_.size ≠ 0 ∧ nameOk x.var_ = false)) : funErr x = 4 := by unfold funErr; rw [if_pos h]
theorem funErr_many {x : Func} (h : ¬ (nameOk x.name = false ∨ (x.var_.size ≠ 0 ∧ nameOk x.var_ = false))) (h2 : 8 < x.params.length) : funErr x = 1 := by unfold funErr; rw [if_neg h, if_pos h2]
theorem funErr_param {x : Func} {z : Int} (h : ¬ (nameOk x.name = false ∨ (x.var_.size ≠ 0 ∧ nameOk x.var_ = false))) (h2 : ¬ 8 < x.params.length) (h3 : eachErr fieldErr x.params = z) (h4 : z ≠ 0) : funErr x = z := by
  subst h3
  unfold funErr; rw [if_neg h, if_neg h2, if_pos h4]
theorem funErr_result {x : Func} {z : Int} (h : ¬ (nameOk x.name = false ∨ (x.var_.size ≠ 0 ∧ nameOk x.var_ = false))) (h2 : ¬ 8 < x.params.length) (h3 : eachErr fieldErr x.params = 0) (h4 : tyErr 10 x.result = z) (h5 : z ≠ 0) : funErr x = z := by
  subst h4
  unfold funErr; rw [if_neg h, if_neg h2, if_neg (by rw [h3]; decide), if_pos h5]
theorem funErr_body {x : Func} {z : Int} (h : ¬ (nameOk x.name = false ∨ (x.var_.size ≠ 0 ∧ nameOk x.var_ = false))) (h2 : ¬ 8 < x.params.length) (h3 : eachErr fieldErr x.params = 0) (h4 : tyErr 10 x.result = 0) (h5 : exErr 10 x.body = z) : funErr x = z := by
  subst h5
  unfold funErr; rw [if_neg h, if_neg h2, if_neg (by rw [h3]; decide), if_neg (by rw [h4]; decide)]

set_option maxRecDepth 100000 in
set_option maxHeartbeats 8000000 in
theorem funcFault_any (x : Func) (cs : List Value) (F : Foot) (w : World) (hF : ∀ k, F k → k < w.heap.size) (hx : FuncR w F cs x) :
    Calls Tryz.prog 148 #[.agg cs.toArray] w fun e w' => e = .returned (.int .i64 (funErr x)) ∧ Below w.heap.size w w' := by
  obtain ⟨P1, p1, a, b, c, d, e, f, g, i, j, rfl, hn, hv, hp, hr, hb⟩ := FuncR.form hx
  obtain ⟨E, hE⟩ : ∃ E, funErr x = E := ⟨_, rfl⟩
  rw [hE]
  obtain ⟨_, _, _, _, _, hpl, _⟩ := hp.form
  have hty := fun U (hU : Below w.heap.size w U) => typeFault_any 10 x.result 1 [a, b, c, d] F U (by omega) (by omega) (TyR.stays w U F F _ _ hr (fun _ h => h) (Keeps.of_below hU hF)) (foot_up hF hU)
  have hex := fun U (hU : Below w.heap.size w U) => exprFault_any 10 x.body 1 [e, f, g, i, j] F U (by omega) (by omega) (ExR.stays w U F F _ _ hb (fun _ h => h) (Keeps.of_below hU hF)) (foot_up hF hU)
  have hnm := fun W => nameMay_any x.name W hn
  have hvm := fun W => nameMay_any x.var_ W hv
  obtain ⟨z1, hz1⟩ : ∃ z, nameOk x.name = z := ⟨_, rfl⟩
  obtain ⟨z2, hz2⟩ : ∃ z, nameOk x.var_ = z := ⟨_, rfl⟩
  obtain ⟨z3, hz3⟩ : ∃ z, tyErr 10 x.result = z := ⟨_, rfl⟩
  obtain ⟨z4, hz4⟩ : ∃ z, exErr 10 x.body = z := ⟨_, rfl⟩
  rw [hz1] at hnm; rw [hz2] at hvm; rw [hz3] at hty; rw [hz4] at hex
  have HE := Lib.hid hE; have HN := Lib.hid hnm; have HV := Lib.hid hvm; have HTY := Lib.hid hty; have HEX := Lib.hid hex; have Z1 := Lib.hid hz1; have Z2 := Lib.hid hz2; have Z3 := Lib.hid hz3; have Z4 := Lib.hid hz4; have HP := Lib.hid hp
  clear hE hnm hvm hty hex hz1 hz2 hz3 hz4 hp hr hb hx
  go_enter Tryz.func148, Tryz.ntmps148
  go_upto_region 1 with fail
  have hB := Box.made w 83 #[.string x.name, .string x.var_, .slice P1 x.params.length p1, a, b, c, d, e, f, g, i, j]
  have hb0 : Below w.heap.size w (w.alloc (.cells #[.string x.name, .string x.var_, .slice P1 x.params.length p1, a, b, c, d, e, f, g, i, j] 83)) := by go_grown
  generalize w.alloc (.cells #[.string x.name, .string x.var_, .slice P1 x.params.length p1, a, b, c, d, e, f, g, i, j] 83) = W1 at hB hb0 ⊢
  have x0 := hB.at_ 0 _ rfl
  have x1 := hB.at_ 1 _ rfl
  have x2 := hB.at_ 2 _ rfl
  have HB := Lib.hid hB; have Hb0 := Lib.hid hb0
  clear hB hb0
  obtain ⟨q, hq⟩ : ∃ q : Bool, decide (nameOk x.name = false ∨ (x.var_.size ≠ 0 ∧ nameOk x.var_ = false)) = q := ⟨_, rfl⟩
  have HQ := Lib.hid hq
  have HQ2 := Lib.hid ((fun_q Z1.out Z2.out).trans hq)
  clear hq
  go_cut [20] (fun s20 wx => s20 = .bool q ∧ W1 = wx)
  case first =>
    have hq2 := HQ2.out
    cases z1 <;> cases z2 <;> cases he : x.var_.toList.isEmpty <;> rw [he] at hq2 <;> subst hq2
    all_goals (go_wp2_with (go_at_call 98; (first | ((with_reducible refine (HN.out _).mono ?_); rintro e w' ⟨rfl, rfl⟩) | ((with_reducible refine (HV.out _).mono ?_); rintro e w' ⟨rfl, rfl⟩))))
    all_goals (go_meet; exact ⟨rfl, rfl⟩)
  case rest =>
    obtain ⟨rfl, rfl⟩ := hcut
    cases q with
    | true =>
      go_wp2_with fail
      go_ret
      exact ⟨ret_int (by rw [← HE.out, funErr_name (of_decide_eq_true HQ.out)]), Hb0.out⟩
    | false =>
      have HNB := Lib.hid (of_decide_eq_false HQ.out)
      by_cases h8 : 8 < x.params.length
      · have h8z : (8 : Int) < (x.params.length : Int) := by omega
        go_wp2_with fail
        go_ret
        exact ⟨ret_int (by rw [← HE.out, funErr_many HNB.out h8]), Hb0.out⟩
      · have h8z : ¬ (8 : Int) < (x.params.length : Int) := by omega
        go_wp2_with fail
        go_loopg [3, 4] x.params.length (fun gg s3 _ wr => ∃ kk : Nat, kk ≤ x.params.length ∧ x.params.length - kk ≤ gg ∧ s3 = .int .i64 kk ∧ Aside (Below W1.heap.size W1 wr) ∧ Aside (∀ j, j < kk → ∀ y, x.params[j]? = some y → fieldErr y = 0))
        case atStart => exact ⟨0, Nat.zero_le _, by omega, rfl, Below.refl _ _, aside (fun j hj => absurd hj (Nat.not_lt_zero _))⟩
        case round =>
          obtain ⟨kk, hkk, hg, rfl, BW, Al⟩ := hrel
          have hBr := HB.out.later BW.out HB.out.lt
          have y2 := hBr.at_ 2 _ rfl
          have hbw := Hb0.out.trans (BW.out.mono Hb0.out.size)
          by_cases hlt : kk < x.params.length
          · have hltz : (kk : Int) < (x.params.length : Int) := by omega
            obtain ⟨b1, off, cs, rfl, hbF, hcs, hr1, hcell⟩ := (HP.out.up FieldR.stays hF hbw).at_ hlt
            have hy := List.getElem?_eq_getElem hlt
            generalize x.params[kk] = y at *
            obtain ⟨c1, c2, c3, c4, rfl, hyn, hyt⟩ := FieldR.form hr1
            have hc0 := hcell 0 _ rfl
            have hc1 := hcell 1 _ rfl
            have hc2 := hcell 2 _ rfl
            have hc3 := hcell 3 _ rfl
            have hc4 := hcell 4 _ rfl
            simp only [Nat.add_zero] at hc0
            have hyr := typeFault_any 10 y.is_ 1 [c1, c2, c3, c4] F wr (by omega) (by omega) hyt (foot_up hF hbw)
            have hym := fun W => nameMay_any y.name W hyn
            obtain ⟨z5, hz5⟩ : ∃ z, nameOk y.name = z := ⟨_, rfl⟩
            obtain ⟨z6, hz6⟩ : ∃ z, tyErr 10 y.is_ = z := ⟨_, rfl⟩
            rw [hz6] at hyr; rw [hz5] at hym
            have HY := Lib.hid hy; have HYR := Lib.hid hyr; have HYM := Lib.hid hym; have Z5 := Lib.hid hz5; have Z6 := Lib.hid hz6; have HBW := Lib.hid hbw
            clear hy hyr hym hz5 hz6 hcell hr1 hyt hcs hbw hBr
            cases z5 with
            | false =>
              go_wp2_with fail
              refine (HYM.out _).mono ?_
              rintro e w' ⟨rfl, rfl⟩
              go_wp2_with fail
              go_ret
              exact ⟨ret_int (by rw [← HE.out, funErr_param HNB.out h8 (eachErr_hit HY.out (fieldErr_name Z5.out) (by decide) Al.out) (by decide)]), HBW.out⟩
            | true =>
              go_wp2_with fail
              refine (HYM.out _).mono ?_
              rintro e w' ⟨rfl, rfl⟩
              go_wp2_with fail
              refine HYR.out.mono ?_
              rintro e w1 ⟨rfl, hb1⟩
              have HB1 := Lib.hid (BW.out.trans (hb1.mono BW.out.size))
              have HB2 := Lib.hid (HBW.out.trans (hb1.mono HBW.out.size))
              clear hb1
              by_cases hz0 : z6 = 0
              · subst hz0
                go_wp2_with fail
                go_roundg (x.params.length - (kk + 1))
                case measure => omega
                case rel => exact ⟨kk + 1, by omega, by omega, by go_num, HB1.out, aside (good_succ HY.out (fieldErr_type Z5.out Z6.out) Al.out)⟩
              · have hzn : (z6 != 0) = true := by simp [hz0]
                go_wp2_with fail
                go_ret
                exact ⟨ret_int (by rw [← HE.out, funErr_param HNB.out h8 (eachErr_hit HY.out (fieldErr_type Z5.out Z6.out) hz0 Al.out) hz0]), HB2.out⟩
          · have hltz : ¬ (kk : Int) < (x.params.length : Int) := by omega
            obtain rfl : kk = x.params.length := by omega
            have y3 := hBr.at_ 3 _ rfl
            have y4 := hBr.at_ 4 _ rfl
            have y5 := hBr.at_ 5 _ rfl
            have y6 := hBr.at_ 6 _ rfl
            have HPE := Lib.hid (eachErr_none Al.out)
            have HBr := Lib.hid hBr
            have HBW := Lib.hid hbw
            clear hBr hbw
            go_wp2_with fail
            refine (HTY.out _ HBW.out).mono ?_
            rintro e w1 ⟨rfl, hb1⟩
            have hB2 := HBr.out.later hb1 HBr.out.lt
            have u7 := hB2.at_ 7 _ rfl
            have u8 := hB2.at_ 8 _ rfl
            have u9 := hB2.at_ 9 _ rfl
            have u10 := hB2.at_ 10 _ rfl
            have u11 := hB2.at_ 11 _ rfl
            have HB2 := Lib.hid (HBW.out.trans (hb1.mono HBW.out.size))
            clear hb1 hB2 y2 y3 y4 y5 y6
            by_cases hz0 : z3 = 0
            · subst hz0
              go_wp2_with fail
              refine (HEX.out _ HB2.out).mono ?_
              rintro e w2 ⟨rfl, hb2⟩
              go_wp2_with fail
              go_ret
              exact ⟨ret_int (by rw [← HE.out, funErr_body HNB.out h8 HPE.out Z3.out Z4.out]), HB2.out.trans (hb2.mono HB2.out.size)⟩
            · have hzn : (z3 == 0) = false := by simp [hz0]
              go_wp2_with fail
              go_ret
              exact ⟨ret_int (by rw [← HE.out, funErr_result HNB.out h8 HPE.out Z3.out hz0]), HB2.out⟩

end Go.Proofs.YtjaladhdnbhliaaGreatDoor
