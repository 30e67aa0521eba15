/- Functions that must be right: tree.fun. -/
import Derived.Test.YtjaladhdnbhliaaGreatDoorTreeChk2
import Derived.Test.YtjaladhdnbhliaaGreatDoorTreeErr3
namespace Go.Proofs.YtjaladhdnbhliaaGreatDoor
open Go.RowKit Go.Shelf

set_option maxRecDepth 100000 in
set_option maxHeartbeats 8000000 in
theorem fun_any (x : Func) (cs : List Value) (F : Foot) (w : World) (hF : ∀ k, F k → k < w.heap.size) (hx : FuncR w F cs x) :
    Calls Tryz.prog 73 #[.agg cs.toArray] w fun e w' => e = faultEnd (funErr x) ∧ Below w.heap.size w w' := by
  obtain ⟨P1, p1, a, b, c, d, t, f, g, i, j, rfl, hn, hv, hp, hr, hb⟩ := FuncR.form hx
  obtain ⟨E, hE⟩ : ∃ E, funErr x = E := ⟨_, rfl⟩
  rw [hE]
  obtain ⟨_, _, _, _, _, hpl, _⟩ := hp.form
  have hty := fun U (hU : Below w.heap.size w U) => kind_any 10 x.result 1 [a, b, c, d] F U (by omega) (by omega) (TyR.stays w U F F _ _ hr (fun _ h => h) (Keeps.of_below hU hF)) (foot_up hF hU)
  have hex := fun U (hU : Below w.heap.size w U) => expr_any 10 x.body 1 [t, f, g, i, j] F U (by omega) (by omega) (ExR.stays w U F F _ _ hb (fun _ h => h) (Keeps.of_below hU hF)) (foot_up hF hU)
  have hnm := fun W => ident_any x.name W hn
  have hvm := fun W => ident_any x.var_ W hv
  obtain ⟨z1, hz1⟩ : ∃ z, (nameOk x.name) = z := ⟨_, rfl⟩
  rw [hz1] at hnm
  have Z1 := Lib.hid hz1; clear hz1
  obtain ⟨z2, hz2⟩ : ∃ z, (nameOk x.var_) = z := ⟨_, rfl⟩
  rw [hz2] at hvm
  have Z2 := Lib.hid hz2; clear hz2
  obtain ⟨z3, hz3⟩ : ∃ z, (tyErr 10 x.result) = z := ⟨_, rfl⟩
  rw [hz3] at hty
  have Z3 := Lib.hid hz3; clear hz3
  obtain ⟨z4, hz4⟩ : ∃ z, (exErr 10 x.body) = z := ⟨_, rfl⟩
  rw [hz4] at hex
  have Z4 := Lib.hid hz4; clear hz4
  have HE := Lib.hid hE; have HN := Lib.hid hnm; have HV := Lib.hid hvm; have HTY := Lib.hid hty; have HEX := Lib.hid hex; have HP := Lib.hid hp
  clear hE hnm hvm hty hex hp
  clear hr hb hx
  go_enter Tryz.func73, Tryz.ntmps73
  go_upto_region 1 with fail
  have hBb := Box.made w 83 #[.string x.name, .string x.var_, .slice P1 x.params.length p1, a, b, c, d, t, f, g, i, j]
  have hbb : Below w.heap.size w (w.alloc (.cells #[.string x.name, .string x.var_, .slice P1 x.params.length p1, a, b, c, d, t, f, g, i, j] 83)) := by go_grown
  have hzb : (w.alloc (.cells #[.string x.name, .string x.var_, .slice P1 x.params.length p1, a, b, c, d, t, f, g, i, j] 83)).heap.size = w.heap.size + 1 := by simp
  generalize w.alloc (.cells #[.string x.name, .string x.var_, .slice P1 x.params.length p1, a, b, c, d, t, f, g, i, j] 83) = W1 at hBb hbb hzb ⊢
  have x0 := hBb.at_ 0 _ rfl
  have x1 := hBb.at_ 1 _ rfl
  have HB := Lib.hid hBb; have Hb0 := Lib.hid hbb; have Hz := Lib.hid hzb
  clear hBb hbb hzb
  go_cut [] (fun wc => Aside (Below W1.heap.size W1 wc) ∧ Aside (¬ (nameOk x.name = false ∨ (x.var_.size ≠ 0 ∧ nameOk x.var_ = false))))
  case first =>
    go_wp2_with fail
    refine (HN.out _).mono ?_
    rintro e W2 ⟨rfl, hb2⟩
    have hB2 := HB.out.later hb2 HB.out.lt
    clear x0 x1
    have x1 := hB2.at_ 1 _ rfl
    have HB2 := Lib.hid hB2; have HBW := Lib.hid hb2
    clear hB2 hb2
    cases z1 with
    | false =>
      go_wp2_with (first | (go_at_call 71; (with_reducible refine (need_yes _ _).mono ?_); rintro e w' ⟨rfl, rfl⟩) | (go_at_call 71; (with_reducible refine (need_no _ _).mono ?_); rintro e w' ⟨rfl, rfl⟩))
      refine ⟨rfl, ?_, Hb0.out.trans (HBW.out.mono Hb0.out.size)⟩
      rw [← HE.out, funErr_name (.inl Z1.out)]; rfl
    | true =>
      cases hq : x.var_.toList.isEmpty with
      | true =>
        go_wp2_with (first | (go_at_call 71; (with_reducible refine (need_yes _ _).mono ?_); rintro e w' ⟨rfl, rfl⟩) | (go_at_call 71; (with_reducible refine (need_no _ _).mono ?_); rintro e w' ⟨rfl, rfl⟩))
        rw [str_isEmpty, decide_eq_true_eq] at hq
        go_meet
        exact ⟨aside HBW.out, aside (fun h => h.elim (fun h => by rw [Z1.out] at h; cases h) fun h => h.1 hq)⟩
      | false =>
        go_wp2_with (first | (go_at_call 71; (with_reducible refine (need_yes _ _).mono ?_); rintro e w' ⟨rfl, rfl⟩) | (go_at_call 71; (with_reducible refine (need_no _ _).mono ?_); rintro e w' ⟨rfl, rfl⟩))
        refine (HV.out _).mono ?_
        rintro e W3 ⟨rfl, hb3⟩
        have HB3 := Lib.hid (HBW.out.trans (hb3.mono HBW.out.size))
        clear hb3
        rw [str_isEmpty, decide_eq_false_iff_not] at hq
        have HQ := Lib.hid hq
        clear hq
        cases z2 with
        | false =>
          go_wp2_with (first | (go_at_call 71; (with_reducible refine (need_yes _ _).mono ?_); rintro e w' ⟨rfl, rfl⟩) | (go_at_call 71; (with_reducible refine (need_no _ _).mono ?_); rintro e w' ⟨rfl, rfl⟩))
          refine ⟨rfl, ?_, Hb0.out.trans (HB3.out.mono Hb0.out.size)⟩
          rw [← HE.out, funErr_name (.inr ⟨HQ.out, Z2.out⟩)]; rfl
        | true =>
          go_wp2_with (first | (go_at_call 71; (with_reducible refine (need_yes _ _).mono ?_); rintro e w' ⟨rfl, rfl⟩) | (go_at_call 71; (with_reducible refine (need_no _ _).mono ?_); rintro e w' ⟨rfl, rfl⟩))
          go_meet
          exact ⟨aside HB3.out, aside (fun h => h.elim (fun h => by rw [Z1.out] at h; cases h) fun h => by have := h.2; rw [Z2.out] at this; cases this)⟩
  case rest =>
    obtain ⟨hbc, hno⟩ := hcut
    obtain ⟨W2, rfl⟩ : ∃ W, W = wc := ⟨_, rfl⟩
    have hB2 := HB.out.later hbc.out HB.out.lt
    clear x0 x1
    have x2 := hB2.at_ 2 _ rfl
    have hbw := Hb0.out.trans (hbc.out.mono Hb0.out.size)
    have HNB := Lib.hid hno.out
    have HB2 := Lib.hid hB2; have HBW := Lib.hid hbw
    clear hB2 hbw
    clear hbc hno
    by_cases h8 : 8 < x.params.length
    · have h8z : ((x.params.length : Int) ≤ 8) = False := by simp; omega
      go_wp2_with (first | (go_at_call 71; (with_reducible refine (need_yes _ _).mono ?_); rintro e w' ⟨rfl, rfl⟩) | (go_at_call 71; (with_reducible refine (need_no _ _).mono ?_); rintro e w' ⟨rfl, rfl⟩))
      exact ⟨rfl, by rw [← HE.out, funErr_many HNB.out h8]; rfl, HBW.out⟩
    · have h8z : (x.params.length : Int) ≤ 8 := by omega
      have H8 := Lib.hid h8
      go_wp2_with (first | (go_at_call 71; (with_reducible refine (need_yes _ _).mono ?_); rintro e w' ⟨rfl, rfl⟩) | (go_at_call 71; (with_reducible refine (need_no _ _).mono ?_); rintro e w' ⟨rfl, rfl⟩))
      go_loopg [26] x.params.length (fun gg s26 wr => ∃ kk : Nat, kk ≤ x.params.length ∧ x.params.length - kk ≤ gg ∧ s26 = .int .i64 kk ∧ Aside (Below W2.heap.size W2 wr) ∧ Aside (∀ j, j < kk → ∀ y, x.params[j]? = some y → fieldErr y = 0))
      case atStart => exact ⟨0, Nat.zero_le _, by omega, rfl, Below.refl _ _, aside (fun j hj => absurd hj (Nat.not_lt_zero _))⟩
      case round =>
        obtain ⟨kk, hkk, hg, rfl, BW, Al⟩ := hrel
        have hbw := HBW.out.trans (BW.out.mono HBW.out.size)
        by_cases hlt : kk < x.params.length
        · have hltz : (kk : Int) < (x.params.length : Int) := by omega
          obtain ⟨b1, off, cs, rfl, hbF, hcs, hr1, hcell⟩ := (HP.out.up FieldR.stays hF hbw).at_ hlt
          have hy := List.getElem?_eq_getElem hlt
          generalize x.params[kk] = y at *
          obtain ⟨c1, c2, c3, c4, rfl, hyn, hyt⟩ := FieldR.form hr1
          obtain ⟨A2, n2, hfm⟩ := TyR.form hyt
          simp only [List.cons.injEq, and_true] at hfm
          obtain ⟨rfl, rfl, rfl, rfl⟩ := hfm
          have hc0 := hcell 0 _ rfl
          have hc1 := hcell 1 _ rfl
          have hc2 := hcell 2 _ rfl
          have hc3 := hcell 3 _ rfl
          have hc4 := hcell 4 _ rfl
          simp only [Nat.add_zero] at hc0
          have hyr := fun U (hU : Below wr.heap.size wr U) => kind_any 10 y.is_ 1 _ F U (by omega) (by omega) (TyR.stays.later hyt hU (foot_up hF hbw)) (foot_up (foot_up hF hbw) hU)
          have hym := fun W => ident_any y.name W hyn
          obtain ⟨z5, hz5⟩ : ∃ z, (nameOk y.name) = z := ⟨_, rfl⟩
          rw [hz5] at hym
          have Z5 := Lib.hid hz5; clear hz5
          obtain ⟨z6, hz6⟩ : ∃ z, (tyErr 10 y.is_) = z := ⟨_, rfl⟩
          rw [hz6] at hyr
          have Z6 := Lib.hid hz6; clear hz6
          have hbl := foot_up hF hbw _ hbF
          have HY := Lib.hid hy; have HYR := Lib.hid hyr; have HYM := Lib.hid hym; have HBR := Lib.hid hbw
          clear hy hyr hym hbw
          clear hcell hr1 hyt hcs
          go_upto_region 6 with fail
          have hBf := Box.made wr 78 #[.string y.name, .int .i64 y.is_.kind, .string y.is_.of_, .string y.is_.name, .slice A2 y.is_.args.length n2]
          have hbf : Below wr.heap.size wr (wr.alloc (.cells #[.string y.name, .int .i64 y.is_.kind, .string y.is_.of_, .string y.is_.name, .slice A2 y.is_.args.length n2] 78)) := by go_grown
          have hzf : (wr.alloc (.cells #[.string y.name, .int .i64 y.is_.kind, .string y.is_.of_, .string y.is_.name, .slice A2 y.is_.args.length n2] 78)).heap.size = wr.heap.size + 1 := by simp
          generalize wr.alloc (.cells #[.string y.name, .int .i64 y.is_.kind, .string y.is_.of_, .string y.is_.name, .slice A2 y.is_.args.length n2] 78) = W3 at hBf hbf hzf ⊢
          have n0 := hBf.at_ 0 _ rfl
          go_wp2_with fail
          refine (HYM.out _).mono ?_
          rintro e W4 ⟨rfl, hb4⟩
          have hB4 := hBf.later hb4 hBf.lt
          clear n0 hc0 hc1 hc2 hc3 hc4
          have n1 := hB4.at_ 1 _ rfl
          have n2 := hB4.at_ 2 _ rfl
          have n3 := hB4.at_ 3 _ rfl
          have n4 := hB4.at_ 4 _ rfl
          have hb5 := hbf.trans (hb4.mono hbf.size)
          have HB4 := Lib.hid hB4; have HB5 := Lib.hid hb5
          clear hB4 hb5
          clear hBf hbf hzf hb4
          cases z5 with
          | false =>
            go_wp2_with (first | (go_at_call 71; (with_reducible refine (need_yes _ _).mono ?_); rintro e w' ⟨rfl, rfl⟩) | (go_at_call 71; (with_reducible refine (need_no _ _).mono ?_); rintro e w' ⟨rfl, rfl⟩))
            refine ⟨rfl, ?_, HBR.out.trans (HB5.out.mono HBR.out.size)⟩
            rw [← HE.out, funErr_param HNB.out H8.out (eachErr_hit HY.out (fieldErr_name Z5.out) (by decide) Al.out) (by decide)]; rfl
          | true =>
            go_wp2_with (first | (go_at_call 71; (with_reducible refine (need_yes _ _).mono ?_); rintro e w' ⟨rfl, rfl⟩) | (go_at_call 71; (with_reducible refine (need_no _ _).mono ?_); rintro e w' ⟨rfl, rfl⟩))
            refine (HYR.out _ HB5.out).mono ?_
            rintro e W5 ⟨rfl, hb6⟩
            have HB6 := Lib.hid (HB5.out.trans (hb6.mono HB5.out.size))
            clear hb6
            by_cases hz0 : z6 = 0
            · subst hz0
              rw [faultEnd_ok]
              go_wp2_with fail
              go_roundg (x.params.length - (kk + 1))
              case measure => omega
              case rel => exact ⟨kk + 1, by omega, by omega, by go_num, aside (BW.out.trans (HB6.out.mono BW.out.size)), aside (good_succ HY.out (fieldErr_type Z5.out Z6.out) Al.out)⟩
            · rw [faultEnd_no hz0]
              go_wp2_with fail
              refine ⟨rfl, ?_, HBR.out.trans (HB6.out.mono HBR.out.size)⟩
              rw [← HE.out, funErr_param HNB.out H8.out (eachErr_hit HY.out (fieldErr_type Z5.out Z6.out) hz0 Al.out) hz0, faultEnd_no hz0]
        · have hltz : ¬ (kk : Int) < (x.params.length : Int) := by omega
          obtain rfl : kk = x.params.length := by omega
          have hBr := HB2.out.later BW.out HB2.out.lt
          clear x2
          have x3 := hBr.at_ 3 _ rfl
          have x4 := hBr.at_ 4 _ rfl
          have x5 := hBr.at_ 5 _ rfl
          have x6 := hBr.at_ 6 _ rfl
          have HPE := Lib.hid (eachErr_none Al.out)
          have HBr := Lib.hid hBr; have HBR := Lib.hid hbw
          clear hBr hbw
          go_wp2_with fail
          refine (HTY.out _ HBR.out).mono ?_
          rintro e W5 ⟨rfl, hb1⟩
          have hB5 := HBr.out.later hb1 HBr.out.lt
          clear x3 x4 x5 x6
          have u7 := hB5.at_ 7 _ rfl
          have u8 := hB5.at_ 8 _ rfl
          have u9 := hB5.at_ 9 _ rfl
          have u10 := hB5.at_ 10 _ rfl
          have u11 := hB5.at_ 11 _ rfl
          have HB5 := Lib.hid (HBR.out.trans (hb1.mono HBR.out.size))
          clear hb1 hB5
          by_cases hz0 : z3 = 0
          · subst hz0
            rw [faultEnd_ok]
            go_wp2_with fail
            refine (HEX.out _ HB5.out).mono ?_
            rintro e W6 ⟨rfl, hb2⟩
            have HB6 := Lib.hid (HB5.out.trans (hb2.mono HB5.out.size))
            clear hb2
            by_cases hz4 : z4 = 0
            · subst hz4
              rw [faultEnd_ok]
              go_wp2_with fail
              go_end0
              exact ⟨by rw [← HE.out, funErr_body HNB.out H8.out HPE.out Z3.out Z4.out]; rfl, HB6.out⟩
            · rw [faultEnd_no hz4]
              go_wp2_with fail
              exact ⟨rfl, by rw [← HE.out, funErr_body HNB.out H8.out HPE.out Z3.out Z4.out, faultEnd_no hz4], HB6.out⟩
          · rw [faultEnd_no hz0]
            go_wp2_with fail
            exact ⟨rfl, by rw [← HE.out, funErr_result HNB.out H8.out HPE.out Z3.out hz0, faultEnd_no hz0], HB5.out⟩

end Go.Proofs.YtjaladhdnbhliaaGreatDoor
