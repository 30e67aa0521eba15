/- What is wrong with imports: face.CheckImports. -/
import Derived.Test.YtoejhgbndehaiaaFaceChk
import Derived.Test.YtoejhgbndehaiaaImpErr
import Derived.Test.YtoejhgbndehaiaaRecEq
namespace Go.Proofs.Ytoejhgbndehaiaa
open Go.RowKit Go.Shelf

set_option maxRecDepth 100000 in
set_option maxHeartbeats 8000000 in
theorem checkImports_any (v : Value) (l : List Import) (F : Foot) (w : World) (hF : ∀ k, F k → k < w.heap.size) (hv : SliceOf ImportR 4 72 w F v l) :
    Calls Try.prog 106 #[v] w fun e w' => e = .returned (.int .i64 (importsErr l)) ∧ Below w.heap.size w w' := by
  obtain ⟨A, cap, rfl, _, _, hl1, _⟩ := hv.form
  obtain ⟨E, hE⟩ : ∃ z, (importsErr l) = z := ⟨_, rfl⟩
  rw [hE] at ⊢
  have HE := Lib.hid hE; clear hE
  by_cases h24 : 24 < l.length
  · have h24z : (24 : Int) < (l.length : Int) := by omega
    obtain rfl : E = 1 := by rw [← HE.out]; simp [importsErr, h24]
    clear hv
    go_enter Try.func106, Try.ntmps106
    go_wp2_with fail
    go_ret
    exact ⟨rfl, Below.refl _ _⟩
  · have h24z : ¬ (24 : Int) < (l.length : Int) := by omega
    have H24 := Lib.hid h24; have HV := Lib.hid hv
    clear h24 hv
    go_enter Try.func106, Try.ntmps106
    go_wp2_with fail
    go_loopg [3, 5, 11] l.length (fun gg _ _ s11 wr => ∃ kk : Nat, kk ≤ l.length ∧ l.length - kk ≤ gg ∧ s11 = .int .i64 kk ∧ Aside (Below w.heap.size w wr) ∧ Aside (∀ j, j < kk → itemErr Import.name importBad l j = 0))
    case atStart => exact ⟨0, Nat.zero_le _, by omega, rfl, Below.refl _ _, aside (fun j hj => absurd hj (Nat.not_lt_zero _))⟩
    case round =>
      obtain ⟨kk, hkk, hg, rfl, BW, Al⟩ := hrel
      by_cases hlt : kk < l.length
      · have hltz : (kk : Int) < (l.length : Int) := by omega
        have hat := HV.out.up ImportR.stays hF BW.out
        obtain ⟨b1, off, cs, rfl, hb, hcs, hr, hcell⟩ := hat.at_ hlt
        have hx := List.getElem?_eq_getElem hlt
        generalize l[kk] = x at *
        obtain ⟨T3, e3, T4, e4, rfl⟩ := ImportR.form hr
        have hc0 := hcell 0 _ rfl
        have hc1 := hcell 1 _ rfl
        have hc2 := hcell 2 _ rfl
        have hc3 := hcell 3 _ rfl
        simp only [Nat.add_zero] at hc0
        have hFr := foot_up hF BW.out
        have hnm := fun W => ident_any x.name W (ImportR.okName hr)
        have hfc := fun (U : World) (hU : Below wr.heap.size wr U) => faceCheck_any x.face [.slice T3 x.face.types.length e3, .slice T4 x.face.funcs.length e4] F U (foot_up hFr hU) (FaceR.stays.later (ImportR.face hr) hU hFr)
        obtain ⟨_, _, hq1, ht1, ht2⟩ := ImportR.face hr
        injection hq1 with hq1 hq2
        injection hq2 with hq2 _
        subst hq1; subst hq2
        obtain ⟨_, _, _, _, _, hty, _⟩ := ht1.form
        obtain ⟨_, _, _, _, _, hfy, _⟩ := ht2.form
        obtain ⟨z1, hz1⟩ : ∃ z, (nameOk x.name) = z := ⟨_, rfl⟩
        rw [hz1] at hnm
        have Z1 := Lib.hid hz1; clear hz1
        obtain ⟨z2, hz2⟩ : ∃ z, (faceErr x.face) = z := ⟨_, rfl⟩
        rw [hz2] at hfc
        have Z2 := Lib.hid hz2; clear hz2
        obtain ⟨z3, hz3⟩ : ∃ z, (x.there) = z := ⟨_, rfl⟩
        rw [hz3] at hc1
        have Z3 := Lib.hid hz3; clear hz3
        have HX := Lib.hid hx; have HN := Lib.hid hnm; have HFC := Lib.hid hfc; have HAT := Lib.hid hat
        clear hx hnm hfc hat
        clear hcell hcs hr ht1 ht2 hFr
        go_upto_region 6 with fail
        have hBb := Box.made wr 94 #[.string x.name, .bool z3, .slice T3 x.face.types.length e3, .slice T4 x.face.funcs.length e4]
        have hbb : Below wr.heap.size wr (wr.alloc (.cells #[.string x.name, .bool z3, .slice T3 x.face.types.length e3, .slice T4 x.face.funcs.length e4] 94)) := by go_grown
        have hzb : (wr.alloc (.cells #[.string x.name, .bool z3, .slice T3 x.face.types.length e3, .slice T4 x.face.funcs.length e4] 94)).heap.size = wr.heap.size + 1 := by simp
        generalize wr.alloc (.cells #[.string x.name, .bool z3, .slice T3 x.face.types.length e3, .slice T4 x.face.funcs.length e4] 94) = W2 at hBb hbb hzb ⊢
        have n0 := hBb.at_ 0 _ rfl
        have HBb := Lib.hid hBb; have Hbb := Lib.hid hbb; have Hzb := Lib.hid hzb
        clear hBb hbb hzb
        go_wp2_with fail
        refine (HN.out _).mono ?_
        rintro e W3 ⟨rfl, hb3⟩
        have hB3 := HBb.out.later hb3 HBb.out.lt
        have m2 := hB3.at_ 2 _ rfl
        have m3 := hB3.at_ 3 _ rfl
        have HB3 := Lib.hid (Hbb.out.trans (hb3.mono Hbb.out.size))
        have HBo3 := Lib.hid hB3
        clear hB3 hb3 n0 hc0 hc1 hc2 hc3
        cases z1 with
        | false =>
          go_wp2_with fail
          go_ret
          exact ⟨ret_int (by rw [← HE.out]; exact (importsErr_hit H24.out hlt Al.out (itemErr_bad HX.out (importBad_name Z1.out) (by decide)) (by decide)).symm), BW.out.trans (HB3.out.mono BW.out.size)⟩
        | true =>
        go_wp2_with fail
        refine (HFC.out _ HB3.out).mono ?_
        rintro e W4 ⟨rfl, hb4⟩
        have hB4 := HBo3.out.later hb4 HBo3.out.lt
        clear m2 m3
        have n0 := hB4.at_ 0 _ rfl
        have n1 := hB4.at_ 1 _ rfl
        have n2 := hB4.at_ 2 _ rfl
        have n3 := hB4.at_ 3 _ rfl
        have HBW4 := Lib.hid (BW.out.trans ((HB3.out.trans (hb4.mono HB3.out.size)).mono BW.out.size))
        have HBo4 := Lib.hid hB4
        clear hB4 hb4
        by_cases hz : z2 = 0
        · subst hz
          go_upto_region 11 with fail
          go_cut [40] (fun s40 wc => ∃ z : Bool, s40 = .bool z ∧ W4 = wc ∧ Aside (importBad x = if z then 4 else 0))
          case first =>
            cases z3 with
            | false =>
              cases hq : decide (0 < (x.face.types.length : Int) + (x.face.funcs.length : Int))
              all_goals
                go_wp2_with fail
                go_meet
                refine ⟨_, rfl, rfl, aside ?_⟩
              · have hqq := of_decide_eq_false hq
                rw [importBad_ok Z1.out Z2.out (.inr (by omega))]; simp <;> omega
              · have hqq := of_decide_eq_true hq
                rw [importBad_there Z1.out Z2.out Z3.out (by omega)]; simp <;> omega
            | true =>
              go_wp2_with fail
              go_meet
              exact ⟨_, rfl, rfl, aside (by rw [importBad_ok Z1.out Z2.out (.inl Z3.out)]; rfl)⟩
          case rest =>
          obtain ⟨z, rfl, rfl, hkz⟩ := hcut
          cases z with
          | true =>
            go_wp2_with fail
            go_ret
            exact ⟨ret_int (by rw [← HE.out]; exact (importsErr_hit H24.out hlt Al.out (itemErr_bad HX.out hkz.out (by decide)) (by decide)).symm), HBW4.out⟩
          | false =>
          have HTW := Lib.hid (HV.out.up ImportR.stays hF HBW4.out)
          have HG := Lib.hid (show importBad x = 0 from hkz.out)
          clear hkz n1 n2 n3
          go_upto_region 13 with fail
          go_cut [53] (fun s53 wc => ∃ z : Bool, s53 = .bool z ∧ Aside (Below W4.heap.size W4 wc) ∧ Aside (itemErr Import.name importBad l kk = if z then 7 else 0))
          case first =>
            by_cases h0 : 0 < kk
            · have h0z : (0 : Int) < (kk : Int) := by omega
              obtain ⟨b2, off2, cs2, e2, hb2, _, hr2, hcell2⟩ := (HTW.out.at_ (k := kk - 1) (by omega))
              obtain ⟨T5, e5, T6, e6, rfl⟩ := ImportR.form hr2
              injection e2 with e2
              injection e2 with e2 e3 _
              subst e2; subst e3
              have hd0 := hcell2 0 _ rfl
              simp only [Nat.add_zero] at hd0
              have hy := List.getElem?_eq_getElem (show kk - 1 < l.length by omega)
              generalize l[kk - 1] = y at *
              have HY := Lib.hid hy
              have HI := Lib.hid (itemErr_next (name := Import.name) (bad := importBad) h0 HX.out HY.out HG.out)
              have hi1 : IntKind.i64.wrap ((kk : Int) - 1) = (kk : Int) - 1 := IntWalk.i64_in _ (by omega)
              have hi2 : (0 : Int) ≤ (kk : Int) - 1 := by omega
              have hi3 : ((kk : Int) - 1).toNat = kk - 1 := by omega
              have hi4 : (kk : Int) - 1 < (l.length : Int) := by omega
              clear hcell2 hy
              cases hq : ltS y.name x.name
              all_goals
                have HQ := Lib.hid hq
                have hless : Op.bytesLess y.name.toList x.name.toList = _ := hq
                clear hq
                go_wp2_with fail
                go_quiet (fail)
                go_wp2_with fail
                go_meet
                exact ⟨_, rfl, aside (below_drewN (Below.refl _ _) _), aside (by rw [HI.out, HQ.out]; rfl)⟩
            · have h0z : decide ((0 : Int) < (kk : Int)) = false := decide_eq_false (by omega)
              have HI := Lib.hid (show itemErr Import.name importBad l kk = 0 by
                have e : kk = 0 := by omega
                have h := HX.out
                rw [e] at h ⊢
                exact itemErr_first h HG.out)
              go_wp2_with fail
              go_quiet (fail)
              go_wp2_with fail
              go_meet
              exact ⟨_, rfl, aside (below_drewN (Below.refl _ _) _), aside (by rw [HI.out]; rfl)⟩
          case rest =>
          obtain ⟨z, rfl, hb5, hiz⟩ := hcut
          obtain ⟨W5, rfl⟩ : ∃ W, W = wc := ⟨_, rfl⟩
          have HBy := Lib.hid (HBW4.out.trans (hb5.out.mono HBW4.out.size))
          cases z with
          | true =>
            go_wp2_with fail
            go_ret
            exact ⟨ret_int (by rw [← HE.out]; exact (importsErr_hit H24.out hlt Al.out hiz.out (by decide)).symm), HBy.out⟩
          | false =>
            go_wp2_with fail
            go_roundg (l.length - (kk + 1))
            case measure => omega
            case rel => exact ⟨kk + 1, by omega, by omega, by go_num, HBy.out, aside (zeros_succ Al.out hiz.out)⟩
        · have hzn : (z2 != 0) = true := by simp [hz]
          go_wp2_with fail
          go_ret
          exact ⟨ret_int (by rw [← HE.out]; exact (importsErr_hit H24.out hlt Al.out (itemErr_bad HX.out (importBad_face Z1.out Z2.out hz) hz) hz).symm), HBW4.out⟩
      · have hltz : ¬ (kk : Int) < (l.length : Int) := by omega
        obtain rfl : kk = l.length := by omega
        go_wp2_with fail
        go_ret
        exact ⟨ret_int (by rw [← HE.out]; exact (importsErr_none H24.out Al.out).symm), BW.out⟩

end Go.Proofs.Ytoejhgbndehaiaa
