/- What is wrong with a face: face.Check. -/
import Derived.Test.YtoejhgbndehaiaaFaceErr
import Derived.Test.YtoejhgbndehaiaaOpenB
import Derived.Test.YtoejhgbndehaiaaBase
import Derived.Deep.QuietTactic
import Derived.BigQuiet
import Derived.WalkSmall
import Derived.Deep.DeepCutAuto
import Derived.Deep.Light
namespace Go.Proofs.Ytoejhgbndehaiaa
open Go.RowKit Go.Shelf

theorem knownBad_iff (x : Known) : knownBad x = if nameOk x.name = true ∧ kindErr x.is_ = 0 ∧ openB x.is_ = false then 0 else 4 := by
  unfold knownBad
  by_cases h : nameOk x.name = true ∧ kindErr x.is_ = 0 ∧ openB x.is_ = false
  · rw [if_pos h]; simp [h.1, h.2.1, h.2.2]
  · rw [if_neg h]
    by_cases h1 : nameOk x.name = true <;> by_cases h2 : kindErr x.is_ = 0 <;> by_cases h3 : openB x.is_ = false <;> simp_all
theorem sigBad_iff (x : Sig) : sigBad x = if nameOk x.name = true ∧ x.params.length ≤ 8 ∧ kindErr x.result = 0 ∧ x.params.any paramBad = false then 0 else 4 := by
  unfold sigBad
  by_cases h : nameOk x.name = true ∧ x.params.length ≤ 8 ∧ kindErr x.result = 0 ∧ x.params.any paramBad = false
  · rw [if_pos h, h.1, h.2.2.2]; simp [h.2.1, h.2.2.1]
  · rw [if_neg h]
    cases h1 : nameOk x.name <;> by_cases h2 : kindErr x.result = 0 <;> cases h3 : x.params.any paramBad <;> by_cases h4 : x.params.length ≤ 8 <;> simp_all

set_option maxRecDepth 100000 in
set_option maxHeartbeats 400000 in
theorem check1_any (s : ByteArray) (w : World) (hs : s.size ≤ 140737488355328) : Calls Try.prog 130 #[.string s] w fun e w' => e = .returned (.bool (paramBad s)) ∧ w = w' := by
  have hk := fun W => kindCheck_any s W hs
  unfold paramBad
  generalize kindErr s = z at hk ⊢
  have HK := Lib.hid hk
  clear hk
  go_enter Try.func130, Try.ntmps130
  go_wp2_with fail
  refine (HK.out _).mono ?_
  rintro e w' ⟨rfl, rfl⟩
  go_wp2_with fail
  go_ret
  exact ⟨ret_bool (by rw [Bool.eq_iff_iff]; simp), rfl⟩

set_option maxRecDepth 100000 in
set_option maxHeartbeats 8000000 in
theorem faceCheck_any (a : Face) (cs : List Value) (F : Foot) (w : World) (hF : ∀ k, F k → k < w.heap.size) (ha : FaceR w F cs a) :
    Calls Try.prog 107 #[.agg cs.toArray] w fun e w' => e = .returned (.int .i64 (faceErr a)) ∧ Below w.heap.size w w' := by
  obtain ⟨tv, fv, rfl, ht, hf⟩ := ha
  obtain ⟨A1, c1, rfl, _, _, hl1, _⟩ := ht.form
  obtain ⟨A3, c3, rfl, _, _, hl3, _⟩ := hf.form
  obtain ⟨E, hE⟩ : ∃ z, (faceErr a) = z := ⟨_, rfl⟩
  rw [hE] at ⊢
  have HE := Lib.hid hE; clear hE
  by_cases h24 : 24 < a.types.length + a.funcs.length
  · have h24z : (24 : Int) < (a.types.length : Int) + (a.funcs.length : Int) := by omega
    obtain rfl : E = 1 := by rw [← HE.out]; simp [faceErr, h24]
    go_enter Try.func107, Try.ntmps107
    go_wp2
    go_ret
    exact ⟨rfl, by go_grown⟩
  · have h24z : ¬ (24 : Int) < (a.types.length : Int) + (a.funcs.length : Int) := by omega
    have H24 := Lib.hid h24; have HT := Lib.hid ht; have HFn := Lib.hid hf
    clear h24 ht hf
    go_enter Try.func107, Try.ntmps107
    go_wp2_with fail
    have hBa := Box.made w 30 #[.slice A1 a.types.length c1, .slice A3 a.funcs.length c3]
    have hba : Below w.heap.size w (w.alloc (.cells #[.slice A1 a.types.length c1, .slice A3 a.funcs.length c3] 30)) := by go_grown
    have hza : (w.alloc (.cells #[.slice A1 a.types.length c1, .slice A3 a.funcs.length c3] 30)).heap.size = w.heap.size + 1 := by simp
    generalize w.alloc (.cells #[.slice A1 a.types.length c1, .slice A3 a.funcs.length c3] 30) = W1 at hBa hba hza ⊢
    have HB := Lib.hid hBa; have Hb0 := Lib.hid hba; have Hz0 := Lib.hid hza
    clear hBa hba hza
    go_loopg [3, 18] a.types.length (fun gg _ s18 wr => ∃ kk : Nat, kk ≤ a.types.length ∧ a.types.length - kk ≤ gg ∧ s18 = .int .i64 kk ∧ Aside (Below W1.heap.size W1 wr) ∧ Aside (∀ j, j < kk → itemErr Known.name knownBad a.types j = 0))
    case atStart => exact ⟨0, Nat.zero_le _, by omega, rfl, Below.refl _ _, aside (fun j hj => absurd hj (Nat.not_lt_zero _))⟩
    case round =>
      obtain ⟨kk, hkk, hg, rfl, BW, Al⟩ := hrel
      have hB1 := HB.out.later BW.out HB.out.lt
      have hbw := Hb0.out.trans (BW.out.mono Hb0.out.size)
      have fa0 := hB1.at_ 0 _ rfl
      have fa1 := hB1.at_ 1 _ rfl
      by_cases hlt : kk < a.types.length
      · have hltz : (kk : Int) < (a.types.length : Int) := by omega
        have hat := HT.out.up KnownR.stays hF hbw
        obtain ⟨b1, off, cs, rfl, hb, hcs, ⟨rfl, hn, hi⟩, hcell⟩ := hat.at_ hlt
        have hc0 := hcell 0 _ rfl
        have hc1 := hcell 1 _ rfl
        simp only [Nat.add_zero] at hc0
        have hx := List.getElem?_eq_getElem hlt
        generalize a.types[kk] = x at *
        have hnm := fun W => ident_any x.name W hn
        have hkf := fun W => kindCheck_any x.is_ W hi
        have hop := fun W => kindOpen_any x.is_ W
        have hkb := knownBad_iff x
        obtain ⟨z1, hz1⟩ : ∃ z, (nameOk x.name) = z := ⟨_, rfl⟩
        rw [hz1] at hnm hkb
        have Z1 := Lib.hid hz1; clear hz1
        obtain ⟨z2, hz2⟩ : ∃ z, (kindErr x.is_) = z := ⟨_, rfl⟩
        rw [hz2] at hkf hkb
        have Z2 := Lib.hid hz2; clear hz2
        obtain ⟨z3, hz3⟩ : ∃ z, (openB x.is_) = z := ⟨_, rfl⟩
        rw [hz3] at hop hkb
        have Z3 := Lib.hid hz3; clear hz3
        have hwl := foot_up hF hbw _ hb
        have HX := Lib.hid hx; have HN := Lib.hid hnm; have HK := Lib.hid hkf; have HO := Lib.hid hop; have HKB := Lib.hid hkb; have HAT := Lib.hid hat; have HBW := Lib.hid hbw; have HB1 := Lib.hid hB1
        clear hx hnm hkf hop hkb hat hbw hB1
        clear hcell hcs
        go_upto_region 6 with fail
        have hBb := Box.made wr 68 #[.string x.name, .string x.is_]
        have hbb : Below wr.heap.size wr (wr.alloc (.cells #[.string x.name, .string x.is_] 68)) := by go_grown
        have hzb : (wr.alloc (.cells #[.string x.name, .string x.is_] 68)).heap.size = wr.heap.size + 1 := by simp
        generalize wr.alloc (.cells #[.string x.name, .string x.is_] 68) = W2 at hBb hbb hzb ⊢
        have n0 := hBb.at_ 0 _ rfl
        have HBb := Lib.hid hBb; have Hbb := Lib.hid hbb; have Hzb := Lib.hid hzb
        clear hBb hbb hzb
        go_cut [37] (fun s37 wc => ∃ z : Bool, s37 = .bool z ∧ Aside (Below W2.heap.size W2 wc) ∧ Aside (knownBad x = if z then 4 else 0))
        case first =>
          clear hc0 hc1 fa0 fa1
          go_wp2_with fail
          refine (HN.out _).mono ?_
          rintro e W3 ⟨rfl, hb3⟩
          have hB3 := HBb.out.later hb3 HBb.out.lt
          have m1 := hB3.at_ 1 _ rfl
          have HB3 := Lib.hid hb3
          clear hB3 hb3 n0
          have hkb := HKB.out
          cases z1
          · go_wp2_with fail
            go_meet
            exact ⟨_, rfl, aside HB3.out, aside (by rw [hkb]; simp)⟩
          · by_cases hz : z2 = 0
            · subst hz
              cases z3
              all_goals
                go_wp2_with (first | (go_at_call 112; refine (HK.out _).mono ?_; rintro e w' ⟨rfl, rfl⟩) | (go_at_call 128; refine (HO.out _).mono ?_; rintro e w' ⟨rfl, rfl⟩))
                go_meet
                exact ⟨_, rfl, aside HB3.out, aside (by rw [hkb]; simp)⟩
            · have hzn : (z2 != 0) = true := by simp [hz]
              go_wp2_with (first | (go_at_call 112; refine (HK.out _).mono ?_; rintro e w' ⟨rfl, rfl⟩) | (go_at_call 128; refine (HO.out _).mono ?_; rintro e w' ⟨rfl, rfl⟩))
              go_meet
              exact ⟨_, rfl, aside HB3.out, aside (by rw [hkb]; simp [hz])⟩
        case rest =>
        obtain ⟨z, rfl, hb3, hkz⟩ := hcut
        obtain ⟨W4, rfl⟩ : ∃ W, W = wc := ⟨_, rfl⟩
        have hb4 := Hbb.out.trans (hb3.out.mono Hbb.out.size)
        have HBx := Lib.hid (HBW.out.trans (hb4.mono HBW.out.size))
        clear n0 fa0 fa1
        cases z with
        | true =>
          go_wp2_with fail
          go_ret
          exact ⟨ret_int (by rw [← HE.out]; exact (faceErr_types H24.out (typesErr_hit hlt Al.out (itemErr_bad HX.out hkz.out (by decide)) (by decide)) (by decide)).symm), HBx.out⟩
        | false =>
        have hB4 := HB1.out.later hb4 HB1.out.lt
        have hb5 := HBb.out.later hb3.out HBb.out.lt
        have fb0 := hB4.at_ 0 _ rfl
        have n0 := hb5.at_ 0 _ rfl
        have HTW := Lib.hid (HT.out.up KnownR.stays hF HBx.out)
        have HG := Lib.hid (show knownBad x = 0 from hkz.out)
        have HB4 := Lib.hid hb4
        clear hB4 hb5 hb4 hkz
        go_upto_region 8 with fail
        go_cut [51] (fun s51 wc => ∃ z : Bool, s51 = .bool z ∧ Aside (Below W4.heap.size W4 wc) ∧ Aside (itemErr Known.name knownBad a.types kk = if z then 7 else 0))
        case first =>
          by_cases h0 : 0 < kk
          · have h0z : (0 : Int) < (kk : Int) := by omega
            obtain ⟨b2, off2, cs2, e2, hb2, _, ⟨rfl, _⟩, hcell2⟩ := (HTW.out.at_ (k := kk - 1) (by omega))
            injection e2 with e2
            injection e2 with e2 e3 _
            subst e2; subst e3
            have hd0 := hcell2 0 _ rfl
            simp only [Nat.add_zero] at hd0
            have hy := List.getElem?_eq_getElem (show kk - 1 < a.types.length by omega)
            generalize a.types[kk - 1] = y at *
            have HY := Lib.hid hy
            have HI := Lib.hid (itemErr_next (name := Known.name) (bad := knownBad) h0 HX.out HY.out HG.out)
            have hi1 : IntKind.i64.wrap ((kk : Int) - 1) = (kk : Int) - 1 := IntWalk.i64_in _ (by omega)
            have hi2 : (0 : Int) ≤ (kk : Int) - 1 := by omega
            have hi3 : ((kk : Int) - 1).toNat = kk - 1 := by omega
            have hi4 : (kk : Int) - 1 < (a.types.length : Int) := by omega
            clear hcell2 hy
            cases hq : ltS y.name x.name
            all_goals
              have HQ := Lib.hid hq
              have hless : Op.bytesLess y.name.toList x.name.toList = _ := hq
              clear hq
              go_wp2_with fail
              go_quiet (fail)
              go_wp2_with fail
              go_meet
              exact ⟨_, rfl, aside (below_drewN (Below.refl _ _) _), aside (by rw [HI.out, HQ.out]; rfl)⟩
          · have h0z : decide ((0 : Int) < (kk : Int)) = false := decide_eq_false (by omega)
            have HI := Lib.hid (show itemErr Known.name knownBad a.types kk = 0 by
              have e : kk = 0 := by omega
              have h := HX.out
              rw [e] at h ⊢
              exact itemErr_first h HG.out)
            go_wp2_with fail
            go_quiet (fail)
            go_wp2_with fail
            go_meet
            exact ⟨_, rfl, aside (below_drewN (Below.refl _ _) _), aside (by rw [HI.out]; rfl)⟩
        case rest =>
        obtain ⟨z, rfl, hb5, hiz⟩ := hcut
        obtain ⟨W5, rfl⟩ : ∃ W, W = wc := ⟨_, rfl⟩
        have HBy := Lib.hid (HBx.out.trans (hb5.out.mono HBx.out.size))
        have hb6 := HB4.out.trans (hb5.out.mono HB4.out.size)
        cases z with
        | true =>
          go_wp2_with fail
          go_ret
          exact ⟨ret_int (by rw [← HE.out]; exact (faceErr_types H24.out (typesErr_hit hlt Al.out hiz.out (by decide)) (by decide)).symm), HBy.out⟩
        | false =>
          have HB6 := Lib.hid (BW.out.trans (hb6.mono BW.out.size))
          clear hb6
          go_wp2_with fail
          go_roundg (a.types.length - (kk + 1))
          case measure => omega
          case rel => exact ⟨kk + 1, by omega, by omega, by go_num, HB6.out, aside (zeros_succ Al.out hiz.out)⟩
      · have hltz : ¬ (kk : Int) < (a.types.length : Int) := by omega
        obtain rfl : kk = a.types.length := by omega
        have HT0 := Lib.hid (show typesErr a.types = 0 from firstErr_none Al.out)
        obtain ⟨W2, rfl⟩ : ∃ W2, W2 = wr := ⟨_, rfl⟩
        have HB2 := Lib.hid hB1; have Hb2 := Lib.hid hbw
        clear hB1 hbw
        clear Al
        go_wp2_with fail
        go_loopg [5, 56] a.funcs.length (fun gg _ s56 wr => ∃ kk : Nat, kk ≤ a.funcs.length ∧ a.funcs.length - kk ≤ gg ∧ s56 = .int .i64 kk ∧ Aside (Below W2.heap.size W2 wr) ∧ Aside (∀ j, j < kk → itemErr Sig.name sigBad a.funcs j = 0))
        case atStart => exact ⟨0, Nat.zero_le _, by omega, rfl, Below.refl _ _, aside (fun j hj => absurd hj (Nat.not_lt_zero _))⟩
        case round =>
          clear fa0 fa1
          obtain ⟨kk, hkk, hg, rfl, BW, Al⟩ := hrel
          have hB1 := HB2.out.later BW.out HB2.out.lt
          have hbw := Hb2.out.trans (BW.out.mono Hb2.out.size)
          have fa1 := hB1.at_ 1 _ rfl
          by_cases hlt : kk < a.funcs.length
          · have hltz : (kk : Int) < (a.funcs.length : Int) := by omega
            have hat := HFn.out.up SigR.stays hF hbw
            obtain ⟨b1, off, cs, rfl, hb, hcs, ⟨pv, rfl, hn, hi, hpv⟩, hcell⟩ := hat.at_ hlt
            have hc0 := hcell 0 _ rfl
            have hc1 := hcell 1 _ rfl
            have hc2 := hcell 2 _ rfl
            simp only [Nat.add_zero] at hc0
            have hFr := foot_up hF hbw
            have hx := List.getElem?_eq_getElem hlt
            generalize a.funcs[kk] = x at *
            have hcf := fun (U : World) (hU : Below wr.heap.size wr U) => containsFunc_strs pv x.params F 130 #[] paramBad U (enters_of Try.func130 (by kernel_rfl) rfl) (foot_up hFr hU) (hpv.up StrR.stays hFr hU)
              (fun W x cs _ _ hx => by obtain ⟨rfl, hs⟩ := hx; exact (check1_any x W hs).mono fun _ _ h => ⟨h.1, h.2 ▸ Below.refl _ _⟩)
            obtain ⟨P1, p1, rfl, _, _, hpl, _⟩ := hpv.form
            have hnm := fun W => ident_any x.name W hn
            have hkf := fun W => kindCheck_any x.result W hi
            have hkb := sigBad_iff x
            obtain ⟨z1, hz1⟩ : ∃ z, (nameOk x.name) = z := ⟨_, rfl⟩
            rw [hz1] at hnm hkb
            have Z1 := Lib.hid hz1; clear hz1
            obtain ⟨z2, hz2⟩ : ∃ z, (kindErr x.result) = z := ⟨_, rfl⟩
            rw [hz2] at hkf hkb
            have Z2 := Lib.hid hz2; clear hz2
            obtain ⟨z3, hz3⟩ : ∃ z, (x.params.any paramBad) = z := ⟨_, rfl⟩
            rw [hz3] at hcf hkb
            have Z3 := Lib.hid hz3; clear hz3
            have HX := Lib.hid hx; have HN := Lib.hid hnm; have HK := Lib.hid hkf; have HO := Lib.hid hcf; have HKB := Lib.hid hkb; have HAT := Lib.hid hat; have HBW := Lib.hid hbw; have HB1 := Lib.hid hB1
            clear hx hnm hkf hcf hkb hat hbw hB1
            clear hcell hcs hpv hFr
            go_upto_region 14 with fail
            have hBb := Box.made wr 74 #[.string x.name, .slice P1 x.params.length p1, .string x.result]
            have hbb : Below wr.heap.size wr (wr.alloc (.cells #[.string x.name, .slice P1 x.params.length p1, .string x.result] 74)) := by go_grown
            have hzb : (wr.alloc (.cells #[.string x.name, .slice P1 x.params.length p1, .string x.result] 74)).heap.size = wr.heap.size + 1 := by simp
            generalize wr.alloc (.cells #[.string x.name, .slice P1 x.params.length p1, .string x.result] 74) = W3 at hBb hbb hzb ⊢
            have n0 := hBb.at_ 0 _ rfl
            have HBb := Lib.hid hBb; have Hbb := Lib.hid hbb; have Hzb := Lib.hid hzb
            clear hBb hbb hzb
            go_cut [81] (fun s81 wc => ∃ z : Bool, s81 = .bool z ∧ Aside (Below W3.heap.size W3 wc) ∧ Aside (sigBad x = if z then 4 else 0))
            case first =>
              clear hc0 hc1 hc2 fa1
              go_wp2_with fail
              refine (HN.out _).mono ?_
              rintro e W4 ⟨rfl, hb3⟩
              have hB3 := HBb.out.later hb3 HBb.out.lt
              have m1 := hB3.at_ 1 _ rfl
              have m2 := hB3.at_ 2 _ rfl
              have HB3 := Lib.hid hb3
              have HB4 := Lib.hid (Hbb.out.trans (hb3.mono Hbb.out.size))
              clear hB3 hb3 n0
              have hkb := HKB.out
              cases z1
              · go_wp2_with fail
                go_meet
                exact ⟨_, rfl, aside HB3.out, aside (by rw [hkb]; simp)⟩
              · by_cases h8 : 8 < x.params.length
                · have h8z : (8 : Int) < (x.params.length : Int) := by omega
                  go_wp2_with fail
                  go_meet
                  exact ⟨_, rfl, aside HB3.out, aside (by rw [hkb]; simp; omega)⟩
                · have h8z : ¬ (8 : Int) < (x.params.length : Int) := by omega
                  by_cases hz : z2 = 0
                  · subst hz
                    go_wp2_with (go_at_call 112; refine (HK.out _).mono ?_; rintro e w' ⟨rfl, rfl⟩)
                    refine (HO.out _ HB4.out).mono ?_
                    rintro e W5 ⟨rfl, hb5⟩
                    have HB5 := Lib.hid (HB3.out.trans (hb5.mono HB3.out.size))
                    clear hb5
                    have h88 : x.params.length ≤ 8 := by omega
                    cases z3
                    all_goals
                      go_wp2_with fail
                      go_meet
                      exact ⟨_, rfl, aside HB5.out, aside (by rw [hkb]; simp [h88] <;> omega)⟩
                  · have hzn : (z2 != 0) = true := by simp [hz]
                    go_wp2_with (go_at_call 112; refine (HK.out _).mono ?_; rintro e w' ⟨rfl, rfl⟩)
                    go_meet
                    exact ⟨_, rfl, aside HB3.out, aside (by rw [hkb]; simp [hz])⟩
            case rest =>
            obtain ⟨z, rfl, hb3, hkz⟩ := hcut
            obtain ⟨W4, rfl⟩ : ∃ W, W = wc := ⟨_, rfl⟩
            have hb4 := Hbb.out.trans (hb3.out.mono Hbb.out.size)
            have HBx := Lib.hid (HBW.out.trans (hb4.mono HBW.out.size))
            clear n0 fa1
            cases z with
            | true =>
              go_wp2_with fail
              go_ret
              exact ⟨ret_int (by rw [← HE.out]; exact (faceErr_funcs H24.out HT0.out (funcsErr_hit hlt Al.out (itemErr_bad HX.out hkz.out (by decide)) (by decide))).symm), HBx.out⟩
            | false =>
            have hB4 := HB1.out.later hb4 HB1.out.lt
            have hb5 := HBb.out.later hb3.out HBb.out.lt
            have fb1 := hB4.at_ 1 _ rfl
            have n0 := hb5.at_ 0 _ rfl
            have HTW := Lib.hid (HFn.out.up SigR.stays hF HBx.out)
            have HG := Lib.hid (show sigBad x = 0 from hkz.out)
            have HB4 := Lib.hid hb4
            clear hB4 hb5 hb4 hkz
            go_upto_region 16 with fail
            go_cut [95] (fun s95 wc => ∃ z : Bool, s95 = .bool z ∧ Aside (Below W4.heap.size W4 wc) ∧ Aside (itemErr Sig.name sigBad a.funcs kk = if z then 7 else 0))
            case first =>
              by_cases h0 : 0 < kk
              · have h0z : (0 : Int) < (kk : Int) := by omega
                obtain ⟨b2, off2, cs2, e2, hb2, _, ⟨pv2, rfl, _⟩, hcell2⟩ := (HTW.out.at_ (k := kk - 1) (by omega))
                injection e2 with e2
                injection e2 with e2 e3 _
                subst e2; subst e3
                have hd0 := hcell2 0 _ rfl
                simp only [Nat.add_zero] at hd0
                have hy := List.getElem?_eq_getElem (show kk - 1 < a.funcs.length by omega)
                generalize a.funcs[kk - 1] = y at *
                have HY := Lib.hid hy
                have HI := Lib.hid (itemErr_next (name := Sig.name) (bad := sigBad) h0 HX.out HY.out HG.out)
                have hi1 : IntKind.i64.wrap ((kk : Int) - 1) = (kk : Int) - 1 := IntWalk.i64_in _ (by omega)
                have hi2 : (0 : Int) ≤ (kk : Int) - 1 := by omega
                have hi3 : ((kk : Int) - 1).toNat = kk - 1 := by omega
                have hi4 : (kk : Int) - 1 < (a.funcs.length : Int) := by omega
                clear hcell2 hy
                cases hq : ltS y.name x.name
                all_goals
                  have HQ := Lib.hid hq
                  have hless : Op.bytesLess y.name.toList x.name.toList = _ := hq
                  clear hq
                  go_wp2_with fail
                  go_quiet (fail)
                  go_wp2_with fail
                  go_meet
                  exact ⟨_, rfl, aside (below_drewN (Below.refl _ _) _), aside (by rw [HI.out, HQ.out]; rfl)⟩
              · have h0z : decide ((0 : Int) < (kk : Int)) = false := decide_eq_false (by omega)
                have HI := Lib.hid (show itemErr Sig.name sigBad a.funcs kk = 0 by
                  have e : kk = 0 := by omega
                  have h := HX.out
                  rw [e] at h ⊢
                  exact itemErr_first h HG.out)
                go_wp2_with fail
                go_quiet (fail)
                go_wp2_with fail
                go_meet
                exact ⟨_, rfl, aside (below_drewN (Below.refl _ _) _), aside (by rw [HI.out]; rfl)⟩
            case rest =>
            obtain ⟨z, rfl, hb5, hiz⟩ := hcut
            obtain ⟨W5, rfl⟩ : ∃ W, W = wc := ⟨_, rfl⟩
            have HBy := Lib.hid (HBx.out.trans (hb5.out.mono HBx.out.size))
            have hb6 := HB4.out.trans (hb5.out.mono HB4.out.size)
            cases z with
            | true =>
              go_wp2_with fail
              go_ret
              exact ⟨ret_int (by rw [← HE.out]; exact (faceErr_funcs H24.out HT0.out (funcsErr_hit hlt Al.out hiz.out (by decide))).symm), HBy.out⟩
            | false =>
              have HB6 := Lib.hid (BW.out.trans (hb6.mono BW.out.size))
              clear hb6
              go_wp2_with fail
              go_roundg (a.funcs.length - (kk + 1))
              case measure => omega
              case rel => exact ⟨kk + 1, by omega, by omega, by go_num, HB6.out, aside (zeros_succ Al.out hiz.out)⟩
          · have hltz : ¬ (kk : Int) < (a.funcs.length : Int) := by omega
            obtain rfl : kk = a.funcs.length := by omega
            have HBW := Lib.hid hbw
            clear hbw
            go_wp2_with fail
            go_ret
            exact ⟨ret_int (by rw [← HE.out]; exact (faceErr_funcs H24.out HT0.out (firstErr_none Al.out)).symm), HBW.out⟩

end Go.Proofs.Ytoejhgbndehaiaa
