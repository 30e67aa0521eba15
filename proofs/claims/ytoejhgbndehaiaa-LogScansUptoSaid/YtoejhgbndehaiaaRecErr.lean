/- What is wrong with a record: record.Check, and the reference's RecordFault. -/
import Derived.Test.YtoejhgbndehaiaaImpChk
import Derived.Test.YtoejhgbndehaiaaRecCopy
import Derived.Test.YtoejhgbndehaiaaTreeErr
namespace Go.Proofs.Ytoejhgbndehaiaa
open Go.RowKit Go.Shelf

/-- Is a thing told wrong? -/
def diagBad (d : Diag) : Bool := (!(decide (d.where_.size = 0)) && !(nameOk d.where_)) || (decide (d.code < 1) || decide (8 < d.code))
/-- What is wrong with a record; 0: nothing. -/
def recErr (r : Record) : Int :=
  if nameOk r.name = false then 4
  else if 1500 < r.source.size ∨ 24 < r.diags.length then 1
  else if importsErr r.imports ≠ 0 then importsErr r.imports
  else if faceErr r.face ≠ 0 then faceErr r.face
  else if r.diags.any diagBad then 4 else 0

set_option maxRecDepth 100000 in
set_option maxHeartbeats 1000000 in
theorem recCheck1_any (d : Diag) (w : World) (hs : okS d.where_) (hc : I64 d.code) :
    Calls Try.prog 109 #[.agg #[.string d.where_, .int .i64 d.code]] w fun e w' => e = .returned (.bool (diagBad d)) ∧ Below w.heap.size w w' := by
  have hid := fun U => ident_any d.where_ U hs
  obtain ⟨hc1, hc2⟩ := hc
  unfold diagBad
  rw [← str_isEmpty]
  generalize nameOk d.where_ = z1 at hid ⊢
  have HI := Lib.hid hid
  clear hid
  go_enter Try.func109, Try.ntmps109
  go_upto_region 1 with fail
  have hBb := Box.made w 64 #[.string d.where_, .int .i64 d.code]
  have hbb : Below w.heap.size w (w.alloc (.cells #[.string d.where_, .int .i64 d.code] 64)) := by go_grown
  have hzb : (w.alloc (.cells #[.string d.where_, .int .i64 d.code] 64)).heap.size = w.heap.size + 1 := by simp
  generalize w.alloc (.cells #[.string d.where_, .int .i64 d.code] 64) = W1 at hBb hbb hzb ⊢
  have x0 := hBb.at_ 0 _ rfl
  have x1 := hBb.at_ 1 _ rfl
  have HB := Lib.hid hBb; have Hb := Lib.hid hbb; have Hz := Lib.hid hzb
  clear hBb hbb hzb
  cases hq : d.where_.toList.isEmpty
  · go_wp2_with fail
    refine (HI.out _).mono ?_
    rintro e W2 ⟨rfl, hb2⟩
    have h2 := HB.out.later hb2 HB.out.lt
    have y0 := h2.at_ 0 _ rfl
    have y1 := h2.at_ 1 _ rfl
    have HB2 := Lib.hid (Hb.out.trans (hb2.mono Hb.out.size))
    clear x0 x1 h2 hb2
    cases z1 <;> cases hq1 : decide (d.code < 1) <;> cases hq2 : decide (8 < d.code)
    all_goals
      go_wp2_with fail
      go_ret
      exact ⟨ret_bool (by rw [hq]; simp [hq1, hq2]), HB2.out⟩
  · cases hq1 : decide (d.code < 1) <;> cases hq2 : decide (8 < d.code)
    all_goals
      go_wp2_with fail
      go_ret
      exact ⟨ret_bool (by rw [hq]; simp [hq1, hq2]), Hb.out⟩

set_option maxRecDepth 100000 in
set_option maxHeartbeats 4000000 in
theorem recordCheck_any (r : Record) (cs : List Value) (F : Foot) (w : World) (hF : ∀ k, F k → k < w.heap.size) (hr : RecordR w F cs r) :
    Calls Try.prog 63 #[.agg cs.toArray] w fun e w' => e = .returned (.int .i64 (recErr r)) ∧ Below w.heap.size w w' := by
  obtain ⟨I1, i1, T1, e1, T2, e2, D1, d1, rfl, hn, hs, hi, hf, hd⟩ := hr.parts
  obtain ⟨_, _, _, _, _, hdl, _⟩ := hd.form
  have hnm := fun U => ident_any r.name U hn
  have hci := fun U (hU : Below w.heap.size w U) => checkImports_any _ r.imports F U (foot_up hF hU) (hi.up ImportR.stays hF hU)
  have hcf := fun U (hU : Below w.heap.size w U) => faceCheck_any r.face _ F U (foot_up hF hU) (FaceR.stays.later hf hU hF)
  have hcd := fun U (hU : Below w.heap.size w U) => containsFunc_diags (.slice D1 r.diags.length d1) r.diags F 109 #[] diagBad U (enters_of Try.func109 (by kernel_rfl) rfl) (foot_up hF hU) (hd.up DiagR.stays hF hU)
    (fun W x cs _ _ hx => by obtain ⟨rfl, hs, hc⟩ := hx; exact recCheck1_any x W hs hc)
  have hE : recErr r = recErr r := rfl
  conv at hE => rhs; unfold recErr
  generalize recErr r = E at hE ⊢
  obtain ⟨z1, hz1⟩ : ∃ z, (nameOk r.name) = z := ⟨_, rfl⟩
  rw [hz1] at hnm hE
  have Z1 := Lib.hid hz1; clear hz1
  obtain ⟨z2, hz2⟩ : ∃ z, (importsErr r.imports) = z := ⟨_, rfl⟩
  rw [hz2] at hci hE
  have Z2 := Lib.hid hz2; clear hz2
  obtain ⟨z3, hz3⟩ : ∃ z, (faceErr r.face) = z := ⟨_, rfl⟩
  rw [hz3] at hcf hE
  have Z3 := Lib.hid hz3; clear hz3
  obtain ⟨z4, hz4⟩ : ∃ z, (r.diags.any diagBad) = z := ⟨_, rfl⟩
  rw [hz4] at hcd hE
  have Z4 := Lib.hid hz4; clear hz4
  unfold okS at hn hs
  have HN := Lib.hid hnm; have HCI := Lib.hid hci; have HCF := Lib.hid hcf; have HCD := Lib.hid hcd; have HE := Lib.hid hE
  clear hnm hci hcf hcd hE
  clear hr hi hf hd
  go_enter Try.func63, Try.ntmps63
  go_upto_region 1 with fail
  have hBb := Box.made w 33 #[.string r.name, .string r.source, .slice I1 r.imports.length i1, .slice T1 r.face.types.length e1, .slice T2 r.face.funcs.length e2, .slice D1 r.diags.length d1]
  have hbb : Below w.heap.size w (w.alloc (.cells #[.string r.name, .string r.source, .slice I1 r.imports.length i1, .slice T1 r.face.types.length e1, .slice T2 r.face.funcs.length e2, .slice D1 r.diags.length d1] 33)) := by go_grown
  have hzb : (w.alloc (.cells #[.string r.name, .string r.source, .slice I1 r.imports.length i1, .slice T1 r.face.types.length e1, .slice T2 r.face.funcs.length e2, .slice D1 r.diags.length d1] 33)).heap.size = w.heap.size + 1 := by simp
  generalize w.alloc (.cells #[.string r.name, .string r.source, .slice I1 r.imports.length i1, .slice T1 r.face.types.length e1, .slice T2 r.face.funcs.length e2, .slice D1 r.diags.length d1] 33) = W1 at hBb hbb hzb ⊢
  have x0 := hBb.at_ 0 _ rfl
  have HB := Lib.hid hBb; have Hb := Lib.hid hbb; have Hz := Lib.hid hzb
  clear hBb hbb hzb
  go_wp2_with fail
  refine (HN.out _).mono ?_
  rintro e W2 ⟨rfl, hb2⟩
  have h2 := HB.out.later hb2 HB.out.lt
  have hb := Hb.out.trans (hb2.mono Hb.out.size)
  have y1 := h2.at_ 1 _ rfl
  have y2 := h2.at_ 2 _ rfl
  have y5 := h2.at_ 5 _ rfl
  have HB2 := Lib.hid h2; have Hb2 := Lib.hid hb
  clear h2 hb
  clear hb2 x0
  cases z1 with
  | false =>
    go_wp2_with fail
    go_ret
    exact ⟨ret_int (by rw [HE.out]; rfl), Hb2.out⟩
  | true =>
  by_cases h15 : 1500 < r.source.size
  · have h15z : (1500 : Int) < (r.source.size : Int) := by omega
    go_wp2_with fail
    go_ret
    exact ⟨ret_int (by rw [HE.out]; simp [h15]), Hb2.out⟩
  · have h15z : ¬ (1500 : Int) < (r.source.size : Int) := by omega
    by_cases h24 : 24 < r.diags.length
    · have h24z : (24 : Int) < (r.diags.length : Int) := by omega
      go_wp2_with fail
      go_ret
      exact ⟨ret_int (by rw [HE.out]; simp [h24]), Hb2.out⟩
    · have h24z : ¬ (24 : Int) < (r.diags.length : Int) := by omega
      have HE2 := Lib.hid (show E = if z2 ≠ 0 then z2 else if z3 ≠ 0 then z3 else if z4 = true then 4 else 0 by rw [HE.out, if_neg (by decide), if_neg (by omega)])
      go_wp2_with fail
      refine (HCI.out _ Hb2.out).mono ?_
      rintro e W3 ⟨rfl, hb3⟩
      have h2 := HB2.out.later hb3 HB2.out.lt
      have hb := Hb2.out.trans (hb3.mono Hb2.out.size)
      clear y1 y2 y5
      have y3 := h2.at_ 3 _ rfl
      have y4 := h2.at_ 4 _ rfl
      have HB3 := Lib.hid h2; have Hb3 := Lib.hid hb
      clear h2 hb
      clear hb3
      by_cases hz2 : z2 = 0
      · subst hz2
        go_wp2_with fail
        refine (HCF.out _ Hb3.out).mono ?_
        rintro e W4 ⟨rfl, hb3⟩
        have h2 := HB3.out.later hb3 HB3.out.lt
        have hb := Hb3.out.trans (hb3.mono Hb3.out.size)
        clear y3 y4
        have y5 := h2.at_ 5 _ rfl
        have HB4 := Lib.hid h2; have Hb4 := Lib.hid hb
        clear h2 hb
        clear hb3
        by_cases hz3 : z3 = 0
        · subst hz3
          go_wp2_with fail
          refine (HCD.out _ Hb4.out).mono ?_
          rintro e W5 ⟨rfl, hb5⟩
          have Hb5 := Lib.hid (Hb4.out.trans (hb5.mono Hb4.out.size))
          clear hb5
          cases z4
          all_goals
            go_wp2_with fail
            go_ret
            exact ⟨ret_int (by rw [HE2.out]; rfl), Hb5.out⟩
        · have hzn : (z3 != 0) = true := by simp [hz3]
          go_wp2_with fail
          go_ret
          exact ⟨ret_int (by rw [HE2.out]; simp [hz3]), Hb4.out⟩
      · have hzn : (z2 != 0) = true := by simp [hz2]
        go_wp2_with fail
        go_ret
        exact ⟨ret_int (by rw [HE2.out]; simp [hz2]), Hb3.out⟩

set_option maxRecDepth 100000 in
set_option maxHeartbeats 4000000 in
theorem recordFault_any (r : Record) (cs : List Value) (F : Foot) (w : World) (hF : ∀ k, F k → k < w.heap.size) (hr : RecordR w F cs r) :
    Calls Try.prog 40 #[.agg cs.toArray] w fun e w' => e = .returned (.int .i64 (recErr r)) ∧ Below w.heap.size w w' := by
  obtain ⟨I1, i1, T1, e1, T2, e2, D1, d1, rfl, hn, hs, hi, hf, hd⟩ := hr.parts
  obtain ⟨_, _, _, _, _, hdl, _⟩ := hd.form
  have hnm := fun U => nameMay_any r.name U hn
  have hci := fun U (hU : Below w.heap.size w U) => importsFault_any _ r.imports F U (foot_up hF hU) (hi.up ImportR.stays hF hU)
  have hcf := fun U (hU : Below w.heap.size w U) => faceFault_any r.face _ F U (foot_up hF hU) (FaceR.stays.later hf hU hF)
  have hE : recErr r = recErr r := rfl
  conv at hE => rhs; unfold recErr
  generalize recErr r = E at hE ⊢
  obtain ⟨z1, hz1⟩ : ∃ z, (nameOk r.name) = z := ⟨_, rfl⟩
  rw [hz1] at hnm hE
  have Z1 := Lib.hid hz1; clear hz1
  obtain ⟨z2, hz2⟩ : ∃ z, (importsErr r.imports) = z := ⟨_, rfl⟩
  rw [hz2] at hci hE
  have Z2 := Lib.hid hz2; clear hz2
  obtain ⟨z3, hz3⟩ : ∃ z, (faceErr r.face) = z := ⟨_, rfl⟩
  rw [hz3] at hcf hE
  have Z3 := Lib.hid hz3; clear hz3
  unfold okS at hn hs
  have HN := Lib.hid hnm; have HCI := Lib.hid hci; have HCF := Lib.hid hcf; have HD := Lib.hid hd; have HE := Lib.hid hE
  clear hnm hci hcf hd hE
  clear hr hi hf
  go_enter Try.func40, Try.ntmps40
  go_upto_region 1 with fail
  have hBb := Box.made w 33 #[.string r.name, .string r.source, .slice I1 r.imports.length i1, .slice T1 r.face.types.length e1, .slice T2 r.face.funcs.length e2, .slice D1 r.diags.length d1]
  have hbb : Below w.heap.size w (w.alloc (.cells #[.string r.name, .string r.source, .slice I1 r.imports.length i1, .slice T1 r.face.types.length e1, .slice T2 r.face.funcs.length e2, .slice D1 r.diags.length d1] 33)) := by go_grown
  have hzb : (w.alloc (.cells #[.string r.name, .string r.source, .slice I1 r.imports.length i1, .slice T1 r.face.types.length e1, .slice T2 r.face.funcs.length e2, .slice D1 r.diags.length d1] 33)).heap.size = w.heap.size + 1 := by simp
  generalize w.alloc (.cells #[.string r.name, .string r.source, .slice I1 r.imports.length i1, .slice T1 r.face.types.length e1, .slice T2 r.face.funcs.length e2, .slice D1 r.diags.length d1] 33) = W1 at hBb hbb hzb ⊢
  have x0 := hBb.at_ 0 _ rfl
  have x1 := hBb.at_ 1 _ rfl
  have x2 := hBb.at_ 2 _ rfl
  have x5 := hBb.at_ 5 _ rfl
  have HB := Lib.hid hBb; have Hb := Lib.hid hbb; have Hz := Lib.hid hzb
  clear hBb hbb hzb
  go_wp2_with fail
  refine (HN.out _).mono ?_
  rintro e W2 ⟨rfl, rfl⟩
  cases z1 with
  | false =>
    go_wp2_with fail
    go_ret
    exact ⟨ret_int (by rw [HE.out]; rfl), Hb.out⟩
  | true =>
  by_cases h15 : 1500 < r.source.size
  · have h15z : (1500 : Int) < (r.source.size : Int) := by omega
    go_wp2_with fail
    go_ret
    exact ⟨ret_int (by rw [HE.out]; simp [h15]), Hb.out⟩
  · have h15z : ¬ (1500 : Int) < (r.source.size : Int) := by omega
    by_cases h24 : 24 < r.diags.length
    · have h24z : (24 : Int) < (r.diags.length : Int) := by omega
      go_wp2_with fail
      go_ret
      exact ⟨ret_int (by rw [HE.out]; simp [h24]), Hb.out⟩
    · have h24z : ¬ (24 : Int) < (r.diags.length : Int) := by omega
      have HE2 := Lib.hid (show E = if z2 ≠ 0 then z2 else if z3 ≠ 0 then z3 else if r.diags.any diagBad = true then 4 else 0 by rw [HE.out, if_neg (by decide), if_neg (by omega)])
      go_wp2_with fail
      refine (HCI.out _ Hb.out).mono ?_
      rintro e W3 ⟨rfl, hb3⟩
      have h2 := HB.out.later hb3 HB.out.lt
      have hb := Hb.out.trans (hb3.mono Hb.out.size)
      clear x0 x1 x2 x5
      have y3 := h2.at_ 3 _ rfl
      have y4 := h2.at_ 4 _ rfl
      have HB3 := Lib.hid h2; have Hb3 := Lib.hid hb
      clear h2 hb
      clear hb3
      by_cases hz2 : z2 = 0
      · subst hz2
        go_wp2_with fail
        refine (HCF.out _ Hb3.out).mono ?_
        rintro e W4 ⟨rfl, hb3⟩
        have h2 := HB3.out.later hb3 HB3.out.lt
        have hb := Hb3.out.trans (hb3.mono Hb3.out.size)
        clear y3 y4
        have y5 := h2.at_ 5 _ rfl
        have HDW := Lib.hid (HD.out.up DiagR.stays hF hb)
        have HB4 := Lib.hid h2; have Hb4 := Lib.hid hb
        clear h2 hb
        clear hb3
        by_cases hz3 : z3 = 0
        · subst hz3
          have HE3 := Lib.hid (show E = if r.diags.any diagBad = true then 4 else 0 from HE2.out)
          go_wp2_with fail
          go_loopg [4] r.diags.length (fun gg s4 wr => ∃ kk : Nat, kk ≤ r.diags.length ∧ r.diags.length - kk ≤ gg ∧ s4 = .int .i64 kk ∧ W4 = wr ∧ Aside (∀ j, j < kk → ∀ y, r.diags[j]? = some y → diagBad y = false))
          case atStart => exact ⟨0, Nat.zero_le _, by omega, rfl, rfl, aside (fun j hj => absurd hj (Nat.not_lt_zero _))⟩
          case round =>
            obtain ⟨kk, hkk, hg, rfl, rfl, Al⟩ := hrel
            by_cases hlt : kk < r.diags.length
            · have hltz : (kk : Int) < (r.diags.length : Int) := by omega
              obtain ⟨b1, off, cs, rfl, hbF, hcs, ⟨rfl, hos, hoc⟩, hcell⟩ := HDW.out.at_ hlt
              have hc0 := hcell 0 _ rfl
              have hc1 := hcell 1 _ rfl
              simp only [Nat.add_zero] at hc0
              have hx := List.getElem?_eq_getElem hlt
              generalize r.diags[kk] = x at *
              have hnu := fun U => nameMay_any x.where_ U hos
              have hbad : diagBad x = diagBad x := rfl
              conv at hbad => rhs; unfold diagBad
              rw [← str_isEmpty] at hbad
              obtain ⟨z5, hz5⟩ : ∃ z, (nameOk x.where_) = z := ⟨_, rfl⟩
              rw [hz5] at hnu hbad
              have Z5 := Lib.hid hz5; clear hz5
              obtain ⟨hc1', hc2'⟩ := hoc
              have HX := Lib.hid hx; have HNU := Lib.hid hnu; have HBAD := Lib.hid hbad
              clear hx hnu hbad
              clear hcell hcs
              go_upto_region 13 with fail
              go_cut [63] (fun s63 wc => ∃ z : Bool, s63 = .bool z ∧ W4 = wc ∧ Aside (diagBad x = z))
              case first =>
                cases hq : x.where_.toList.isEmpty <;> cases z5 <;> cases hq1 : inB x.code 1 8
                all_goals
                  go_wp2_with (first | (go_at_call 42; refine (HNU.out _).mono ?_; rintro e w' ⟨rfl, rfl⟩) | (go_at_call 64; refine (in_any _ _ _ _).mono ?_; rintro e w' ⟨rfl, rfl⟩))
                  go_meet
                  refine ⟨_, rfl, rfl, aside ?_⟩
                  rw [HBAD.out, hq]
                  simp [inB] at hq1 ⊢
                  try omega
              case rest =>
              obtain ⟨z, rfl, rfl, hz⟩ := hcut
              cases z with
              | true =>
                go_wp2_with fail
                go_ret
                exact ⟨ret_int (by rw [HE3.out, if_pos (any_hit HX.out hz.out)]), Hb4.out⟩
              | false =>
                go_wp2_with fail
                go_roundg (r.diags.length - (kk + 1))
                case measure => omega
                case rel => exact ⟨kk + 1, by omega, by omega, by go_num, rfl, aside (seen_succ' HX.out hz.out Al.out)⟩
            · have hltz : ¬ (kk : Int) < (r.diags.length : Int) := by omega
              obtain rfl : kk = r.diags.length := by omega
              go_wp2_with fail
              go_ret
              exact ⟨ret_int (by rw [HE3.out, any_miss (Nat.le_refl _) Al.out]; rfl), Hb4.out⟩
        · have hzn : (z3 != 0) = true := by simp [hz3]
          go_wp2_with fail
          go_ret
          exact ⟨ret_int (by rw [HE2.out]; simp [hz3]), Hb4.out⟩
      · have hzn : (z2 != 0) = true := by simp [hz2]
        have hze : (z2 == 0) = false := by simp [hz2]
        go_wp2_with fail
        go_ret
        exact ⟨ret_int (by rw [HE2.out]; simp [hz2]), Hb3.out⟩

end Go.Proofs.Ytoejhgbndehaiaa
