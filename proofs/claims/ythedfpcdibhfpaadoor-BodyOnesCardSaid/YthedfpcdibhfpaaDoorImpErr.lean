/- What is wrong with modules that are used: the reference's ImportsFault. -/
import Derived.Test.YthedfpcdibhfpaaDoorFaceErr
import Derived.Test.YthedfpcdibhfpaaDoorRecEq
namespace Go.Proofs.YthedfpcdibhfpaaDoor
open Go.RowKit Go.Shelf

/-- What is wrong with a module that is used, by itself. -/
def importBad (x : Import) : Int :=
  if nameOk x.name = false then 4
  else if faceErr x.face ≠ 0 then faceErr x.face
  else if x.there = false ∧ (0 < x.face.types.length ∨ 0 < x.face.funcs.length) then 4 else 0
/-- What is wrong with modules that are used; 0: nothing. -/
def importsErr (l : List Import) : Int := if 24 < l.length then 1 else firstErr (itemErr Import.name importBad l) l.length
theorem importBad_name {x : Import} (h : nameOk x.name = false) : importBad x = 4 := by unfold importBad; rw [if_pos h]
theorem importBad_face {x : Import} {z : Int} (h : nameOk x.name = true) (h2 : faceErr x.face = z) (h3 : z ≠ 0) : importBad x = z := by
  subst h2
  unfold importBad
  rw [if_neg (by rw [h]; decide), if_pos h3]
theorem importBad_there {x : Import} (h : nameOk x.name = true) (h2 : faceErr x.face = 0) (h3 : x.there = false) (h4 : 0 < x.face.types.length ∨ 0 < x.face.funcs.length) : importBad x = 4 := by
  unfold importBad
  rw [if_neg (by rw [h]; decide), if_neg (by rw [h2]; decide), if_pos ⟨h3, h4⟩]
theorem importBad_ok {x : Import} (h : nameOk x.name = true) (h2 : faceErr x.face = 0) (h3 : x.there = true ∨ (x.face.types.length = 0 ∧ x.face.funcs.length = 0)) : importBad x = 0 := by
  unfold importBad
  rw [if_neg (by rw [h]; decide), if_neg (by rw [h2]; decide), if_neg]
  rintro ⟨a, b⟩
  rcases h3 with h3 | h3
  · rw [h3] at a; cases a
  · omega
theorem importsErr_hit {l : List Import} {k : Nat} {e : Int} (h24 : ¬ 24 < l.length) (hk : k < l.length) (hb : ∀ j, j < k → itemErr Import.name importBad l j = 0) (h : itemErr Import.name importBad l k = e) (h0 : e ≠ 0) : importsErr l = e := by
  unfold importsErr
  rw [if_neg h24, firstErr_hit hk hb (by rw [h]; exact h0), h]
theorem importsErr_none {l : List Import} (h24 : ¬ 24 < l.length) (hb : ∀ j, j < l.length → itemErr Import.name importBad l j = 0) : importsErr l = 0 := by
  unfold importsErr
  rw [if_neg h24, firstErr_none hb]

set_option maxRecDepth 100000 in
set_option maxHeartbeats 4000000 in
theorem importsFault_any (v : Value) (l : List Import) (F : Foot) (w : World) (hF : ∀ k, F k → k < w.heap.size) (hv : SliceOf ImportR 4 72 w F v l) :
    Calls Tryd.prog 35 #[v] w fun e w' => e = .returned (.int .i64 (importsErr l)) ∧ Below w.heap.size w w' := by
  obtain ⟨A, cap, rfl, _, _, hl1, _⟩ := hv.form
  obtain ⟨E, hE⟩ : ∃ E, importsErr l = E := ⟨_, rfl⟩
  rw [hE]
  by_cases h24 : 24 < l.length
  · have h24z : (24 : Int) < (l.length : Int) := by omega
    obtain rfl : E = 1 := by rw [← hE]; simp [importsErr, h24]
    clear hE hv
    go_enter Tryd.func35, Tryd.ntmps35
    go_wp2_with fail
    go_ret
    exact ⟨rfl, Below.refl _ _⟩
  · have h24z : ¬ (24 : Int) < (l.length : Int) := by omega
    have HE := Lib.hid hE
    have H24 := Lib.hid h24
    clear hE h24
    go_enter Tryd.func35, Tryd.ntmps35
    go_wp2_with fail
    go_loopg [3, 4] l.length (fun gg s3 _ wr => ∃ kk : Nat, kk ≤ l.length ∧ l.length - kk ≤ gg ∧ s3 = .int .i64 kk ∧ Aside (Below w.heap.size w wr) ∧ Aside (∀ j, j < kk → itemErr Import.name importBad l j = 0))
    case atStart => exact ⟨0, Nat.zero_le _, by omega, rfl, Below.refl _ _, aside (fun j hj => absurd hj (Nat.not_lt_zero _))⟩
    case round =>
      obtain ⟨kk, hkk, hg, rfl, BW, Al⟩ := hrel
      by_cases hlt : kk < l.length
      · have hltz : (kk : Int) < (l.length : Int) := by omega
        have hat := hv.up ImportR.stays hF BW.out
        obtain ⟨b1, off, cs, rfl, hb, hcs, hr, hcell⟩ := hat.at_ hlt
        have hx := List.getElem?_eq_getElem hlt
        generalize l[kk] = x at *
        have hn := hr.okName
        obtain ⟨X1, x1, X2, x2, rfl⟩ := ImportR.form hr
        have hc0 := hcell 0 _ rfl
        have hc1 := hcell 1 _ rfl
        have hc2 := hcell 2 _ rfl
        have hc3 := hcell 3 _ rfl
        simp only [Nat.add_zero] at hc0
        have hFr := foot_up hF BW.out
        have hbl := hFr _ hb
        have hff := faceFault_any x.face _ F wr hFr hr.face
        obtain ⟨z2, hz2⟩ : ∃ z, faceErr x.face = z := ⟨_, rfl⟩
        rw [hz2] at hff
        have HX := Lib.hid hx; have HT := Lib.hid hat; have HFF := Lib.hid hff; have Z2 := Lib.hid hz2
        have hnm := fun W => nameMay_any x.name W hn
        obtain ⟨z1, hz1⟩ : ∃ z, nameOk x.name = z := ⟨_, rfl⟩
        rw [hz1] at hnm
        have Z1 := Lib.hid hz1; have HN := Lib.hid hnm
        clear hx hcell hat hnm hz1 hff hz2 hr hFr
        cases z1 with
        | false =>
          go_wp2_with (go_at_call 36; refine (HN.out _).mono ?_; rintro e w' ⟨rfl, rfl⟩)
          go_ret
          exact ⟨ret_int (by rw [← HE.out]; exact (importsErr_hit H24.out hlt Al.out (itemErr_bad HX.out (importBad_name Z1.out) (by decide)) (by decide)).symm), BW.out⟩
        | true =>
          go_wp2_with fail
          refine (HN.out _).mono ?_
          rintro e w' ⟨rfl, rfl⟩
          go_wp2_with fail
          refine HFF.out.mono ?_
          rintro e w1 ⟨rfl, hb1⟩
          have hc0' := (hb1.cell (p := ⟨b1, off + kk * 4, none⟩) hbl).trans hc0
          have hc1' := (hb1.cell (p := ⟨b1, off + kk * 4 + 1, none⟩) hbl).trans hc1
          have hc2' := (hb1.cell (p := ⟨b1, off + kk * 4 + 2, none⟩) hbl).trans hc2
          have hc3' := (hb1.cell (p := ⟨b1, off + kk * 4 + 3, none⟩) hbl).trans hc3
          have HB1 := Lib.hid hb1
          have HBW := Lib.hid (BW.out.trans (hb1.mono BW.out.size))
          clear hb1 hc0 hc1 hc2 hc3
          by_cases hz : z2 = 0
          · subst hz
            by_cases ht : x.there = false ∧ (0 < x.face.types.length ∨ 0 < x.face.funcs.length)
            · have hB := Lib.hid (importBad_there Z1.out Z2.out ht.1 ht.2)
              rw [ht.1] at hc1'
              by_cases h1 : 0 < x.face.types.length
              · have h1z : (0 : Int) < (x.face.types.length : Int) := by omega
                clear ht
                go_wp2_with fail
                go_ret
                exact ⟨ret_int (by rw [← HE.out]; exact (importsErr_hit H24.out hlt Al.out (itemErr_bad HX.out hB.out (by decide)) (by decide)).symm), HBW.out⟩
              · have h1z : ¬ (0 : Int) < (x.face.types.length : Int) := by omega
                have h2z : (0 : Int) < (x.face.funcs.length : Int) := by omega
                clear ht
                go_wp2_with fail
                go_ret
                exact ⟨ret_int (by rw [← HE.out]; exact (importsErr_hit H24.out hlt Al.out (itemErr_bad HX.out hB.out (by decide)) (by decide)).symm), HBW.out⟩
            · have HG := Lib.hid (importBad_ok Z1.out Z2.out (by
                cases hth : x.there with
                | true => exact .inl rfl
                | false =>
                  refine .inr ⟨?_, ?_⟩
                  · rcases Nat.eq_zero_or_pos x.face.types.length with h | h
                    · exact h
                    · exact absurd ⟨hth, .inl h⟩ ht
                  · rcases Nat.eq_zero_or_pos x.face.funcs.length with h | h
                    · exact h
                    · exact absurd ⟨hth, .inr h⟩ ht))
              cases hth : x.there with
              | true =>
                rw [hth] at hc1'
                clear ht
                by_cases h0 : 0 < kk
                · have h0z : (0 : Int) < (kk : Int) := by omega
                  obtain ⟨b2, off2, cs2, e2, hb2, _, hr2, hcell2⟩ := HT.out.at_ (k := kk - 1) (by omega)
                  injection e2 with e2
                  injection e2 with e2 e3 _
                  subst e2; subst e3
                  obtain ⟨Y1, y1, Y2, y2, rfl⟩ := ImportR.form hr2
                  have hd0 := (HB1.out.cell (p := ⟨b1, off + (kk - 1) * 4 + 0, none⟩) hbl).trans (hcell2 0 _ rfl)
                  simp only [Nat.add_zero] at hd0
                  have hy := List.getElem?_eq_getElem (show kk - 1 < l.length by omega)
                  generalize l[kk - 1] = y at *
                  have HY := Lib.hid hy
                  have HI := Lib.hid (itemErr_next (name := Import.name) (bad := importBad) h0 HX.out HY.out HG.out)
                  have hi1 : IntKind.i64.wrap ((kk : Int) - 1) = (kk : Int) - 1 := IntWalk.i64_in _ (by omega)
                  have hi2 : (0 : Int) ≤ (kk : Int) - 1 := by omega
                  have hi3 : ((kk : Int) - 1).toNat = kk - 1 := by omega
                  have hi4 : (kk : Int) - 1 < (l.length : Int) := by omega
                  have hleq := ltS_leq x.name y.name
                  clear hcell2 hy hr2
                  cases hq : ltS y.name x.name with
                  | true =>
                    rw [hq] at hleq
                    have HQ := Lib.hid hq
                    clear hq
                    have hleq' : (Op.bytesLess x.name.toList y.name.toList || x.name.toList == y.name.toList) = false := hleq
                    clear hleq
                    go_wp2_with fail
                    go_quiet (fail)
                    go_wp2_with fail
                    go_roundg (l.length - (kk + 1))
                    case measure => omega
                    case rel => exact ⟨kk + 1, by omega, by omega, by go_num, below_drewN HBW.out _, aside (zeros_succ Al.out (by rw [HI.out, HQ.out]; rfl))⟩
                  | false =>
                    rw [hq] at hleq
                    have HQ := Lib.hid hq
                    clear hq
                    have hleq' : (Op.bytesLess x.name.toList y.name.toList || x.name.toList == y.name.toList) = true := hleq
                    clear hleq
                    go_wp2_with fail
                    go_quiet (fail)
                    go_wp2_with fail
                    go_ret
                    exact ⟨ret_int (by rw [← HE.out]; exact (importsErr_hit H24.out hlt Al.out (by rw [HI.out, HQ.out]; rfl) (by decide)).symm), below_drewN HBW.out _⟩
                · have h0z : decide ((0 : Int) < (kk : Int)) = false := by simp; omega
                  have HI := Lib.hid (show itemErr Import.name importBad l kk = 0 by
                    have e : kk = 0 := by omega
                    have h := HX.out
                    rw [e] at h ⊢
                    exact itemErr_first h HG.out)
                  go_wp2_with fail
                  go_quiet (fail)
                  go_wp2_with fail
                  go_roundg (l.length - (kk + 1))
                  case measure => omega
                  case rel => exact ⟨kk + 1, by omega, by omega, by go_num, below_drewN HBW.out _, aside (zeros_succ Al.out HI.out)⟩
              | false =>
                have hl0 : x.face.types.length = 0 := by
                  rcases Nat.eq_zero_or_pos x.face.types.length with h | h
                  · exact h
                  · exact absurd ⟨hth, .inl h⟩ ht
                have hl9 : x.face.funcs.length = 0 := by
                  rcases Nat.eq_zero_or_pos x.face.funcs.length with h | h
                  · exact h
                  · exact absurd ⟨hth, .inr h⟩ ht
                rw [hth] at hc1'
                rw [hl0] at hc2'
                rw [hl9] at hc3'
                clear ht hl0 hl9
                by_cases h0 : 0 < kk
                · have h0z : (0 : Int) < (kk : Int) := by omega
                  obtain ⟨b2, off2, cs2, e2, hb2, _, hr2, hcell2⟩ := HT.out.at_ (k := kk - 1) (by omega)
                  injection e2 with e2
                  injection e2 with e2 e3 _
                  subst e2; subst e3
                  obtain ⟨Y1, y1, Y2, y2, rfl⟩ := ImportR.form hr2
                  have hd0 := (HB1.out.cell (p := ⟨b1, off + (kk - 1) * 4 + 0, none⟩) hbl).trans (hcell2 0 _ rfl)
                  simp only [Nat.add_zero] at hd0
                  have hy := List.getElem?_eq_getElem (show kk - 1 < l.length by omega)
                  generalize l[kk - 1] = y at *
                  have HY := Lib.hid hy
                  have HI := Lib.hid (itemErr_next (name := Import.name) (bad := importBad) h0 HX.out HY.out HG.out)
                  have hi1 : IntKind.i64.wrap ((kk : Int) - 1) = (kk : Int) - 1 := IntWalk.i64_in _ (by omega)
                  have hi2 : (0 : Int) ≤ (kk : Int) - 1 := by omega
                  have hi3 : ((kk : Int) - 1).toNat = kk - 1 := by omega
                  have hi4 : (kk : Int) - 1 < (l.length : Int) := by omega
                  have hleq := ltS_leq x.name y.name
                  clear hcell2 hy hr2
                  cases hq : ltS y.name x.name with
                  | true =>
                    rw [hq] at hleq
                    have HQ := Lib.hid hq
                    clear hq
                    have hleq' : (Op.bytesLess x.name.toList y.name.toList || x.name.toList == y.name.toList) = false := hleq
                    clear hleq
                    go_wp2_with fail
                    go_quiet (fail)
                    go_wp2_with fail
                    go_roundg (l.length - (kk + 1))
                    case measure => omega
                    case rel => exact ⟨kk + 1, by omega, by omega, by go_num, below_drewN HBW.out _, aside (zeros_succ Al.out (by rw [HI.out, HQ.out]; rfl))⟩
                  | false =>
                    rw [hq] at hleq
                    have HQ := Lib.hid hq
                    clear hq
                    have hleq' : (Op.bytesLess x.name.toList y.name.toList || x.name.toList == y.name.toList) = true := hleq
                    clear hleq
                    go_wp2_with fail
                    go_quiet (fail)
                    go_wp2_with fail
                    go_ret
                    exact ⟨ret_int (by rw [← HE.out]; exact (importsErr_hit H24.out hlt Al.out (by rw [HI.out, HQ.out]; rfl) (by decide)).symm), below_drewN HBW.out _⟩
                · have h0z : decide ((0 : Int) < (kk : Int)) = false := by simp; omega
                  have HI := Lib.hid (show itemErr Import.name importBad l kk = 0 by
                    have e : kk = 0 := by omega
                    have h := HX.out
                    rw [e] at h ⊢
                    exact itemErr_first h HG.out)
                  go_wp2_with fail
                  go_quiet (fail)
                  go_wp2_with fail
                  go_roundg (l.length - (kk + 1))
                  case measure => omega
                  case rel => exact ⟨kk + 1, by omega, by omega, by go_num, below_drewN HBW.out _, aside (zeros_succ Al.out HI.out)⟩
          · have hzn : (z2 != 0) = true := by simp [hz]
            go_wp2_with fail
            go_ret
            exact ⟨ret_int (by rw [← HE.out]; exact (importsErr_hit H24.out hlt Al.out (itemErr_bad HX.out (importBad_face Z1.out Z2.out hz) hz) hz).symm), HBW.out⟩
      · have hltz : ¬ (kk : Int) < (l.length : Int) := by omega
        obtain rfl : kk = l.length := by omega
        go_wp2_with fail
        go_ret
        exact ⟨ret_int (by rw [← HE.out]; exact (importsErr_none H24.out Al.out).symm), BW.out⟩

end Go.Proofs.YthedfpcdibhfpaaDoor
