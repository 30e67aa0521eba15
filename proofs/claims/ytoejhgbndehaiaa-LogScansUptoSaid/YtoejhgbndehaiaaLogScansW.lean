/- The law LogScans: its walk. -/
import Derived.Test.YtoejhgbndehaiaaLogAll
import Derived.Test.YtoejhgbndehaiaaSameRec
import Derived.Handy
namespace Go.Proofs.Ytoejhgbndehaiaa
open Go.ChangeShapes Go.WideShapes Go.ChangeAt Go.RowKit
open Go.ChangeMaps (open_string)

set_option maxRecDepth 100000 in
set_option maxHeartbeats 8000000 in
theorem logScans_calls (s : ByteArray) (W : World) (hs : s.size ≤ 1048576) :
    Calls Try.prog 3 #[.string s] W fun e w' => e = .returned (.bool true) ∧ Below W.heap.size W w' := by
  have ha := scan_any s W hs
  have hb := fun U => scannedOf_any s U hs
  have HA := Lib.hid ha; have HB := Lib.hid hb
  clear ha hb
  go_enter Try.func3, Try.ntmps3
  go_wp2_with fail
  refine HA.out.mono ?_
  rintro e W1 ⟨A1, c1, xs, u, rfl, hb1, hx1, hs1, he1⟩
  have hx1 := now_list RecordR.stays hx1 fresh_lt
  have HB1 := Lib.hid hb1; have HX1 := Lib.hid hx1; have HS1 := Lib.hid hs1; have HE1 := Lib.hid he1
  clear hb1 hx1 hs1 he1
  go_wp2_with fail
  refine (HB.out _).mono ?_
  rintro e W2 ⟨A2, c2, ys, v, rfl, hb2, hx2, hs2, he2⟩
  obtain ⟨rfl, rfl⟩ := HS1.out.same HE1.out hs2 he2
  have hx2 := now_list RecordR.stays hx2 fresh_lt
  have hx1 := now_lup RecordR.stays HX1.out hb2
  have hbw := HB1.out.trans (hb2.mono HB1.out.size)
  obtain ⟨_, _, _, _, _, hmx, _⟩ := hx2.form
  have HX2 := Lib.hid hx2; have HX1' := Lib.hid hx1; have HBW := Lib.hid hbw
  clear hx2 hx1 hbw
  clear hb2 hs2 he2 HA HB
  go_wp2_with fail
  go_loopg [7] ys.length (fun gg s7 wr => ∃ ii : Nat, ii ≤ ys.length ∧ ys.length - ii ≤ gg ∧ s7 = .int .i64 ii ∧ Aside (Below W2.heap.size W2 wr))
  case atStart => exact ⟨0, Nat.zero_le _, by omega, rfl, aside (Below.refl _ _)⟩
  case round =>
    obtain ⟨ii, hii, hg, rfl, hB⟩ := hrel
    obtain ⟨wo, rfl⟩ : ∃ W, W = wr := ⟨_, rfl⟩
    by_cases hlt : ii < ys.length
    · have hltz : (ii : Int) < (ys.length : Int) := by omega
      have hsm := fun U (hU : Below wo.heap.size wo U) ds es (h : RecordR wo (old wo.heap.size) ds (ys[ii]'hlt)) (k : RecordR wo (old wo.heap.size) es (ys[ii]'hlt)) => sameRecord_self (ys[ii]'hlt) ds es (old wo.heap.size) (old wo.heap.size) U (foot_up (fun _ h => h) hU) (foot_up (fun _ h => h) hU) (RecordR.stays.later h hU fun _ h => h) (RecordR.stays.later k hU fun _ h => h)
      obtain ⟨b1, off1, cs1, hT1, hbF1, hcs1, hr1, hcell1⟩ := (now_lup RecordR.stays HX1'.out hB.out).at_ (k := ii) hlt
      obtain ⟨b2, off2, cs2, hT2, hbF2, hcs2, hr2, hcell2⟩ := (now_lup RecordR.stays HX2.out hB.out).at_ (k := ii) hlt
      generalize ys[ii] = x at *
      have hsq := fun U hU => hsm U hU cs1 cs2 hr1 hr2
      obtain ⟨I1, i1, T1, e1, T2, e2, D1, d1, rfl, _⟩ := hr1.parts
      obtain ⟨I3, i3, T3, e3, T4, e4, D3, d3, rfl, _⟩ := hr2.parts
      have p0 := hcell1 0 _ rfl
      have p1 := hcell1 1 _ rfl
      have p2 := hcell1 2 _ rfl
      have p3 := hcell1 3 _ rfl
      have p4 := hcell1 4 _ rfl
      have p5 := hcell1 5 _ rfl
      simp only [Nat.add_zero] at p0
      have q0 := hcell2 0 _ rfl
      have q1 := hcell2 1 _ rfl
      have q2 := hcell2 2 _ rfl
      have q3 := hcell2 3 _ rfl
      have q4 := hcell2 4 _ rfl
      have q5 := hcell2 5 _ rfl
      simp only [Nat.add_zero] at q0
      subst hT1; subst hT2
      have hq1 : b1 < wo.heap.size := hbF1
      have hq2 : b2 < wo.heap.size := hbF2
      have hdr : Below wo.heap.size wo wo.drew := by go_grown
      have HS := Lib.hid (show ∀ w', Below wo.heap.size wo w' → (w'.cell? ⟨b1, off1 + ii * 6, none⟩ = some (.string x.name) ∧ w'.cell? ⟨b1, off1 + ii * 6 + 1, none⟩ = some (.string x.source) ∧ w'.cell? ⟨b1, off1 + ii * 6 + 2, none⟩ = some (.slice I1 x.imports.length i1) ∧ w'.cell? ⟨b1, off1 + ii * 6 + 3, none⟩ = some (.slice T1 x.face.types.length e1) ∧ w'.cell? ⟨b1, off1 + ii * 6 + 4, none⟩ = some (.slice T2 x.face.funcs.length e2) ∧ w'.cell? ⟨b1, off1 + ii * 6 + 5, none⟩ = some (.slice D1 x.diags.length d1) ∧ w'.cell? ⟨b2, off2 + ii * 6, none⟩ = some (.string x.name) ∧ w'.cell? ⟨b2, off2 + ii * 6 + 1, none⟩ = some (.string x.source) ∧ w'.cell? ⟨b2, off2 + ii * 6 + 2, none⟩ = some (.slice I3 x.imports.length i3) ∧ w'.cell? ⟨b2, off2 + ii * 6 + 3, none⟩ = some (.slice T3 x.face.types.length e3) ∧ w'.cell? ⟨b2, off2 + ii * 6 + 4, none⟩ = some (.slice T4 x.face.funcs.length e4) ∧ w'.cell? ⟨b2, off2 + ii * 6 + 5, none⟩ = some (.slice D3 x.diags.length d3)) from fun w' h => ⟨(h.cell (p := ⟨b1, off1 + ii * 6, none⟩) hq1).trans p0, (h.cell (p := ⟨b1, off1 + ii * 6 + 1, none⟩) hq1).trans p1, (h.cell (p := ⟨b1, off1 + ii * 6 + 2, none⟩) hq1).trans p2, (h.cell (p := ⟨b1, off1 + ii * 6 + 3, none⟩) hq1).trans p3, (h.cell (p := ⟨b1, off1 + ii * 6 + 4, none⟩) hq1).trans p4, (h.cell (p := ⟨b1, off1 + ii * 6 + 5, none⟩) hq1).trans p5, (h.cell (p := ⟨b2, off2 + ii * 6, none⟩) hq2).trans q0, (h.cell (p := ⟨b2, off2 + ii * 6 + 1, none⟩) hq2).trans q1, (h.cell (p := ⟨b2, off2 + ii * 6 + 2, none⟩) hq2).trans q2, (h.cell (p := ⟨b2, off2 + ii * 6 + 3, none⟩) hq2).trans q3, (h.cell (p := ⟨b2, off2 + ii * 6 + 4, none⟩) hq2).trans q4, (h.cell (p := ⟨b2, off2 + ii * 6 + 5, none⟩) hq2).trans q5⟩)
      have HSQ := Lib.hid hsq; have HBk := Lib.hid hdr
      clear hsq hdr
      clear hsm hcell1 hcell2 hr1 hr2 hcs1 hcs2 hbF1 hbF2
      go_wp2_with fail
      go_region_held3 (fun w' => w'.cell? ⟨b1, off1 + ii * 6, none⟩ = some (.string x.name) ∧ w'.cell? ⟨b1, off1 + ii * 6 + 1, none⟩ = some (.string x.source) ∧ w'.cell? ⟨b1, off1 + ii * 6 + 2, none⟩ = some (.slice I1 x.imports.length i1) ∧ w'.cell? ⟨b1, off1 + ii * 6 + 3, none⟩ = some (.slice T1 x.face.types.length e1) ∧ w'.cell? ⟨b1, off1 + ii * 6 + 4, none⟩ = some (.slice T2 x.face.funcs.length e2) ∧ w'.cell? ⟨b1, off1 + ii * 6 + 5, none⟩ = some (.slice D1 x.diags.length d1) ∧ w'.cell? ⟨b2, off2 + ii * 6, none⟩ = some (.string x.name) ∧ w'.cell? ⟨b2, off2 + ii * 6 + 1, none⟩ = some (.string x.source) ∧ w'.cell? ⟨b2, off2 + ii * 6 + 2, none⟩ = some (.slice I3 x.imports.length i3) ∧ w'.cell? ⟨b2, off2 + ii * 6 + 3, none⟩ = some (.slice T3 x.face.types.length e3) ∧ w'.cell? ⟨b2, off2 + ii * 6 + 4, none⟩ = some (.slice T4 x.face.funcs.length e4) ∧ w'.cell? ⟨b2, off2 + ii * 6 + 5, none⟩ = some (.slice D3 x.diags.length d3))
        (exact HS.out _ (by first | exact HBk.out | exact HBk.out.alloc HBk.out.size _ | (go_grown; done) | exact (HBk.out.alloc HBk.out.size _).alloc (HBk.out.alloc HBk.out.size _).size _))
        ((go_at_call 8; (with_reducible refine (HSQ.out _ HBk.out).mono ?_); rintro e w7 ⟨rfl, hb7⟩; have hb8 := below_step HBk.out hb7; have HBk := Lib.hid hb8; clear hb7 hb8))
      all_goals
        go_wp2_with fail
        go_roundg (ys.length - (ii + 1))
        case measure => omega
        case rel => exact ⟨ii + 1, by omega, by omega, by go_num, aside (hB.out.trans (HBk.out.mono hB.out.size))⟩
    · have hltz : ¬ (ii : Int) < (ys.length : Int) := by omega
      go_wp2_with fail
      go_ret
      exact ⟨rfl, HBW.out.trans (hB.out.mono HBW.out.size)⟩

end Go.Proofs.Ytoejhgbndehaiaa
