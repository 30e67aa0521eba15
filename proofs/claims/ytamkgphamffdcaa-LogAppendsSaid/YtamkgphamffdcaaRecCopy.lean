/- A copy of a record: record.Copy. -/
import Derived.Test.YtamkgphamffdcaaFaceCopy
import Derived.Test.YtamkgphamffdcaaOwns
import Derived.Test.YtamkgphamffdcaaRecEq
import Derived.Deep.RegionWith
import Derived.Deep.DeepCutAuto
import Derived.Handy
namespace Go.Proofs.Ytamkgphamffdcaa
open Go.RowKit Go.Shelf

theorem RecordR.parts {w : World} {F : Foot} {cs : List Value} {r : Record} (h : RecordR w F cs r) : ∃ I1 i1 T1 e1 T2 e2 D1 d1, cs = [.string r.name, .string r.source, .slice I1 r.imports.length i1, .slice T1 r.face.types.length e1, .slice T2 r.face.funcs.length e2, .slice D1 r.diags.length d1] ∧
    okS r.name ∧ okS r.source ∧ SliceOf ImportR 4 72 w F (.slice I1 r.imports.length i1) r.imports ∧ FaceR w F [.slice T1 r.face.types.length e1, .slice T2 r.face.funcs.length e2] r.face ∧ SliceOf DiagR 2 24 w F (.slice D1 r.diags.length d1) r.diags := by
  obtain ⟨iv, tv, fv, dv, rfl, h1, h2, hi, hf, hd⟩ := h
  obtain ⟨T1, e1, T2, e2, h3⟩ := hf.form
  injection h3 with h3 h4
  injection h4 with h4 _
  subst h3; subst h4
  obtain ⟨I1, i1, rfl, _⟩ := hi.form
  obtain ⟨D1, d1, rfl, _⟩ := hd.form
  exact ⟨_, _, _, _, _, _, _, _, rfl, h1, h2, hi, hf, hd⟩

set_option maxRecDepth 100000 in
set_option maxHeartbeats 4000000 in
theorem recordCopy_any (r : Record) (cs : List Value) (F : Foot) (w : World) (hF : ∀ k, F k → k < w.heap.size) (hr : RecordR w F cs r) :
    Calls Try.prog 45 #[.agg cs.toArray] w fun e w' => ∃ ds : List Value, e = .returned (.agg ds.toArray) ∧ Below w.heap.size w w' ∧ RecordR w' (fresh w.heap.size w'.heap.size) ds r := by
  obtain ⟨I1, i1, T1, e1, T2, e2, D1, d1, rfl, hn, hs, hi, hf, hd⟩ := hr.parts
  obtain ⟨_, _, _, _, _, hil, hib⟩ := hi.form
  have HI := Lib.hid hi; have HFc := Lib.hid hf; have HD := Lib.hid hd
  clear hi hf hd
  clear hr
  go_enter Try.func45, Try.ntmps45
  go_upto_region 1 with fail
  have hBb1 := ((Box.made w 40 #[.string r.name, .string r.source, .slice I1 r.imports.length i1, .slice T1 r.face.types.length e1, .slice T2 r.face.funcs.length e2, .slice D1 r.diags.length d1]).alloc (.cells #[.string ⟨#[]⟩, .string ⟨#[]⟩, .slice none 0 0, .slice none 0 0, .slice none 0 0, .slice none 0 0] 40))
  have hBb2 := (Box.made (w.alloc (.cells #[.string r.name, .string r.source, .slice I1 r.imports.length i1, .slice T1 r.face.types.length e1, .slice T2 r.face.funcs.length e2, .slice D1 r.diags.length d1] 40)) 40 #[.string ⟨#[]⟩, .string ⟨#[]⟩, .slice none 0 0, .slice none 0 0, .slice none 0 0, .slice none 0 0])
  rw [show (w.alloc (.cells #[.string r.name, .string r.source, .slice I1 r.imports.length i1, .slice T1 r.face.types.length e1, .slice T2 r.face.funcs.length e2, .slice D1 r.diags.length d1] 40)).heap.size = w.heap.size + 1 by simp only [World.size_alloc]] at hBb2
  have hbb : Below w.heap.size w ((w.alloc (.cells #[.string r.name, .string r.source, .slice I1 r.imports.length i1, .slice T1 r.face.types.length e1, .slice T2 r.face.funcs.length e2, .slice D1 r.diags.length d1] 40)).alloc (.cells #[.string ⟨#[]⟩, .string ⟨#[]⟩, .slice none 0 0, .slice none 0 0, .slice none 0 0, .slice none 0 0] 40)) := by go_grown
  have hzb : ((w.alloc (.cells #[.string r.name, .string r.source, .slice I1 r.imports.length i1, .slice T1 r.face.types.length e1, .slice T2 r.face.funcs.length e2, .slice D1 r.diags.length d1] 40)).alloc (.cells #[.string ⟨#[]⟩, .string ⟨#[]⟩, .slice none 0 0, .slice none 0 0, .slice none 0 0, .slice none 0 0] 40)).heap.size = w.heap.size + 1 + 1 := by simp only [World.size_alloc]
  generalize (w.alloc (.cells #[.string r.name, .string r.source, .slice I1 r.imports.length i1, .slice T1 r.face.types.length e1, .slice T2 r.face.funcs.length e2, .slice D1 r.diags.length d1] 40)).alloc (.cells #[.string ⟨#[]⟩, .string ⟨#[]⟩, .slice none 0 0, .slice none 0 0, .slice none 0 0, .slice none 0 0] 40) = W1 at hBb1 hBb2 hbb hzb ⊢
  have x2 := hBb1.at_ 2 _ rfl
  have g2 := hBb1.free 2
  have hB1 := hBb1.put 2 (.slice none 0 0)
  have hB2 := hBb2.far (p := ⟨w.heap.size, 2, none⟩) (by simp) (.slice none 0 0)
  have hb2 := hbb.setCell (p := ⟨w.heap.size, 2, none⟩) (Nat.le_refl _) (.slice none 0 0)
  have hz2 := (size_set W1 ⟨w.heap.size, 2, none⟩ (.slice none 0 0)).trans hzb
  simp only [List.setIfInBounds_toArray, List.set_cons_succ, List.set_cons_zero] at hB1
  have HB1 := Lib.hid hB1; have HB2 := Lib.hid hB2; have HBW := Lib.hid hb2; have HZ := Lib.hid hz2
  clear hB1 hB2 hb2 hz2
  clear hBb1 hBb2 hbb hzb
  go_wp2_with fail
  generalize W1.setCell ⟨w.heap.size, 2, none⟩ (.slice none 0 0) = W2 at *
  go_loopg [11] r.imports.length (fun gg s11 wr => ∃ (kk : Nat) (A : Option Addr) (c : Nat) (xs : List Import) (G : Foot), kk ≤ r.imports.length ∧ r.imports.length - kk ≤ gg ∧ s11 = .int .i64 kk ∧
    Aside (xs = r.imports.take kk) ∧ Aside (Owns ImportR 4 113 (w.heap.size + 1 + 1) wr G (.slice A xs.length c) xs) ∧ Aside (∀ k, G k → w.heap.size + 1 + 1 ≤ k) ∧ Aside (Below w.heap.size w wr) ∧ Aside (w.heap.size + 1 + 1 ≤ wr.heap.size) ∧
    Aside (Box wr w.heap.size 40 #[.string r.name, .string r.source, .slice A xs.length c, .slice T1 r.face.types.length e1, .slice T2 r.face.funcs.length e2, .slice D1 r.diags.length d1]) ∧
    Aside (Box wr (w.heap.size + 1) 40 #[.string ⟨#[]⟩, .string ⟨#[]⟩, .slice none 0 0, .slice none 0 0, .slice none 0 0, .slice none 0 0]))
  case atStart => exact ⟨0, none, 0, [], none_, Nat.zero_le _, by omega, rfl, aside rfl, aside Owns.nil_, aside (fun _ h => h.elim), aside HBW.out, aside (by have := HZ.out; omega), aside HB1.out, aside HB2.out⟩
  case round =>
    obtain ⟨kk, A, c, xs, G, hkk, hg, rfl, hxs, hO, hG, BW, hsz, hA1, hA2⟩ := hrel
    have hxl : xs.length = kk := by rw [hxs.out, List.length_take]; omega
    have HXL := Lib.hid hxl
    have hx2 := hA1.out.at_ 2 _ rfl
    by_cases hlt : kk < r.imports.length
    · have hltz : (kk : Int) < (r.imports.length : Int) := by omega
      have hF2 := foot_up hF BW.out
      obtain ⟨b1, off, cs, rfl, hbF, hcs, hr, hcell⟩ := (HI.out.up ImportR.stays hF BW.out).at_ hlt
      have hx := List.getElem?_eq_getElem hlt
      generalize r.imports[kk] = x at *
      obtain ⟨T3, e3, T4, e4, rfl⟩ := ImportR.form hr
      have hc0 := hcell 0 _ rfl
      have hc1 := hcell 1 _ rfl
      have hc2 := hcell 2 _ rfl
      have hc3 := hcell 3 _ rfl
      simp only [Nat.add_zero] at hc0
      have hcp := fun (U : World) (hU : Below wr.heap.size wr U) => copyFace_any x.face [.slice T3 x.face.types.length e3, .slice T4 x.face.funcs.length e4] F U (foot_up hF2 hU) (FaceR.stays.later (ImportR.face hr) hU hF2)
      have hok := ImportR.okName hr
      have HX := Lib.hid hx; have HCP := Lib.hid hcp; have HOK := Lib.hid hok; have HHG := Lib.hid hG
      clear hx hcp hok hG
      clear hcell hcs hr hF2 hxl hx2
      go_wp2_with fail
      have hBc := Box.made wr 113 #[.string x.name, .bool x.there, .slice T3 x.face.types.length e3, .slice T4 x.face.funcs.length e4]
      have hbc : Below wr.heap.size wr (wr.alloc (.cells #[.string x.name, .bool x.there, .slice T3 x.face.types.length e3, .slice T4 x.face.funcs.length e4] 113)) := by go_grown
      have hzc : (wr.alloc (.cells #[.string x.name, .bool x.there, .slice T3 x.face.types.length e3, .slice T4 x.face.funcs.length e4] 113)).heap.size = wr.heap.size + 1 := by simp
      generalize wr.alloc (.cells #[.string x.name, .bool x.there, .slice T3 x.face.types.length e3, .slice T4 x.face.funcs.length e4] 113) = W3 at hBc hbc hzc ⊢
      refine (HCP.out _ hbc).mono ?_
      rintro e W4 ⟨ds, rfl, hb4, hfr⟩
      obtain ⟨T5, e5, T6, e6, rfl⟩ := FaceR.form hfr
      have hBx := hBc.later hb4 hBc.lt
      have y0 := hBx.at_ 0 _ rfl
      have y1 := hBx.at_ 1 _ rfl
      have y2 := hBx.at_ 2 _ rfl
      have y3 := hBx.at_ 3 _ rfl
      have h2 := hBx.free 2
      have h3 := hBx.free 3
      have hb5 := ((hbc.trans (hb4.mono hbc.size)).setCell (p := ⟨wr.heap.size, 2, none⟩) (Nat.le_refl _) (.slice T5 x.face.types.length e5)).setCell (p := ⟨wr.heap.size, 3, none⟩) (Nat.le_refl _) (.slice T6 x.face.funcs.length e6)
      have hfr5 := FaceR.stays.set (p := ⟨wr.heap.size, 3, none⟩) (FaceR.stays.set (p := ⟨wr.heap.size, 2, none⟩) hfr (fresh_no hBc.lt) (.slice T5 x.face.types.length e5)) (fresh_no hBc.lt) (.slice T6 x.face.funcs.length e6)
      have hz5 : ((W4.setCell ⟨wr.heap.size, 2, none⟩ (.slice T5 x.face.types.length e5)).setCell ⟨wr.heap.size, 3, none⟩ (.slice T6 x.face.funcs.length e6)).heap.size = W4.heap.size := by simp only [size_set]
      have hBx5 := (hBx.put 2 (.slice T5 x.face.types.length e5)).put 3 (.slice T6 x.face.funcs.length e6)
      simp only [List.setIfInBounds_toArray, List.set_cons_succ, List.set_cons_zero] at hBx5
      have hz4 := hb4.size
      have HB5 := Lib.hid hb5; have HFR5 := Lib.hid hfr5; have HZ5 := Lib.hid hz5; have HBx5 := Lib.hid hBx5; have HZ4 := Lib.hid hz4; have HZC := Lib.hid hzc
      clear hb5 hfr5 hz5 hBx5 hz4 hzc
      clear hfr hBx hBc hbc hb4
      go_upto_region 7 with fail
      generalize (W4.setCell ⟨wr.heap.size, 2, none⟩ (.slice T5 x.face.types.length e5)).setCell ⟨wr.heap.size, 3, none⟩ (.slice T6 x.face.funcs.length e6) = W5 at *
      have hb5 := HB5.out
      have hA1' := hA1.out.later hb5 hA1.out.lt
      have hA2' := hA2.out.later hb5 hA2.out.lt
      have hO5 := hO.out.below ImportR.stays hb5
      have hBx5 := HBx5.out
      have z0 := hBx5.at_ 0 _ rfl
      have z1 := hBx5.at_ 1 _ rfl
      have z2 := hBx5.at_ 2 _ rfl
      have z3 := hBx5.at_ 3 _ rfl
      have v2 := hA1'.at_ 2 _ rfl
      have hszw := hsz.out
      have hone : ∀ u ∈ [Value.string x.name, .bool x.there, .slice T5 x.face.types.length e5, .slice T6 x.face.funcs.length e6], u.oneCell' = true := by
        intro u hu
        simp only [List.mem_cons, List.not_mem_nil, or_false] at hu
        rcases hu with rfl | rfl | rfl | rfl <;> rfl
      have hir : ImportR W5 (fresh W3.heap.size W4.heap.size) [.string x.name, .bool x.there, .slice T5 x.face.types.length e5, .slice T6 x.face.funcs.length e6] x := ⟨_, _, rfl, HOK.out, HFR5.out⟩
      have hfoot : ∀ k, fresh W3.heap.size W4.heap.size k → k < W5.heap.size ∧ some k ≠ (Value.slice A xs.length c).ownBlock := fun k hk => ⟨by have := hk.2; have := HZ5.out; omega, fun e => by have := hO.out.row e.symm; have := hk.1; have := HZC.out; omega⟩
      have HO5 := Lib.hid hO5; have HON := Lib.hid hone; have HIR := Lib.hid hir; have HFO := Lib.hid hfoot; have HA1 := Lib.hid hA1'; have HA2 := Lib.hid hA2'; have Hb5 := Lib.hid hb5
      clear hO5 hone hir hfoot hA1' hA2' hb5
      clear hBx5
      go_wp2_with (at_builtin; go_must ((refine wpList_push ImportR.stays (.agg #[.string ⟨#[]⟩, .bool false, .slice none 0 0, .slice none 0 0]) [.string x.name, .bool x.there, .slice T5 x.face.types.length e5, .slice T6 x.face.funcs.length e6] x rfl rfl Try.underlying37 (bytes := 72) (by kernel_rfl) HO5.out rfl rfl (by decide) rfl rfl HIR.out HON.out HFO.out (by have := HXL.out; unfold maxLen; omega) (by have := HXL.out; omega) (by have := Hb5.out.size; omega) ?_); (intro A6 c6 W6 hO6 hgr hloc; have hA6 := hgr.box HA1.out (by omega); have hA6' := hgr.box HA2.out (by omega); have hw2 := hA6.at_ 2 _ rfl; have hwf := hA6.free 2; have HO6 := Lib.hid hO6; have HGR := Lib.hid hgr; have HL := Lib.hid hloc; have HA6 := Lib.hid hA6; have HA6' := Lib.hid hA6'; clear hO6 hgr hloc hA6 hA6')))
      go_roundg (r.imports.length - (kk + 1))
      case measure => omega
      case rel =>
        have hsz5 := Hb5.out.size
        have hbW := BW.out.trans (Hb5.out.mono BW.out.size)
        have hb6 := (hbW.trans (HGR.out.below (B := w.heap.size) (by omega) hbW.size)).setCell (p := ⟨w.heap.size, 2, none⟩) (Nat.le_refl _) (.slice A6 (xs.length + 1) c6)
        have hG6 : ∀ k, G k ∨ fresh W3.heap.size W4.heap.size k → w.heap.size + 1 + 1 ≤ k := fun k hk => hk.elim (HHG.out.out k) fun hk => by have := hk.1; have := HZC.out; omega
        have hO7 := HO6.out.set ImportR.stays (p := ⟨w.heap.size, 2, none⟩) (by simp <;> omega) (fun k hk e => by have := hG6 k hk; simp at e; omega) (.slice A6 (xs.length + 1) c6)
        have hBB := HA6.out.put 2 (.slice A6 (xs.length + 1) c6)
        simp only [List.setIfInBounds_toArray, List.set_cons_succ, List.set_cons_zero] at hBB
        have hlen : (xs ++ [x]).length = xs.length + 1 := by simp
        have hsz6 := HGR.out.size
        refine ⟨kk + 1, A6, c6, xs ++ [x], _, by omega, by omega, by go_num, aside ?_, aside (by rw [hlen]; exact hO7), aside hG6, aside hb6, aside (by rw [size_set]; omega), aside (by rw [hlen]; exact hBB), aside (HA6'.out.far (by simp <;> omega) _)⟩
        rw [List.take_add_one, HX.out, hxs.out]
        rfl
    · have hltz : ¬ (kk : Int) < (r.imports.length : Int) := by omega
      obtain rfl : kk = r.imports.length := by omega
      have hx3 := hxs.out
      rw [List.take_of_length_le (Nat.le_refl _)] at hx3
      have hF2 := foot_up hF BW.out
      have hsl : SliceOf ImportR 4 72 wr (fresh (w.heap.size + 1 + 1) wr.heap.size) (.slice A xs.length c) r.imports := by
        have h := hO.out.slice ImportR.stays (by_ := 72) (F' := fresh (w.heap.size + 1 + 1) wr.heap.size) (fun k hk => ⟨hG.out k hk, (hO.out.foot hk).1⟩) (fun k h1 h2 => ⟨h1, h2⟩) (by rw [hxl]; omega) (by rw [hxl]; omega)
        rw [hx3] at h ⊢; exact h
      have hcp := fun (U : World) (hU : Below wr.heap.size wr U) => copyFace_any r.face [.slice T1 r.face.types.length e1, .slice T2 r.face.funcs.length e2] F U (foot_up hF2 hU) (FaceR.stays.later (FaceR.stays.later HFc.out BW.out hF) hU hF2)
      have hcd := fun (U : World) (hU : Below wr.heap.size wr U) => clone_diags (.slice D1 r.diags.length d1) r.diags F U ((HD.out.up DiagR.stays hF BW.out).up DiagR.stays hF2 hU) (foot_up hF2 hU)
      have hbx := fun (U : World) (hU : Below wr.heap.size wr U) => hA1.out.later hU hA1.out.lt
      have HCP := Lib.hid hcp; have HCD := Lib.hid hcd; have HSL := Lib.hid hsl; have HX3 := Lib.hid hx3; have HBX := Lib.hid hbx
      clear hcp hcd hsl hx3 hbx
      clear hxl hF2
      go_upto_region 9 with fail
      have hbx0 := HBX.out _ (Below.refl _ _)
      have x3 := hbx0.at_ 3 _ rfl
      have x4 := hbx0.at_ 4 _ rfl
      have x5 := hbx0.at_ 5 _ rfl
      clear hbx0
      go_cut [] (fun wx => ∃ (T5 : Option Addr) (e5 : Nat) (T6 : Option Addr) (e6 : Nat) (D5 : Option Addr) (d5 : Nat) (W5 : World), wx = ((W5.setCell ⟨w.heap.size, 3, none⟩ (.slice T5 r.face.types.length e5)).setCell ⟨w.heap.size, 4, none⟩ (.slice T6 r.face.funcs.length e6)).setCell ⟨w.heap.size, 5, none⟩ (.slice D5 r.diags.length d5) ∧
        Aside (Below wr.heap.size wr W5) ∧ Aside (FaceR W5 (fresh wr.heap.size W5.heap.size) [.slice T5 r.face.types.length e5, .slice T6 r.face.funcs.length e6] r.face) ∧ Aside (SliceOf DiagR 2 24 W5 (fresh wr.heap.size W5.heap.size) (.slice D5 r.diags.length d5) r.diags))
      case first =>
        go_region_with (first
          | (go_at_call 41; refine (HCP.out _ (by go_grown)).mono ?_; rintro e W4 ⟨ds, rfl, hb4, hfr⟩; obtain ⟨T5, e5, T6, e6, rfl⟩ := FaceR.form hfr; have hb4' := Below.trans (show Below wr.heap.size wr _ by go_grown) hb4; have hbx4 := HBX.out _ hb4'; have y5 := hbx4.at_ 5 _ rfl; have HB4 := Lib.hid hb4'; have HFR := Lib.hid hfr; clear hb4 hb4' hfr hbx4)
          | (go_at_call 106; refine (HCD.out _ (HB4.out.trans (by go_grown))).mono ?_; rintro e W5 ⟨v5, rfl, hb5, hsd⟩; obtain ⟨D5, d5, rfl, _⟩ := hsd.form; have hb5' := HB4.out.trans (hb5.mono HB4.out.size); have hbx5 := HBX.out _ hb5'; have u3 := hbx5.at_ 3 _ rfl; have u4 := hbx5.at_ 4 _ rfl; have u5 := hbx5.at_ 5 _ rfl; have f3 := hbx5.free 3; have f4 := hbx5.free 4; have f5 := hbx5.free 5; have HB5 := Lib.hid hb5'; have HSD := Lib.hid hsd; have HBq := Lib.hid hb5; clear hb5 hb5' hsd hbx5))
        all_goals (go_wp2_with fail; go_meet; exact ⟨T5, e5, T6, e6, D5, d5, W5, rfl, aside HB5.out, aside (FaceR.stays.wider (FaceR.stays.later HFR.out HBq.out fresh_lt) (fresh_up (Nat.le_refl _) HBq.out.size)), aside (HSD.out.stays DiagR.stays (fresh_up HB4.out.size (Nat.le_refl _)) (Keeps.refl _ _))⟩)
      case rest =>
        obtain ⟨T5, e5, T6, e6, D5, d5, W5, rfl, hb5, hfr, hsd⟩ := hcut
        have hbx := (((HBX.out _ hb5.out).put 3 (.slice T5 r.face.types.length e5)).put 4 (.slice T6 r.face.funcs.length e6)).put 5 (.slice D5 r.diags.length d5)
        simp only [List.setIfInBounds_toArray, List.set_cons_succ, List.set_cons_zero] at hbx
        have hby := ((((hA2.out.later hb5.out hA2.out.lt).far (p := ⟨w.heap.size, 3, none⟩) (by simp <;> omega) (.slice T5 r.face.types.length e5))).far (p := ⟨w.heap.size, 4, none⟩) (by simp <;> omega) (.slice T6 r.face.funcs.length e6)).far (p := ⟨w.heap.size, 5, none⟩) (by simp <;> omega) (.slice D5 r.diags.length d5)
        have hlo := BW.out.size
        have hbw := (((BW.out.trans (hb5.out.mono hlo)).setCell (p := ⟨w.heap.size, 3, none⟩) (Nat.le_refl _) (.slice T5 r.face.types.length e5)).setCell (p := ⟨w.heap.size, 4, none⟩) (Nat.le_refl _) (.slice T6 r.face.funcs.length e6)).setCell (p := ⟨w.heap.size, 5, none⟩) (Nat.le_refl _) (.slice D5 r.diags.length d5)
        have hkeep : ∀ k, w.heap.size + 1 + 1 ≤ k → (((W5.setCell ⟨w.heap.size, 3, none⟩ (.slice T5 r.face.types.length e5)).setCell ⟨w.heap.size, 4, none⟩ (.slice T6 r.face.funcs.length e6)).setCell ⟨w.heap.size, 5, none⟩ (.slice D5 r.diags.length d5)).heap[k]? = W5.heap[k]? := fun k hk => by
          repeat rw [Below.heap_setCell _ _ _ _ (by simp <;> omega)]
        have hzz : (((W5.setCell ⟨w.heap.size, 3, none⟩ (.slice T5 r.face.types.length e5)).setCell ⟨w.heap.size, 4, none⟩ (.slice T6 r.face.funcs.length e6)).setCell ⟨w.heap.size, 5, none⟩ (.slice D5 r.diags.length d5)).heap.size = W5.heap.size := by simp only [size_set]
        generalize ((W5.setCell ⟨w.heap.size, 3, none⟩ (.slice T5 r.face.types.length e5)).setCell ⟨w.heap.size, 4, none⟩ (.slice T6 r.face.funcs.length e6)).setCell ⟨w.heap.size, 5, none⟩ (.slice D5 r.diags.length d5) = W6 at *
        have z0 := hbx.at_ 0 _ rfl
        have z1 := hbx.at_ 1 _ rfl
        have z2 := hbx.at_ 2 _ rfl
        have z3 := hbx.at_ 3 _ rfl
        have z4 := hbx.at_ 4 _ rfl
        have z5 := hbx.at_ 5 _ rfl
        have r0 := hby.at_ 0 _ rfl
        have r1 := hby.at_ 1 _ rfl
        have r2 := hby.at_ 2 _ rfl
        have r3 := hby.at_ 3 _ rfl
        have r4 := hby.at_ 4 _ rfl
        have r5 := hby.at_ 5 _ rfl
        have g0 := hby.free 0
        have g1 := hby.free 1
        have g2 := hby.free 2
        have g3 := hby.free 3
        have g4 := hby.free 4
        have g5 := hby.free 5
        have hfin : ∀ W', (∀ k, w.heap.size + 1 + 1 ≤ k → W'.heap[k]? = W6.heap[k]?) → W'.heap.size = W6.heap.size → RecordR W' (fresh w.heap.size W'.heap.size) [.string r.name, .string r.source, .slice A xs.length c, .slice T5 r.face.types.length e5, .slice T6 r.face.funcs.length e6, .slice D5 r.diags.length d5] r := fun W' hk hz => by
          have hsw := hsz.out
          have h5z := hb5.out.size
          have hk5 : ∀ k, w.heap.size + 1 + 1 ≤ k → W'.heap[k]? = W5.heap[k]? := fun k h => (hk k h).trans (hkeep k h)
          refine ⟨_, _, _, _, rfl, hn, hs, ?_, ?_, ?_⟩
          · exact HSL.out.stays ImportR.stays (fresh_up (by omega) (by omega)) (keeps_of_heap fun k h => (hk5 k h.1).trans (hb5.out.block k h.2))
          · exact FaceR.stays _ _ _ _ _ _ hfr.out (fresh_up (by omega) (by omega)) (keeps_of_heap fun k h => hk5 k (by have := h.1; omega))
          · exact hsd.out.stays DiagR.stays (fresh_up (by omega) (by omega)) (keeps_of_heap fun k h => hk5 k (by have := h.1; omega))
        have hend : ∀ W', W' = (((((W6.setCell ⟨w.heap.size + 1, 0, none⟩ (.string r.name)).setCell ⟨w.heap.size + 1, 1, none⟩ (.string r.source)).setCell ⟨w.heap.size + 1, 2, none⟩ (.slice A xs.length c)).setCell ⟨w.heap.size + 1, 3, none⟩ (.slice T5 r.face.types.length e5)).setCell ⟨w.heap.size + 1, 4, none⟩ (.slice T6 r.face.funcs.length e6)).setCell ⟨w.heap.size + 1, 5, none⟩ (.slice D5 r.diags.length d5) →
            Below w.heap.size w W' ∧ RecordR W' (fresh w.heap.size W'.heap.size) [.string r.name, .string r.source, .slice A xs.length c, .slice T5 r.face.types.length e5, .slice T6 r.face.funcs.length e6, .slice D5 r.diags.length d5] r := by
          rintro W' rfl
          refine ⟨(((((hbw.setCell (by simp <;> omega) _).setCell (by simp <;> omega) _).setCell (by simp <;> omega) _).setCell (by simp <;> omega) _).setCell (by simp <;> omega) _).setCell (by simp <;> omega) _, hfin _ (fun k hk => ?_) (by simp only [size_set])⟩
          repeat rw [Below.heap_setCell _ _ _ _ (by simp <;> omega)]
        have HEnd := Lib.hid hend
        clear hfin hend hkeep hzz hbx hby hbw
        go_wp2_with fail
        exact bodyPost_ret (v := .agg #[.string r.name, .string r.source, .slice A xs.length c, .slice T5 r.face.types.length e5, .slice T6 r.face.funcs.length e6, .slice D5 r.diags.length d5]) (by simp [results, Try.results45, go_sem, r0, r1, r2, r3, r4, r5]) rfl ⟨_, rfl, (HEnd.out _ rfl).1, (HEnd.out _ rfl).2⟩

end Go.Proofs.Ytamkgphamffdcaa
