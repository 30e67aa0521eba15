/- A module as text: the reference's ModuleText. -/
import Derived.Test.YtoejhgbndehaiaaDoorModTxt
import Derived.Test.YtoejhgbndehaiaaDoorExprShown
import Derived.Test.YtoejhgbndehaiaaDoorModErr
import Derived.Deep.RegionHeld3
namespace Go.Proofs.YtoejhgbndehaiaaDoor
open Go.RowKit Go.Shelf

set_option maxRecDepth 100000 in
set_option maxHeartbeats 16000000 in
theorem moduleText_any (m : Module) (cs : List Value) (F : Foot) (w : World) (hF : ∀ k, F k → k < w.heap.size) (hm : ModuleR w F cs m) :
    Calls Tryd.prog 16 #[.agg cs.toArray] w fun e w' => e = .returned (.tuple #[.string (modR m).1, .int .i64 (modR m).2]) ∧ Below w.heap.size w w' := by
  have hck := fun U (hU : Below w.heap.size w U) => moduleFault_any m cs F U (foot_up hF hU) (ModuleR.stays.later hm hU hF)
  obtain ⟨U1, u1, T1, e1, T2, e2, rfl, hu, ht, hf⟩ := ModuleR.form hm
  have hcu : m.uses.length ≤ u1 ∧ u1 ≤ 9223372036854775807 := by
    obtain ⟨A', c', e, h1, h2, _⟩ := hu
    injection e with e1 e2 e3
    subst e3
    exact ⟨h1, by unfold maxLen at h2; omega⟩
  have hR0 : modErr m = 0 → modR m = (funsT m m.funcs.length, 0) := fun h => by unfold modR modTxt; rw [if_pos h]
  have hR1 : modErr m ≠ 0 → modR m = (⟨#[]⟩, modErr m) := fun h => by unfold modR; rw [if_neg h]
  obtain ⟨E, hE⟩ : ∃ z, modR m = z := ⟨_, rfl⟩
  rw [hE] at hR0 hR1 ⊢
  obtain ⟨z, hz⟩ : ∃ z, modErr m = z := ⟨_, rfl⟩
  rw [hz] at hck hR0 hR1
  have HU := Lib.hid hu; have HT := Lib.hid ht; have HFn := Lib.hid hf; have HCK := Lib.hid hck; have HR0 := Lib.hid hR0; have HR1 := Lib.hid hR1
  clear hu ht hf hck hR0 hR1
  clear hm hE
  go_enter Tryd.func16, Tryd.ntmps16
  go_upto_region 1 with fail
  have hBb := Box.made w 38 #[.slice U1 m.uses.length u1, .slice T1 m.types.length e1, .slice T2 m.funcs.length e2]
  have hbb : Below w.heap.size w (w.alloc (.cells #[.slice U1 m.uses.length u1, .slice T1 m.types.length e1, .slice T2 m.funcs.length e2] 38)) := by go_grown
  have hzb : (w.alloc (.cells #[.slice U1 m.uses.length u1, .slice T1 m.types.length e1, .slice T2 m.funcs.length e2] 38)).heap.size = w.heap.size + 1 := by simp
  generalize w.alloc (.cells #[.slice U1 m.uses.length u1, .slice T1 m.types.length e1, .slice T2 m.funcs.length e2] 38) = W1 at hBb hbb hzb ⊢
  have m0 := hBb.at_ 0 _ rfl
  have m1 := hBb.at_ 1 _ rfl
  have m2 := hBb.at_ 2 _ rfl
  have HB := Lib.hid hBb; have Hb := Lib.hid hbb
  clear hBb hbb
  clear hzb
  go_wp2_with fail
  refine (HCK.out _ Hb.out).mono ?_
  rintro e W2 ⟨rfl, hb2⟩
  have hB2 := HB.out.later hb2 HB.out.lt
  have hbw := Hb.out.trans (hb2.mono Hb.out.size)
  clear m0 m1 m2
  by_cases hz0 : z ≠ 0
  · have hzb : (z == 0) = false := by simp [hz0]
    have he := HR1.out hz0
    subst he
    have HBW := Lib.hid hbw
    clear hbw
    clear hB2 hb2
    go_wp2_with fail
    go_ret2
    exact ⟨rfl, HBW.out⟩
  have hz1 : z = 0 := Classical.not_not.1 hz0
  subst hz1
  obtain ⟨h24, hue, hte, hfe⟩ := mod_parts hz
  have hsu := usesT_size hz
  have hst := typesT_size hz
  have hsf := funsT_size hz
  have m0 := hB2.at_ 0 _ rfl
  have HB2 := Lib.hid hB2; have HBW := Lib.hid hbw; have H24 := Lib.hid h24; have HUE := Lib.hid hue; have HTE := Lib.hid hte; have HFE := Lib.hid hfe; have HSU := Lib.hid hsu; have HST := Lib.hid hst; have HSF := Lib.hid hsf; have HZ := Lib.hid hz
  clear hB2 hbw h24 hue hte hfe hsu hst hsf hz
  clear hb2 HB Hb HCK hz0
  have hul : m.uses.length ≤ 24 := by have := H24.out; omega
  have htl : m.types.length ≤ 24 := by have := H24.out; omega
  have hfl : m.funcs.length ≤ 24 := by have := H24.out; omega
  go_wp2_with fail
  go_loopg [5, 6] m.uses.length (fun gg s5 s6 wr => ∃ kk : Nat, kk ≤ m.uses.length ∧ m.uses.length - kk ≤ gg ∧ s6 = .int .i64 kk ∧ s5 = .string (usesT m kk) ∧ Aside (Below W2.heap.size W2 wr))
  case atStart => exact ⟨0, Nat.zero_le _, by omega, rfl, rfl, aside (Below.refl _ _)⟩
  case round =>
   obtain ⟨kk, hkk, hg, rfl, rfl, BW⟩ := hrel
   have hbw := HBW.out.trans (BW.out.mono HBW.out.size)
   have hBr := HB2.out.later BW.out HB2.out.lt
   clear m0
   have m0 := hBr.at_ 0 _ rfl
   clear hBr
   by_cases hlt : kk < m.uses.length
   · have hltz : (kk : Int) < (m.uses.length : Int) := by omega
     obtain ⟨b1, off, ds, rfl, hbF, hds, ⟨rfl, hos⟩, hcell⟩ := (HU.out.up StrR.stays hF hbw).at_ (k := kk) hlt
     have hc0 := hcell 0 _ rfl
     simp only [Nat.mul_one, Nat.add_zero] at hc0
     have hx := List.getElem?_eq_getElem hlt
     have hxm := List.getElem_mem hlt
     generalize m.uses[kk] = u at hx hxm hc0 hos hcell
     have hs := usesT_succ hx
     have hu8 := use_part (HUE.out u hxm)
     have hz1 := HSU.out kk
     unfold useLine at hs
     generalize usesT m kk = Q at hs hz1 ⊢
     have s1 : ¬ 9223372036854775807 < Q.size + 4 := by omega
     have s2 : ¬ 9223372036854775807 < Q.size + 4 + u.size := by omega
     have s3 : ¬ 9223372036854775807 < Q.size + 4 + u.size + 1 := by omega
     have hs' : Q ++ ⟨#[117, 115, 101, 32]⟩ ++ u ++ ⟨#[10]⟩ = usesT m (kk + 1) := by rw [hs]; simp only [ba_assoc]
     have HS := Lib.hid hs'
     clear hs'
     clear hs
     clear hcell hds hx hxm
     go_wp2_with fail
     go_roundg (m.uses.length - (kk + 1))
     case measure => omega
     case rel => exact ⟨kk + 1, by omega, by omega, by go_num, by rw [HS.out], aside BW.out⟩
   · have hltz : ¬ (kk : Int) < (m.uses.length : Int) := by omega
     obtain rfl : kk = m.uses.length := by omega
     obtain ⟨W3, rfl⟩ : ∃ W, W = wr := ⟨_, rfl⟩
     have hB3 := HB2.out.later BW.out HB2.out.lt
     have m1 := hB3.at_ 1 _ rfl
     rw [← typesT_zero]
     have HB3 := Lib.hid hB3; have HBW3 := Lib.hid hbw
     clear hB3 hbw
     clear BW
     go_wp2_with fail
     go_loopg [5, 7] m.types.length (fun gg s5 s7 wr => ∃ kk : Nat, kk ≤ m.types.length ∧ m.types.length - kk ≤ gg ∧ s7 = .int .i64 kk ∧ s5 = .string (typesT m kk) ∧ Aside (Below W3.heap.size W3 wr))
     case atStart => exact ⟨0, Nat.zero_le _, by omega, rfl, rfl, aside (Below.refl _ _)⟩
     case round =>
      obtain ⟨kk, hkk, hg, rfl, rfl, BW⟩ := hrel
      have hbw := HBW3.out.trans (BW.out.mono HBW3.out.size)
      have hBr := HB3.out.later BW.out HB3.out.lt
      clear m1
      have m1 := hBr.at_ 1 _ rfl
      have hBl := hBr.lt
      clear hBr
      by_cases hlt : kk < m.types.length
      · have hltz : (kk : Int) < (m.types.length : Int) := by omega
        obtain ⟨b1, off, ds, rfl, hbF, hds, hr, hcell⟩ := (HT.out.up FieldR.stays hF hbw).at_ (k := kk) hlt
        have hx := List.getElem?_eq_getElem hlt
        have hxm := List.getElem_mem hlt
        generalize m.types[kk] = x at hx hxm hr
        obtain ⟨d1, d2, d3, d4, rfl, hpn, hpt⟩ := FieldR.form hr
        obtain ⟨A4, n4, hq⟩ := TyR.form hpt
        simp only [List.cons.injEq, and_true] at hq
        obtain ⟨rfl, rfl, rfl, rfl⟩ := hq
        have hc0 := hcell 0 _ rfl
        have hc1 := hcell 1 _ rfl
        have hc2 := hcell 2 _ rfl
        have hc3 := hcell 3 _ rfl
        have hc4 := hcell 4 _ rfl
        simp only [Nat.add_zero] at hc0
        have hs := typesT_succ hx
        have hfp := field_parts (HTE.out x hxm)
        have hz1 := HST.out kk
        have hts := tyTxt_size 10 x.is_ hfp.2
        have hn8 := hfp.1
        unfold typeLine at hs
        generalize typesT m kk = Q at hs hz1 ⊢
        have htx := fun U (hU : Below wr.heap.size wr U) => typeShown_any 10 x.is_ _ F U (Nat.le_refl _) hfp.2 (TyR.stays.later hpt hU (foot_up hF hbw)) (foot_up (foot_up hF hbw) hU)
        generalize tyTxt 10 x.is_ = T at hs hts htx
        have s1 : ¬ 9223372036854775807 < Q.size + 5 := by omega
        have s2 : ¬ 9223372036854775807 < Q.size + 5 + x.name.size := by omega
        have s3 : ¬ 9223372036854775807 < Q.size + 5 + x.name.size + 3 := by omega
        have s4 : ¬ 9223372036854775807 < Q.size + 5 + x.name.size + 3 + T.size := by omega
        have s5 : ¬ 9223372036854775807 < Q.size + 5 + x.name.size + 3 + T.size + 1 := by omega
        have hs' : Q ++ ⟨#[116, 121, 112, 101, 32]⟩ ++ x.name ++ ⟨#[32, 61, 32]⟩ ++ T ++ ⟨#[10]⟩ = typesT m (kk + 1) := by rw [hs]; simp only [ba_assoc]
        have hbl := foot_up hF hbw _ hbF
        have hdr : Below wr.heap.size wr wr.drew := by go_grown
        have hb4 := BW.out
        have HS := Lib.hid hs'; have HTX := Lib.hid htx
        clear hs' htx
        clear hs hcell hds hx hxm hr hpt hfp
        have HS4 := Lib.hid (show ∀ w', Below wr.heap.size wr w' → (w'.cell? ⟨w.heap.size, 1, none⟩ = some (.slice (some ⟨b1, off, none⟩) m.types.length e1) ∧ w'.cell? ⟨b1, off + kk * 5, none⟩ = some (.string x.name) ∧ w'.cell? ⟨b1, off + kk * 5 + 1, none⟩ = some (.int .i64 x.is_.kind) ∧ w'.cell? ⟨b1, off + kk * 5 + 2, none⟩ = some (.string x.is_.of_) ∧ w'.cell? ⟨b1, off + kk * 5 + 3, none⟩ = some (.string x.is_.name) ∧ w'.cell? ⟨b1, off + kk * 5 + 4, none⟩ = some (.slice A4 x.is_.args.length n4)) from fun w' h => ⟨(h.cell (p := ⟨w.heap.size, 1, none⟩) hBl).trans m1, (h.cell (p := ⟨b1, off + kk * 5, none⟩) hbl).trans hc0, (h.cell (p := ⟨b1, off + kk * 5 + 1, none⟩) hbl).trans hc1, (h.cell (p := ⟨b1, off + kk * 5 + 2, none⟩) hbl).trans hc2, (h.cell (p := ⟨b1, off + kk * 5 + 3, none⟩) hbl).trans hc3, (h.cell (p := ⟨b1, off + kk * 5 + 4, none⟩) hbl).trans hc4⟩)
        have HBk := Lib.hid hdr; have HB4 := Lib.hid hb4
        clear hdr hb4
        go_upto_region 12 with fail
        clear hc0 hc1 hc2 hc3 hc4 m1
        go_region_held3 (fun w' => w'.cell? ⟨w.heap.size, 1, none⟩ = some (.slice (some ⟨b1, off, none⟩) m.types.length e1) ∧ w'.cell? ⟨b1, off + kk * 5, none⟩ = some (.string x.name) ∧ w'.cell? ⟨b1, off + kk * 5 + 1, none⟩ = some (.int .i64 x.is_.kind) ∧ w'.cell? ⟨b1, off + kk * 5 + 2, none⟩ = some (.string x.is_.of_) ∧ w'.cell? ⟨b1, off + kk * 5 + 3, none⟩ = some (.string x.is_.name) ∧ w'.cell? ⟨b1, off + kk * 5 + 4, none⟩ = some (.slice A4 x.is_.args.length n4))
          (exact HS4.out _ (by first | exact HBk.out | exact HBk.out.alloc HBk.out.size _ | (go_grown; done) | exact (HBk.out.alloc HBk.out.size _).alloc (HBk.out.alloc HBk.out.size _).size _))
          ((go_at_call 35; (with_reducible refine (HTX.out _ HBk.out).mono ?_); rintro e w7 ⟨rfl, hb7⟩; have hb8 := below_step HBk.out hb7; have HBk := Lib.hid hb8; clear hb7 hb8))
        all_goals
          go_wp2_with fail
          go_roundg (m.types.length - (kk + 1))
          case measure => omega
          case rel => exact ⟨kk + 1, by omega, by omega, by go_num, by rw [HS.out], aside (HB4.out.trans (HBk.out.mono HB4.out.size))⟩
      · have hltz : ¬ (kk : Int) < (m.types.length : Int) := by omega
        obtain rfl : kk = m.types.length := by omega
        obtain ⟨W5, rfl⟩ : ∃ W, W = wr := ⟨_, rfl⟩
        have hB5 := HB3.out.later BW.out HB3.out.lt
        have m2 := hB5.at_ 2 _ rfl
        rw [← funsT_zero]
        have HB5 := Lib.hid hB5; have HBW5 := Lib.hid hbw
        clear hB5 hbw
        clear BW
        go_wp2_with fail
        go_loopg [5, 8, 9, 10] m.funcs.length (fun gg s5 s8 s9 s10 wr => ∃ kk : Nat, kk ≤ m.funcs.length ∧ m.funcs.length - kk ≤ gg ∧ s8 = .int .i64 kk ∧ s5 = .string (funsT m kk) ∧ Aside (Below W5.heap.size W5 wr))
        case atStart => exact ⟨0, Nat.zero_le _, by omega, rfl, rfl, aside (Below.refl _ _)⟩
        case round =>
         obtain ⟨kk, hkk, hg, rfl, rfl, BW⟩ := hrel
         obtain ⟨WRO, rfl⟩ : ∃ W, W = wr := ⟨_, rfl⟩
         have hbw := HBW5.out.trans (BW.out.mono HBW5.out.size)
         have hBr := HB5.out.later BW.out HB5.out.lt
         clear m2
         have m2 := hBr.at_ 2 _ rfl
         clear hBr
         by_cases hlt : kk < m.funcs.length
         · have hltz : (kk : Int) < (m.funcs.length : Int) := by omega
           obtain ⟨b1, off, ds, rfl, hbF, hds, hr, hcell⟩ := (HFn.out.up FuncR.stays hF hbw).at_ (k := kk) hlt
           have hx := List.getElem?_eq_getElem hlt
           have hxm := List.getElem_mem hlt
           generalize m.funcs[kk] = p at hx hxm hr
           obtain ⟨P1, p1, a1, a2, a3, a4, c1, c2, c3, c4, c5, rfl, hn0, hv0, hPp, hR, hX⟩ := FuncR.form hr
           obtain ⟨A8, n8, hq⟩ := TyR.form hR
           simp only [List.cons.injEq, and_true] at hq
           obtain ⟨rfl, rfl, rfl, rfl⟩ := hq
           obtain ⟨A9, n9, hq⟩ := ExR.form hX
           simp only [List.cons.injEq, and_true] at hq
           obtain ⟨rfl, rfl, rfl, rfl, rfl⟩ := hq
           have hc0 := hcell 0 _ rfl
           have hc1 := hcell 1 _ rfl
           have hc2 := hcell 2 _ rfl
           have hc3 := hcell 3 _ rfl
           have hc4 := hcell 4 _ rfl
           have hc5 := hcell 5 _ rfl
           have hc6 := hcell 6 _ rfl
           have hc7 := hcell 7 _ rfl
           have hc8 := hcell 8 _ rfl
           have hc9 := hcell 9 _ rfl
           have hc10 := hcell 10 _ rfl
           have hc11 := hcell 11 _ rfl
           simp only [Nat.add_zero] at hc0
           have hs := funsT_succ hx
           obtain ⟨hn8, hv8, hp8, hpe, hre, hbe⟩ := fun_parts (HFE.out p hxm)
           have hz1 := HSF.out kk
           have z2 := varTxt_size hv8
           have z3 := fun j => pars_size hpe hp8 j
           have z3a := z3 p.params.length
           rw [List.take_length] at z3a
           have z4 := tyTxt_size 10 p.result hre
           have z5 := exTxt_size 10 p.body hbe
           rw [exMax_ten] at z5
           have hrt := fun U (hU : Below WRO.heap.size WRO U) => typeShown_any 10 p.result _ F U (Nat.le_refl _) hre (TyR.stays.later hR hU (foot_up hF hbw)) (foot_up (foot_up hF hbw) hU)
           have hbt := fun U (hU : Below WRO.heap.size WRO U) => exprShown_any 10 (Nat.le_refl _) p.body _ F U hbe (ExR.stays.later hX hU (foot_up hF hbw)) (foot_up (foot_up hF hbw) hU)
           have hpt := fun (q : Field) (hq : fieldErr q = 0) cs U (hU : Below WRO.heap.size WRO U) (hr : TyR U F cs q.is_) => typeShown_any 10 q.is_ cs F U (Nat.le_refl _) (field_parts hq).2 hr (foot_up (foot_up hF hbw) hU)
           have hvt : varTxt p.var_ = if p.var_.size = 0 then ⟨#[]⟩ else ⟨#[60]⟩ ++ p.var_ ++ ⟨#[62]⟩ := rfl
           unfold funLine at hs
           generalize funsT m kk = Q at hs hz1 ⊢
           generalize tyTxt 10 p.result = R at hs z4 hrt
           generalize exTxt 10 p.body = X at hs z5 hbt
           generalize varTxt p.var_ = V at hs z2 hvt
           have hmt : ∀ j, (p.params.take j).map parLine = (p.params.map parLine).take j := fun j => by rw [List.map_take]
           have z3 := fun j => by have h := z3 j; rw [hmt] at h; exact h
           obtain ⟨J, hJ⟩ : ∃ z, joined (p.params.map parLine) = z := ⟨_, rfl⟩
           rw [hJ] at hs z3a
           obtain ⟨H, hH⟩ : ∃ z, Q ++ ⟨#[102, 117, 110, 99, 32]⟩ ++ p.name ++ V ++ ⟨#[40]⟩ = z := ⟨_, rfl⟩
           have hHs : H.size = Q.size + 5 + p.name.size + V.size + 1 := by rw [← hH, ba_app_size, ba_app_size, ba_app_size, ba_app_size]; rfl
           have hs' : H ++ J ++ ⟨#[41, 58, 32]⟩ ++ R ++ ⟨#[32, 61, 32]⟩ ++ X ++ ⟨#[10]⟩ = funsT m (kk + 1) := by rw [hs, ← hH]; simp only [ba_assoc]
           obtain ⟨zv, hzv⟩ : ∃ z, p.var_.toList.isEmpty = z := ⟨_, rfl⟩
           have HS := Lib.hid hs'; have HRT := Lib.hid hrt; have HBT := Lib.hid hbt; have HPT := Lib.hid hpt; have HPE := Lib.hid hpe; have HJ := Lib.hid hJ; have HVT := Lib.hid hvt; have HPP := Lib.hid hPp; have HBW6 := Lib.hid hbw; have HZ3 := Lib.hid z3; have HH := Lib.hid hH; have HHs := Lib.hid hHs
           clear hs' hrt hbt hpt hpe hJ hvt hPp hbw z3 hH hHs
           clear hs z3 hmt hcell hds hx hxm hr hR hX hre hbe hn0 hv0
           go_upto_region 17 with fail
           have hBf := Box.made WRO 67 #[.string p.name, .string p.var_, .slice P1 p.params.length p1, .int .i64 p.result.kind, .string p.result.of_, .string p.result.name, .slice A8 p.result.args.length n8, .int .i64 p.body.kind, .int .i64 p.body.n, .string p.body.of_, .string p.body.s, .slice A9 p.body.args.length n9]
           have hbf : Below WRO.heap.size WRO (WRO.alloc (.cells #[.string p.name, .string p.var_, .slice P1 p.params.length p1, .int .i64 p.result.kind, .string p.result.of_, .string p.result.name, .slice A8 p.result.args.length n8, .int .i64 p.body.kind, .int .i64 p.body.n, .string p.body.of_, .string p.body.s, .slice A9 p.body.args.length n9] 67)) := by go_grown
           have hzf : (WRO.alloc (.cells #[.string p.name, .string p.var_, .slice P1 p.params.length p1, .int .i64 p.result.kind, .string p.result.of_, .string p.result.name, .slice A8 p.result.args.length n8, .int .i64 p.body.kind, .int .i64 p.body.n, .string p.body.of_, .string p.body.s, .slice A9 p.body.args.length n9] 67)).heap.size = WRO.heap.size + 1 := by simp
           generalize WRO.alloc (.cells #[.string p.name, .string p.var_, .slice P1 p.params.length p1, .int .i64 p.result.kind, .string p.result.of_, .string p.result.name, .slice A8 p.result.args.length n8, .int .i64 p.body.kind, .int .i64 p.body.n, .string p.body.of_, .string p.body.s, .slice A9 p.body.args.length n9] 67) = W6 at hBf hbf hzf ⊢
           clear hc0 hc1 hc2 hc3 hc4 hc5 hc6 hc7 hc8 hc9 hc10 hc11 hzf m2
           have f0 := hBf.at_ 0 _ rfl
           have f1 := hBf.at_ 1 _ rfl
           have r1 : ¬ 9223372036854775807 < Q.size + 5 := by omega
           have r2 : ¬ 9223372036854775807 < Q.size + 5 + p.name.size := by omega
           go_upto_if 77 with (fail)
           go_cut [5] (fun s5 wc => s5 = .string (Q ++ ⟨#[102, 117, 110, 99, 32]⟩ ++ p.name ++ V) ∧ Aside (wc = W6))
           case first =>
             cases zv with
             | true =>
               have hV : V = ⟨#[]⟩ := by rw [HVT.out, if_pos (size_zero hzv)]
               subst hV
               go_wp2_with fail
               go_meet
               exact ⟨by rw [ba_app_nil], aside rfl⟩
             | false =>
               have hV : V = ⟨#[60]⟩ ++ p.var_ ++ ⟨#[62]⟩ := by rw [HVT.out, if_neg (size_pos hzv)]
               subst hV
               have t1 : ¬ 9223372036854775807 < Q.size + 5 + p.name.size + 1 := by omega
               have t2 : ¬ 9223372036854775807 < Q.size + 5 + p.name.size + 1 + p.var_.size := by omega
               have t3 : ¬ 9223372036854775807 < Q.size + 5 + p.name.size + 1 + p.var_.size + 1 := by omega
               clear z2
               go_wp2_with fail
               go_meet
               exact ⟨by simp only [ba_assoc], aside rfl⟩
           case rest =>
           obtain ⟨rfl, hwc⟩ := hcut
           obtain rfl := hwc.out
           have f2 := hBf.at_ 2 _ rfl
           have hfl2 := hBf.lt
           have hb6 := BW.out.trans (hbf.mono BW.out.size)
           have HBf := Lib.hid hBf; have Hbf := Lib.hid hbf; have HB6 := Lib.hid hb6
           clear hBf hbf hb6
           clear f0 f1 hzv hwc HVT BW
           have r3 : ¬ 9223372036854775807 < Q.size + 5 + p.name.size + V.size + 1 := by omega
           go_wp2_with fail
           rw [HH.out]
           go_loopg [5, 10] p.params.length (fun gg s5 s10 wr => ∃ jj : Nat, jj ≤ p.params.length ∧ p.params.length - jj ≤ gg ∧ s10 = .int .i64 jj ∧ s5 = .string (H ++ joined ((p.params.map parLine).take jj)) ∧ Aside (Below wc.heap.size wc wr))
           case atStart => exact ⟨0, Nat.zero_le _, by omega, rfl, by rw [List.take_zero]; exact congrArg Value.string (ba_app_nil _).symm, aside (Below.refl _ _)⟩
           case round =>
             obtain ⟨jj, hjj, hg2, rfl, rfl, BW⟩ := hrel
             have hwr := below_step Hbf.out BW.out
             have hBr := HBf.out.later BW.out HBf.out.lt
             have hBl := hBr.lt
             clear f2
             have f2 := hBr.at_ 2 _ rfl
             clear hBr
             have hJk := HZ3.out jj
             have hHs := HHs.out
             by_cases hlt2 : jj < p.params.length
             · have hltz2 : (jj : Int) < (p.params.length : Int) := by omega
               have hbw7 := HBW6.out.trans (hwr.mono HBW6.out.size)
               obtain ⟨b2, off2, ds, rfl, hbF2, hds, hr, hcell⟩ := (HPP.out.up FieldR.stays (foot_up hF HBW6.out) hwr).at_ (k := jj) hlt2
               have hx := List.getElem?_eq_getElem hlt2
               have hxm := List.getElem_mem hlt2
               generalize p.params[jj] = q at hx hxm hr
               obtain ⟨d1, d2, d3, d4, rfl, hqn, hqt⟩ := FieldR.form hr
               obtain ⟨A4, n4, hq⟩ := TyR.form hqt
               simp only [List.cons.injEq, and_true] at hq
               obtain ⟨rfl, rfl, rfl, rfl⟩ := hq
               have hc0 := hcell 0 _ rfl
               have hc1 := hcell 1 _ rfl
               have hc2 := hcell 2 _ rfl
               have hc3 := hcell 3 _ rfl
               have hc4 := hcell 4 _ rfl
               simp only [Nat.add_zero] at hc0
               have hfe := HPE.out q hxm
               have hfp := field_parts hfe
               have hq8 := hfp.1
               have y4 := tyTxt_size 10 q.is_ hfp.2
               have htx := fun U (hU : Below wr.heap.size wr U) => HPT.out q hfe _ U (below_step hwr hU) (TyR.stays.later hqt hU (foot_up hF hbw7))
               have hpl : parLine q = q.name ++ ⟨#[58, 32]⟩ ++ tyTxt 10 q.is_ := rfl
               generalize tyTxt 10 q.is_ = T at hpl y4 htx
               have hmx2 : (p.params.map parLine)[jj]? = some (q.name ++ ⟨#[58, 32]⟩ ++ T) := by rw [List.getElem?_map, hx]; exact congrArg some hpl
               obtain ⟨Jk, hJke⟩ : ∃ z, joined ((p.params.map parLine).take jj) = z := ⟨_, rfl⟩
               rw [hJke] at hJk
               rw [hJke]
               have hbl := foot_up hF hbw7 _ hbF2
               have hdr : Below wr.heap.size wr wr.drew := by go_grown
               have hb7 := BW.out
               have HS4 := Lib.hid (show ∀ w', Below wr.heap.size wr w' → (w'.cell? ⟨WRO.heap.size, 2, none⟩ = some (.slice (some ⟨b2, off2, none⟩) p.params.length p1) ∧ w'.cell? ⟨b2, off2 + jj * 5, none⟩ = some (.string q.name) ∧ w'.cell? ⟨b2, off2 + jj * 5 + 1, none⟩ = some (.int .i64 q.is_.kind) ∧ w'.cell? ⟨b2, off2 + jj * 5 + 2, none⟩ = some (.string q.is_.of_) ∧ w'.cell? ⟨b2, off2 + jj * 5 + 3, none⟩ = some (.string q.is_.name) ∧ w'.cell? ⟨b2, off2 + jj * 5 + 4, none⟩ = some (.slice A4 q.is_.args.length n4)) from fun w' h => ⟨(h.cell (p := ⟨WRO.heap.size, 2, none⟩) hBl).trans f2, (h.cell (p := ⟨b2, off2 + jj * 5, none⟩) hbl).trans hc0, (h.cell (p := ⟨b2, off2 + jj * 5 + 1, none⟩) hbl).trans hc1, (h.cell (p := ⟨b2, off2 + jj * 5 + 2, none⟩) hbl).trans hc2, (h.cell (p := ⟨b2, off2 + jj * 5 + 3, none⟩) hbl).trans hc3, (h.cell (p := ⟨b2, off2 + jj * 5 + 4, none⟩) hbl).trans hc4⟩)
               obtain ⟨Z, hZd⟩ : ∃ z, (if jj = 0 then H ++ Jk else H ++ Jk ++ ⟨#[44, 32]⟩) = z := ⟨_, rfl⟩
               have hZe : Z ++ q.name ++ ⟨#[58, 32]⟩ ++ T = H ++ joined ((p.params.map parLine).take (jj + 1)) := by
                 rw [← hZd]
                 by_cases h0 : jj = 0
                 · subst h0
                   rw [if_pos rfl, joined_first hmx2, ← hJke, List.take_zero]
                   rw [show joined [] = ⟨#[]⟩ from rfl, ba_app_nil]
                   simp only [ba_assoc]
                 · rw [if_neg h0, joined_take hmx2 (by omega), hJke]
                   simp only [ba_assoc]
               have hZs : Z.size ≤ H.size + 498 := by
                 rw [← hZd]
                 by_cases h0 : jj = 0
                 · rw [if_pos h0, ba_app_size]; omega
                 · rw [if_neg h0, ba_app_size, ba_app_size]; show H.size + Jk.size + 2 ≤ _; omega
               have HTX := Lib.hid htx; have HBk := Lib.hid hdr; have HB7 := Lib.hid hb7; have HZe := Lib.hid hZe
               clear htx hdr hb7 hZe
               have s1 : ¬ 9223372036854775807 < Z.size + q.name.size := by omega
               have s2 : ¬ 9223372036854775807 < Z.size + q.name.size + 2 := by omega
               have s3 : ¬ 9223372036854775807 < Z.size + q.name.size + 2 + T.size := by omega
               have t1 : ¬ 9223372036854775807 < H.size + Jk.size + 2 := by omega
               clear hHs
               clear hcell hds hx hxm hr hqt hfp hpl hmx2 hJke hc0 hc1 hc2 hc3 hc4
               go_upto_if 94 with (fail)
               go_cut [5] (fun s5 wd => s5 = .string Z ∧ Aside (wd = wr))
               case first =>
                 by_cases h0 : jj = 0
                 · have h0z : ¬ (0 : Int) < (jj : Int) := by omega
                   rw [if_pos h0] at hZd
                   subst hZd
                   clear h0
                   go_wp2_with fail
                   go_meet
                   exact ⟨rfl, aside rfl⟩
                 · have h0z : (0 : Int) < (jj : Int) := by omega
                   rw [if_neg h0] at hZd
                   subst hZd
                   clear h0
                   go_wp2_with fail
                   go_meet
                   exact ⟨rfl, aside rfl⟩
               case rest =>
               obtain ⟨rfl, hwd⟩ := hcut
               obtain rfl := hwd.out
               clear hwd hZd f2
               go_upto_region 26 with fail
               go_region_held3 (fun w' => w'.cell? ⟨WRO.heap.size, 2, none⟩ = some (.slice (some ⟨b2, off2, none⟩) p.params.length p1) ∧ w'.cell? ⟨b2, off2 + jj * 5, none⟩ = some (.string q.name) ∧ w'.cell? ⟨b2, off2 + jj * 5 + 1, none⟩ = some (.int .i64 q.is_.kind) ∧ w'.cell? ⟨b2, off2 + jj * 5 + 2, none⟩ = some (.string q.is_.of_) ∧ w'.cell? ⟨b2, off2 + jj * 5 + 3, none⟩ = some (.string q.is_.name) ∧ w'.cell? ⟨b2, off2 + jj * 5 + 4, none⟩ = some (.slice A4 q.is_.args.length n4))
                 (exact HS4.out _ (by first | exact HBk.out | exact HBk.out.alloc HBk.out.size _ | (go_grown; done) | exact (HBk.out.alloc HBk.out.size _).alloc (HBk.out.alloc HBk.out.size _).size _))
                 ((go_at_call 35; (with_reducible refine (HTX.out _ HBk.out).mono ?_); rintro e w7 ⟨rfl, hb9⟩; have hb8 := below_step HBk.out hb9; have HBk := Lib.hid hb8; clear hb8 hb9))
               all_goals
                 go_wp2_with fail
                 go_roundg (p.params.length - (jj + 1))
                 case measure => omega
                 case rel => exact ⟨jj + 1, by omega, by omega, by go_num, by rw [HZe.out], aside (HB7.out.trans (HBk.out.mono HB7.out.size))⟩
             · have hltz2 : ¬ (jj : Int) < (p.params.length : Int) := by omega
               obtain rfl : jj = p.params.length := by omega
               obtain ⟨W7, rfl⟩ : ∃ W, W = wr := ⟨_, rfl⟩
               have hLJ : joined ((p.params.map parLine).take p.params.length) = J := by rw [List.take_of_length_le (by simp)]; exact HJ.out
               rw [hLJ]
               have hrt := fun U (hU : Below W7.heap.size W7 U) => HRT.out U (below_step hwr hU)
               have hbt := fun U (hU : Below W7.heap.size W7 U) => HBT.out U (below_step hwr hU)
               have hB7 := HBf.out.later BW.out HBf.out.lt
               have hb7 := HB6.out.trans (BW.out.mono HB6.out.size)
               have f3 := hB7.at_ 3 _ rfl
               have f4 := hB7.at_ 4 _ rfl
               have f5 := hB7.at_ 5 _ rfl
               have f6 := hB7.at_ 6 _ rfl
               have f7 := hB7.at_ 7 _ rfl
               have f8 := hB7.at_ 8 _ rfl
               have f9 := hB7.at_ 9 _ rfl
               have f10 := hB7.at_ 10 _ rfl
               have f11 := hB7.at_ 11 _ rfl
               have hqq := hB7.lt
               have hdr : Below W7.heap.size W7 W7.drew := by go_grown
               have HS4 := Lib.hid (show ∀ w', Below W7.heap.size W7 w' → (w'.cell? ⟨WRO.heap.size, 3, none⟩ = some (.int .i64 p.result.kind) ∧ w'.cell? ⟨WRO.heap.size, 4, none⟩ = some (.string p.result.of_) ∧ w'.cell? ⟨WRO.heap.size, 5, none⟩ = some (.string p.result.name) ∧ w'.cell? ⟨WRO.heap.size, 6, none⟩ = some (.slice A8 p.result.args.length n8) ∧ w'.cell? ⟨WRO.heap.size, 7, none⟩ = some (.int .i64 p.body.kind) ∧ w'.cell? ⟨WRO.heap.size, 8, none⟩ = some (.int .i64 p.body.n) ∧ w'.cell? ⟨WRO.heap.size, 9, none⟩ = some (.string p.body.of_) ∧ w'.cell? ⟨WRO.heap.size, 10, none⟩ = some (.string p.body.s) ∧ w'.cell? ⟨WRO.heap.size, 11, none⟩ = some (.slice A9 p.body.args.length n9)) from fun w' h => ⟨(h.cell (p := ⟨WRO.heap.size, 3, none⟩) hqq).trans f3, (h.cell (p := ⟨WRO.heap.size, 4, none⟩) hqq).trans f4, (h.cell (p := ⟨WRO.heap.size, 5, none⟩) hqq).trans f5, (h.cell (p := ⟨WRO.heap.size, 6, none⟩) hqq).trans f6, (h.cell (p := ⟨WRO.heap.size, 7, none⟩) hqq).trans f7, (h.cell (p := ⟨WRO.heap.size, 8, none⟩) hqq).trans f8, (h.cell (p := ⟨WRO.heap.size, 9, none⟩) hqq).trans f9, (h.cell (p := ⟨WRO.heap.size, 10, none⟩) hqq).trans f10, (h.cell (p := ⟨WRO.heap.size, 11, none⟩) hqq).trans f11⟩)
               have s1 : ¬ 9223372036854775807 < H.size + J.size + 3 := by omega
               have s2 : ¬ 9223372036854775807 < H.size + J.size + 3 + R.size := by omega
               have s3 : ¬ 9223372036854775807 < H.size + J.size + 3 + R.size + 3 := by omega
               have s4 : ¬ 9223372036854775807 < H.size + J.size + 3 + R.size + 3 + X.size := by omega
               have s5 : ¬ 9223372036854775807 < H.size + J.size + 3 + R.size + 3 + X.size + 1 := by omega
               have HRT7 := Lib.hid hrt; have HBT7 := Lib.hid hbt; have HBk := Lib.hid hdr; have HB7 := Lib.hid hb7
               clear hrt hbt hdr hb7
               clear hLJ hHs hB7 f3 f4 f5 f6 f7 f8 f9 f10 f11
               go_upto_region 27 with fail
               go_region_held3 (fun w' => w'.cell? ⟨WRO.heap.size, 3, none⟩ = some (.int .i64 p.result.kind) ∧ w'.cell? ⟨WRO.heap.size, 4, none⟩ = some (.string p.result.of_) ∧ w'.cell? ⟨WRO.heap.size, 5, none⟩ = some (.string p.result.name) ∧ w'.cell? ⟨WRO.heap.size, 6, none⟩ = some (.slice A8 p.result.args.length n8) ∧ w'.cell? ⟨WRO.heap.size, 7, none⟩ = some (.int .i64 p.body.kind) ∧ w'.cell? ⟨WRO.heap.size, 8, none⟩ = some (.int .i64 p.body.n) ∧ w'.cell? ⟨WRO.heap.size, 9, none⟩ = some (.string p.body.of_) ∧ w'.cell? ⟨WRO.heap.size, 10, none⟩ = some (.string p.body.s) ∧ w'.cell? ⟨WRO.heap.size, 11, none⟩ = some (.slice A9 p.body.args.length n9))
                 (exact HS4.out _ (by first | exact HBk.out | exact HBk.out.alloc HBk.out.size _ | (go_grown; done) | exact (HBk.out.alloc HBk.out.size _).alloc (HBk.out.alloc HBk.out.size _).size _))
                 (first
                   | ((go_at_call 35; (with_reducible refine (HRT7.out _ HBk.out).mono ?_); rintro e w7 ⟨rfl, hb9⟩; have hb8 := below_step HBk.out hb9; have HBk := Lib.hid hb8; clear hb8 hb9))
                   | ((go_at_call 36; (with_reducible refine (HBT7.out _ HBk.out).mono ?_); rintro e w7 ⟨rfl, hb9⟩; have hb8 := below_step HBk.out hb9; have HBk := Lib.hid hb8; clear hb8 hb9)))
               all_goals
                 go_wp2_with fail
                 go_roundg (m.funcs.length - (kk + 1))
                 case measure => omega
                 case rel => exact ⟨kk + 1, by omega, by omega, by go_num, by rw [HS.out], aside (HB7.out.trans (HBk.out.mono HB7.out.size))⟩
         · have hltz : ¬ (kk : Int) < (m.funcs.length : Int) := by omega
           obtain rfl : kk = m.funcs.length := by omega
           have he := HR0.out (by first | rfl | trivial)
           have HBWE := Lib.hid hbw; have HEE := Lib.hid he
           clear hbw he
           clear BW
           go_wp2_with fail
           go_ret2
           exact ⟨by rw [HEE.out]; rfl, HBWE.out⟩

end Go.Proofs.YtoejhgbndehaiaaDoor
