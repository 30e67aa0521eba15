/- A module as text: tree.Show. -/
import Derived.Test.YtoejhgbndehaiaaDoorModTxt
import Derived.Test.YtoejhgbndehaiaaDoorExprTxt
import Derived.Test.YtoejhgbndehaiaaDoorTreeChk4
import Derived.Deep.RegionHeld3
namespace Go.Proofs.YtoejhgbndehaiaaDoor
open Go.RowKit Go.Shelf

/-- What is known after a list of the function's own, made from block c on, has grown: what lay below c, and block n, are as they were. -/
structure Aft (c n : Nat) (W w : World) : Prop where
  below : Below c W w
  cell : w.heap[n]? = W.heap[n]?
  low : c ≤ W.heap.size
  lt : n < W.heap.size

section
variable {c n : Nat} {W a b : World}
theorem Aft.of (h : Below W.heap.size W a) (hc : c ≤ W.heap.size) (hn : n < W.heap.size) : Aft c n W a := ⟨h.mono hc, h.block n hn, hc, hn⟩
theorem Aft.size (h : Aft c n W a) : W.heap.size ≤ a.heap.size := h.below.size
theorem Aft.alloc (h : Aft c n W a) (_ : W.heap.size ≤ a.heap.size) (o : Obj) : Aft c n W (a.alloc o) :=
  ⟨h.below.alloc (Nat.le_trans h.low h.size) o, (Below.heap_alloc a o n (Nat.lt_of_lt_of_le h.lt h.size)).trans h.cell, h.low, h.lt⟩
theorem Aft.push {row : Option Nat} (h : Aft c n W a) (g : Grew c a b row) (hr : row ≠ some n) : Aft c n W b :=
  ⟨h.below.trans (g.below (Nat.le_refl _) (Nat.le_trans h.low h.size)), (g.block n (Nat.lt_of_lt_of_le h.lt h.size) (fun e => hr e.symm)).trans h.cell, h.low, h.lt⟩
theorem Aft.cellAt (h : Aft c n W a) {p : Addr} (hp : p.block = n) : a.cell? p = W.cell? p := by
  subst hp
  simp [World.cell?, h.cell]
end

set_option maxRecDepth 100000 in
set_option maxHeartbeats 16000000 in
theorem treeShow_any (m : Module) (cs : List Value) (F : Foot) (w : World) (hF : ∀ k, F k → k < w.heap.size) (hm : ModuleR w F cs m) (hP : Pow w) :
    Calls Tryd.prog 15 #[.agg cs.toArray] w fun e w' => e = .returned (.tuple #[.string (modR m).1, .int .i64 (modR m).2]) ∧ Below w.heap.size w w' := by
  have hck := fun U (hU : Below w.heap.size w U) => treeCheck_any m cs F U (foot_up hF hU) (ModuleR.stays.later hm hU hF)
  obtain ⟨U1, u1, T1, e1, T2, e2, rfl, hu, ht, hf⟩ := ModuleR.form hm
  have hcu : m.uses.length ≤ u1 ∧ u1 ≤ 9223372036854775807 := by
    obtain ⟨A', c', e, h1, h2, _⟩ := hu
    injection e with e1 e2 e3
    subst e3
    exact ⟨h1, by unfold maxLen at h2; omega⟩
  have hR0 : modErr m = 0 → modR m = (funsT m m.funcs.length, 0) := fun h => by unfold modR modTxt; rw [if_pos h]
  have hR1 : modErr m ≠ 0 → modR m = (⟨#[]⟩, modErr m) := fun h => by unfold modR; rw [if_neg h]
  obtain ⟨E, hE⟩ : ∃ z, modR m = z := ⟨_, rfl⟩
  rw [hE] at hR0 hR1 ⊢
  obtain ⟨z, hz⟩ : ∃ z, modErr m = z := ⟨_, rfl⟩
  rw [hz] at hck hR0 hR1
  have HU := Lib.hid hu; have HT := Lib.hid ht; have HFn := Lib.hid hf; have HCK := Lib.hid hck; have HP := Lib.hid hP; have HR0 := Lib.hid hR0; have HR1 := Lib.hid hR1
  clear hu ht hf hck hP hR0 hR1
  clear hm hE
  go_enter Tryd.func15, Tryd.ntmps15
  go_upto_region 1 with fail
  have hBb := Box.made w 38 #[.slice U1 m.uses.length u1, .slice T1 m.types.length e1, .slice T2 m.funcs.length e2]
  have hbb : Below w.heap.size w (w.alloc (.cells #[.slice U1 m.uses.length u1, .slice T1 m.types.length e1, .slice T2 m.funcs.length e2] 38)) := by go_grown
  have hzb : (w.alloc (.cells #[.slice U1 m.uses.length u1, .slice T1 m.types.length e1, .slice T2 m.funcs.length e2] 38)).heap.size = w.heap.size + 1 := by simp
  generalize w.alloc (.cells #[.slice U1 m.uses.length u1, .slice T1 m.types.length e1, .slice T2 m.funcs.length e2] 38) = W1 at hBb hbb hzb ⊢
  have m0 := hBb.at_ 0 _ rfl
  have m1 := hBb.at_ 1 _ rfl
  have m2 := hBb.at_ 2 _ rfl
  have HB := Lib.hid hBb; have Hb := Lib.hid hbb
  clear hBb hbb
  clear hzb
  go_wp2_with fail
  refine (HCK.out _ Hb.out).mono ?_
  rintro e W2 ⟨rfl, hb2⟩
  have hB2 := HB.out.later hb2 HB.out.lt
  have hbw := Hb.out.trans (hb2.mono Hb.out.size)
  clear m0 m1 m2
  by_cases hz0 : z ≠ 0
  · have hzb : (z == 0) = false := by simp [hz0]
    have he := HR1.out hz0
    subst he
    have HBW := Lib.hid hbw
    clear hbw
    clear hB2 hb2
    go_wp2_with fail
    go_ret2
    exact ⟨rfl, HBW.out⟩
  have hz1 : z = 0 := Classical.not_not.1 hz0
  subst hz1
  obtain ⟨h24, hue, hte, hfe⟩ := mod_parts hz
  have hsu := usesT_size hz
  have hst := typesT_size hz
  have hsf := funsT_size hz
  have m0 := hB2.at_ 0 _ rfl
  have HB2 := Lib.hid hB2; have HBW := Lib.hid hbw; have H24 := Lib.hid h24; have HUE := Lib.hid hue; have HTE := Lib.hid hte; have HFE := Lib.hid hfe; have HSU := Lib.hid hsu; have HST := Lib.hid hst; have HSF := Lib.hid hsf; have HZ := Lib.hid hz
  clear hB2 hbw h24 hue hte hfe hsu hst hsf hz
  clear hb2 HB Hb HCK hz0
  have hul : m.uses.length ≤ 24 := by have := H24.out; omega
  have htl : m.types.length ≤ 24 := by have := H24.out; omega
  have hfl : m.funcs.length ≤ 24 := by have := H24.out; omega
  go_wp2_with fail
  go_loopg [5, 7, 24] m.uses.length (fun gg s5 s7 s24 wr => ∃ kk : Nat, kk ≤ m.uses.length ∧ m.uses.length - kk ≤ gg ∧ s24 = .int .i64 kk ∧ s5 = .string (usesT m kk) ∧ Aside (Below W2.heap.size W2 wr))
  case atStart => exact ⟨0, Nat.zero_le _, by omega, rfl, rfl, aside (Below.refl _ _)⟩
  case round =>
   obtain ⟨kk, hkk, hg, rfl, rfl, BW⟩ := hrel
   have hbw := HBW.out.trans (BW.out.mono HBW.out.size)
   clear m0
   by_cases hlt : kk < m.uses.length
   · have hltz : (kk : Int) < (m.uses.length : Int) := by omega
     obtain ⟨b1, off, ds, rfl, hbF, hds, ⟨rfl, hos⟩, hcell⟩ := (HU.out.up StrR.stays hF hbw).at_ (k := kk) hlt
     have hc0 := hcell 0 _ rfl
     simp only [Nat.mul_one, Nat.add_zero] at hc0
     have hx := List.getElem?_eq_getElem hlt
     have hxm := List.getElem_mem hlt
     generalize m.uses[kk] = u at hx hxm hc0 hos hcell
     have hs := usesT_succ hx
     have hu8 := use_part (HUE.out u hxm)
     have hz1 := HSU.out kk
     unfold useLine at hs
     generalize usesT m kk = Q at hs hz1 ⊢
     have s1 : ¬ 9223372036854775807 < 4 + u.size := by omega
     have s2 : ¬ 9223372036854775807 < 4 + u.size + 1 := by omega
     have s3 : ¬ 9223372036854775807 < Q.size + (4 + u.size + 1) := by omega
     have HS := Lib.hid hs
     clear hs
     clear hcell hds hx hxm
     go_wp2_with fail
     go_roundg (m.uses.length - (kk + 1))
     case measure => omega
     case rel => exact ⟨kk + 1, by omega, by omega, by go_num, by rw [HS.out], aside BW.out⟩
   · have hltz : ¬ (kk : Int) < (m.uses.length : Int) := by omega
     obtain rfl : kk = m.uses.length := by omega
     obtain ⟨W3, rfl⟩ : ∃ W, W = wr := ⟨_, rfl⟩
     have hB3 := HB2.out.later BW.out HB2.out.lt
     have m1 := hB3.at_ 1 _ rfl
     rw [← typesT_zero]
     have HB3 := Lib.hid hB3; have HBW3 := Lib.hid hbw
     clear hB3 hbw
     clear BW
     go_wp2_with fail
     go_loopg [5, 9, 37] m.types.length (fun gg s5 s9 s37 wr => ∃ kk : Nat, kk ≤ m.types.length ∧ m.types.length - kk ≤ gg ∧ s37 = .int .i64 kk ∧ s5 = .string (typesT m kk) ∧ Aside (Below W3.heap.size W3 wr))
     case atStart => exact ⟨0, Nat.zero_le _, by omega, rfl, rfl, aside (Below.refl _ _)⟩
     case round =>
      obtain ⟨kk, hkk, hg, rfl, rfl, BW⟩ := hrel
      have hbw := HBW3.out.trans (BW.out.mono HBW3.out.size)
      clear m1
      by_cases hlt : kk < m.types.length
      · have hltz : (kk : Int) < (m.types.length : Int) := by omega
        obtain ⟨b1, off, ds, rfl, hbF, hds, hr, hcell⟩ := (HT.out.up FieldR.stays hF hbw).at_ (k := kk) hlt
        have hx := List.getElem?_eq_getElem hlt
        have hxm := List.getElem_mem hlt
        generalize m.types[kk] = x at hx hxm hr
        obtain ⟨d1, d2, d3, d4, rfl, hpn, hpt⟩ := FieldR.form hr
        obtain ⟨A4, n4, hq⟩ := TyR.form hpt
        simp only [List.cons.injEq, and_true] at hq
        obtain ⟨rfl, rfl, rfl, rfl⟩ := hq
        have hc0 := hcell 0 _ rfl
        have hc1 := hcell 1 _ rfl
        have hc2 := hcell 2 _ rfl
        have hc3 := hcell 3 _ rfl
        have hc4 := hcell 4 _ rfl
        simp only [Nat.add_zero] at hc0
        have hs := typesT_succ hx
        have hfp := field_parts (HTE.out x hxm)
        have hz1 := HST.out kk
        have hts := tyTxt_size 10 x.is_ hfp.2
        have hn8 := hfp.1
        unfold typeLine at hs
        generalize typesT m kk = Q at hs hz1 ⊢
        have htx := fun U (hU : Below wr.heap.size wr U) => typeText_any 10 x.is_ _ F U (Nat.le_refl _) hfp.2 (TyR.stays.later hpt hU (foot_up hF hbw)) (foot_up (foot_up hF hbw) hU)
        generalize tyTxt 10 x.is_ = T at hs hts htx
        have s1 : ¬ 9223372036854775807 < 5 + x.name.size := by omega
        have s2 : ¬ 9223372036854775807 < 5 + x.name.size + 3 := by omega
        have s3 : ¬ 9223372036854775807 < 5 + x.name.size + 3 + T.size := by omega
        have s4 : ¬ 9223372036854775807 < 5 + x.name.size + 3 + T.size + 1 := by omega
        have s5 : ¬ 9223372036854775807 < Q.size + (5 + x.name.size + 3 + T.size + 1) := by omega
        have HS := Lib.hid hs; have HTX := Lib.hid htx
        clear hs htx
        clear hcell hds hx hxm hr hpt hfp
        go_upto_region 13 with fail
        have hBf := Box.made wr 61 #[.string x.name, .int .i64 x.is_.kind, .string x.is_.of_, .string x.is_.name, .slice A4 x.is_.args.length n4]
        have hbf : Below wr.heap.size wr (wr.alloc (.cells #[.string x.name, .int .i64 x.is_.kind, .string x.is_.of_, .string x.is_.name, .slice A4 x.is_.args.length n4] 61)) := by go_grown
        have hzf : (wr.alloc (.cells #[.string x.name, .int .i64 x.is_.kind, .string x.is_.of_, .string x.is_.name, .slice A4 x.is_.args.length n4] 61)).heap.size = wr.heap.size + 1 := by simp
        generalize wr.alloc (.cells #[.string x.name, .int .i64 x.is_.kind, .string x.is_.of_, .string x.is_.name, .slice A4 x.is_.args.length n4] 61) = W4 at hBf hbf hzf ⊢
        have f0 := hBf.at_ 0 _ rfl
        have f1 := hBf.at_ 1 _ rfl
        have f2 := hBf.at_ 2 _ rfl
        have f3 := hBf.at_ 3 _ rfl
        have f4 := hBf.at_ 4 _ rfl
        have hq := hBf.lt
        have hdr : Below W4.heap.size W4 W4.drew := by go_grown
        have hb4 := BW.out.trans (hbf.mono BW.out.size)
        have HS4 := Lib.hid (show ∀ w', Below W4.heap.size W4 w' → (w'.cell? ⟨wr.heap.size, 0, none⟩ = some (.string x.name) ∧ w'.cell? ⟨wr.heap.size, 1, none⟩ = some (.int .i64 x.is_.kind) ∧ w'.cell? ⟨wr.heap.size, 2, none⟩ = some (.string x.is_.of_) ∧ w'.cell? ⟨wr.heap.size, 3, none⟩ = some (.string x.is_.name) ∧ w'.cell? ⟨wr.heap.size, 4, none⟩ = some (.slice A4 x.is_.args.length n4)) from fun w' h => ⟨(h.cell (p := ⟨wr.heap.size, 0, none⟩) hq).trans f0, (h.cell (p := ⟨wr.heap.size, 1, none⟩) hq).trans f1, (h.cell (p := ⟨wr.heap.size, 2, none⟩) hq).trans f2, (h.cell (p := ⟨wr.heap.size, 3, none⟩) hq).trans f3, (h.cell (p := ⟨wr.heap.size, 4, none⟩) hq).trans f4⟩)
        have htx := fun U (hU : Below W4.heap.size W4 U) => HTX.out U (below_step hbf hU)
        have HTX4 := Lib.hid htx; have HBk := Lib.hid hdr; have HB4 := Lib.hid hb4
        clear htx hdr hb4
        clear hzf hBf hbf HTX hc0 hc1 hc2 hc3 hc4
        go_region_held3 (fun w' => w'.cell? ⟨wr.heap.size, 0, none⟩ = some (.string x.name) ∧ w'.cell? ⟨wr.heap.size, 1, none⟩ = some (.int .i64 x.is_.kind) ∧ w'.cell? ⟨wr.heap.size, 2, none⟩ = some (.string x.is_.of_) ∧ w'.cell? ⟨wr.heap.size, 3, none⟩ = some (.string x.is_.name) ∧ w'.cell? ⟨wr.heap.size, 4, none⟩ = some (.slice A4 x.is_.args.length n4))
          (exact HS4.out _ (by first | exact HBk.out | exact HBk.out.alloc HBk.out.size _ | (go_grown; done) | exact (HBk.out.alloc HBk.out.size _).alloc (HBk.out.alloc HBk.out.size _).size _))
          ((go_at_call 31; (with_reducible refine (HTX4.out _ HBk.out).mono ?_); rintro e w7 ⟨rfl, hb7⟩; have hb8 := below_step HBk.out hb7; have HBk := Lib.hid hb8; clear hb7 hb8))
        all_goals
          go_wp2_with fail
          go_roundg (m.types.length - (kk + 1))
          case measure => omega
          case rel => exact ⟨kk + 1, by omega, by omega, by go_num, by rw [HS.out], aside (HB4.out.trans (HBk.out.mono HB4.out.size))⟩
      · have hltz : ¬ (kk : Int) < (m.types.length : Int) := by omega
        obtain rfl : kk = m.types.length := by omega
        obtain ⟨W5, rfl⟩ : ∃ W, W = wr := ⟨_, rfl⟩
        have hB5 := HB3.out.later BW.out HB3.out.lt
        have m2 := hB5.at_ 2 _ rfl
        rw [← funsT_zero]
        have HB5 := Lib.hid hB5; have HBW5 := Lib.hid hbw
        clear hB5 hbw
        clear BW
        go_wp2_with fail
        go_loopg [5, 11, 12, 13, 15, 56] m.funcs.length (fun gg s5 s11 s12 s13 s15 s56 wr => ∃ kk : Nat, kk ≤ m.funcs.length ∧ m.funcs.length - kk ≤ gg ∧ s56 = .int .i64 kk ∧ s5 = .string (funsT m kk) ∧ Aside (Below W5.heap.size W5 wr))
        case atStart => exact ⟨0, Nat.zero_le _, by omega, rfl, rfl, aside (Below.refl _ _)⟩
        case round =>
         obtain ⟨kk, hkk, hg, rfl, rfl, BW⟩ := hrel
         obtain ⟨WRO, rfl⟩ : ∃ W, W = wr := ⟨_, rfl⟩
         have hbw := HBW5.out.trans (BW.out.mono HBW5.out.size)
         clear m2
         by_cases hlt : kk < m.funcs.length
         · have hltz : (kk : Int) < (m.funcs.length : Int) := by omega
           obtain ⟨b1, off, ds, rfl, hbF, hds, hr, hcell⟩ := (HFn.out.up FuncR.stays hF hbw).at_ (k := kk) hlt
           have hx := List.getElem?_eq_getElem hlt
           have hxm := List.getElem_mem hlt
           generalize m.funcs[kk] = p at hx hxm hr
           obtain ⟨P1, p1, a1, a2, a3, a4, c1, c2, c3, c4, c5, rfl, hn0, hv0, hPp, hR, hX⟩ := FuncR.form hr
           obtain ⟨A8, n8, hq⟩ := TyR.form hR
           simp only [List.cons.injEq, and_true] at hq
           obtain ⟨rfl, rfl, rfl, rfl⟩ := hq
           obtain ⟨A9, n9, hq⟩ := ExR.form hX
           simp only [List.cons.injEq, and_true] at hq
           obtain ⟨rfl, rfl, rfl, rfl, rfl⟩ := hq
           have hc0 := hcell 0 _ rfl
           have hc1 := hcell 1 _ rfl
           have hc2 := hcell 2 _ rfl
           have hc3 := hcell 3 _ rfl
           have hc4 := hcell 4 _ rfl
           have hc5 := hcell 5 _ rfl
           have hc6 := hcell 6 _ rfl
           have hc7 := hcell 7 _ rfl
           have hc8 := hcell 8 _ rfl
           have hc9 := hcell 9 _ rfl
           have hc10 := hcell 10 _ rfl
           have hc11 := hcell 11 _ rfl
           simp only [Nat.add_zero] at hc0
           have hs := funsT_succ hx
           obtain ⟨hn8, hv8, hp8, hpe, hre, hbe⟩ := fun_parts (HFE.out p hxm)
           have hz1 := HSF.out kk
           have z2 := varTxt_size hv8
           have z3 := fun j => pars_size hpe hp8 j
           have z3a := z3 p.params.length
           rw [List.take_length] at z3a
           have z4 := tyTxt_size 10 p.result hre
           have z5 := exTxt_size 10 p.body hbe
           rw [exMax_ten] at z5
           have hrt := fun U (hU : Below WRO.heap.size WRO U) => typeText_any 10 p.result _ F U (Nat.le_refl _) hre (TyR.stays.later hR hU (foot_up hF hbw)) (foot_up (foot_up hF hbw) hU)
           have hbt := fun U (hU : Below WRO.heap.size WRO U) => exprText_any 10 p.body _ F U (Nat.le_refl _) hbe (ExR.stays.later hX hU (foot_up hF hbw)) (foot_up (foot_up hF hbw) hU) (HP.out.later (hbw.trans (hU.mono hbw.size)))
           have hpt := fun (q : Field) (hq : fieldErr q = 0) cs U (hU : Below WRO.heap.size WRO U) (hr : TyR U F cs q.is_) => typeText_any 10 q.is_ cs F U (Nat.le_refl _) (field_parts hq).2 hr (foot_up (foot_up hF hbw) hU)
           have hvt : varTxt p.var_ = if p.var_.size = 0 then ⟨#[]⟩ else ⟨#[60]⟩ ++ p.var_ ++ ⟨#[62]⟩ := rfl
           unfold funLine at hs
           generalize funsT m kk = Q at hs hz1 ⊢
           generalize tyTxt 10 p.result = R at hs z4 hrt
           generalize exTxt 10 p.body = X at hs z5 hbt
           generalize varTxt p.var_ = V at hs z2 hvt
           obtain ⟨J, hJ⟩ : ∃ z, joined (p.params.map parLine) = z := ⟨_, rfl⟩
           rw [hJ] at hs z3a
           obtain ⟨zv, hzv⟩ : ∃ z, p.var_.toList.isEmpty = z := ⟨_, rfl⟩
           have HS := Lib.hid hs; have HRT := Lib.hid hrt; have HBT := Lib.hid hbt; have HPT := Lib.hid hpt; have HPE := Lib.hid hpe; have HJ := Lib.hid hJ; have HVT := Lib.hid hvt; have HPP := Lib.hid hPp; have HBW6 := Lib.hid hbw; have HZ3 := Lib.hid z3
           clear hs hrt hbt hpt hpe hJ hvt hPp hbw z3
           clear hcell hds hx hxm hr hR hX hre hbe hn0 hv0
           go_upto_region 18 with fail
           have hBf := Box.made WRO 67 #[.string p.name, .string p.var_, .slice P1 p.params.length p1, .int .i64 p.result.kind, .string p.result.of_, .string p.result.name, .slice A8 p.result.args.length n8, .int .i64 p.body.kind, .int .i64 p.body.n, .string p.body.of_, .string p.body.s, .slice A9 p.body.args.length n9]
           have hbf : Below WRO.heap.size WRO (WRO.alloc (.cells #[.string p.name, .string p.var_, .slice P1 p.params.length p1, .int .i64 p.result.kind, .string p.result.of_, .string p.result.name, .slice A8 p.result.args.length n8, .int .i64 p.body.kind, .int .i64 p.body.n, .string p.body.of_, .string p.body.s, .slice A9 p.body.args.length n9] 67)) := by go_grown
           have hzf : (WRO.alloc (.cells #[.string p.name, .string p.var_, .slice P1 p.params.length p1, .int .i64 p.result.kind, .string p.result.of_, .string p.result.name, .slice A8 p.result.args.length n8, .int .i64 p.body.kind, .int .i64 p.body.n, .string p.body.of_, .string p.body.s, .slice A9 p.body.args.length n9] 67)).heap.size = WRO.heap.size + 1 := by simp
           generalize WRO.alloc (.cells #[.string p.name, .string p.var_, .slice P1 p.params.length p1, .int .i64 p.result.kind, .string p.result.of_, .string p.result.name, .slice A8 p.result.args.length n8, .int .i64 p.body.kind, .int .i64 p.body.n, .string p.body.of_, .string p.body.s, .slice A9 p.body.args.length n9] 67) = W6 at hBf hbf hzf ⊢
           clear hc0 hc1 hc2 hc3 hc4 hc5 hc6 hc7 hc8 hc9 hc10 hc11 hzf
           have f1 := hBf.at_ 1 _ rfl
           go_upto_if 62 with (fail)
           go_cut [12] (fun s12 wc => s12 = .string V ∧ Aside (wc = W6))
           case first =>
             cases zv with
             | true =>
               have hV : V = ⟨#[]⟩ := by rw [HVT.out, if_pos (size_zero hzv)]
               subst hV
               go_wp2_with fail
               go_meet
               exact ⟨rfl, aside rfl⟩
             | false =>
               have hV : V = ⟨#[60]⟩ ++ p.var_ ++ ⟨#[62]⟩ := by rw [HVT.out, if_neg (size_pos hzv)]
               subst hV
               have t1 : ¬ 9223372036854775807 < 1 + p.var_.size := by omega
               have t2 : ¬ 9223372036854775807 < 1 + p.var_.size + 1 := by omega
               clear z2
               go_wp2_with fail
               go_meet
               exact ⟨rfl, aside rfl⟩
           case rest =>
           obtain ⟨rfl, hwc⟩ := hcut
           obtain rfl := hwc.out
           have f2 := hBf.at_ 2 _ rfl
           have hb6 := BW.out.trans (hbf.mono BW.out.size)
           have HBf := Lib.hid hBf; have Hbf := Lib.hid hbf; have HB6 := Lib.hid hb6
           clear hBf hbf hb6
           clear f1 hzv hwc HVT BW
           go_wp2_with fail
           go_loopg [13, 15, 70] p.params.length (fun gg s13 s15 s70 wr => ∃ (jj c : Nat) (B : Option Addr) (L : List ByteArray), jj ≤ p.params.length ∧ p.params.length - jj ≤ gg ∧ s70 = .int .i64 jj ∧ s13 = .slice B L.length c ∧ Aside (L = (p.params.take jj).map parLine) ∧
             Aside (Owns StrR 1 9 wc.heap.size wr none_ (.slice B L.length c) L) ∧ Aside (Below wc.heap.size wc wr))
           case atStart => exact ⟨0, 0, none, [], Nat.zero_le _, by omega, rfl, rfl, aside rfl, aside Owns.nil_, aside (Below.refl _ _)⟩
           case round =>
             obtain ⟨jj, c', B, L, hjj, hg2, rfl, rfl, hL, hO, BW⟩ := hrel
             have hwr := below_step Hbf.out BW.out
             have hLl : L.length = jj := by rw [hL.out]; simp; omega
             clear f2
             by_cases hlt2 : jj < p.params.length
             · have hltz2 : (jj : Int) < (p.params.length : Int) := by omega
               have hbw7 := HBW6.out.trans (hwr.mono HBW6.out.size)
               obtain ⟨b2, off2, ds, rfl, hbF2, hds, hr, hcell⟩ := (HPP.out.up FieldR.stays (foot_up hF HBW6.out) hwr).at_ (k := jj) hlt2
               have hx := List.getElem?_eq_getElem hlt2
               have hxm := List.getElem_mem hlt2
               generalize p.params[jj] = q at hx hxm hr
               obtain ⟨d1, d2, d3, d4, rfl, hqn, hqt⟩ := FieldR.form hr
               obtain ⟨A4, n4, hq⟩ := TyR.form hqt
               simp only [List.cons.injEq, and_true] at hq
               obtain ⟨rfl, rfl, rfl, rfl⟩ := hq
               have hc0 := hcell 0 _ rfl
               have hc1 := hcell 1 _ rfl
               have hc2 := hcell 2 _ rfl
               have hc3 := hcell 3 _ rfl
               have hc4 := hcell 4 _ rfl
               simp only [Nat.add_zero] at hc0
               have hfe := HPE.out q hxm
               have hfp := field_parts hfe
               have hq8 := hfp.1
               have y4 := tyTxt_size 10 q.is_ hfp.2
               have htx := fun U (hU : Below wr.heap.size wr U) => HPT.out q hfe _ U (below_step hwr hU) (TyR.stays.later hqt hU (foot_up hF hbw7))
               have hpl : parLine q = q.name ++ ⟨#[58, 32]⟩ ++ tyTxt 10 q.is_ := rfl
               generalize tyTxt 10 q.is_ = T at hpl y4 htx
               have s1 : ¬ 9223372036854775807 < q.name.size + 2 := by omega
               have s2 : ¬ 9223372036854775807 < q.name.size + 2 + T.size := by omega
               have hYs : (q.name ++ ⟨#[58, 32]⟩ ++ T : ByteArray).size = q.name.size + 2 + T.size := by rw [ba_app_size, ba_app_size]; rfl
               have hoY : okS (q.name ++ ⟨#[58, 32]⟩ ++ T) := by unfold okS; omega
               have hsn : (p.params.take (jj + 1)).map parLine = L ++ [q.name ++ ⟨#[58, 32]⟩ ++ T] := by
                 rw [List.take_add_one, hx, List.map_append, hL.out]
                 simp [hpl]
               have HTX := Lib.hid htx; have HSN := Lib.hid hsn; have HLl := Lib.hid hLl
               clear htx hsn hLl
               clear hcell hds hx hxm hr hqt hfp hYs hpl
               go_upto_region 25 with fail
               have hBg := Box.made wr 61 #[.string q.name, .int .i64 q.is_.kind, .string q.is_.of_, .string q.is_.name, .slice A4 q.is_.args.length n4]
               have hbg : Below wr.heap.size wr (wr.alloc (.cells #[.string q.name, .int .i64 q.is_.kind, .string q.is_.of_, .string q.is_.name, .slice A4 q.is_.args.length n4] 61)) := by go_grown
               have hzg : (wr.alloc (.cells #[.string q.name, .int .i64 q.is_.kind, .string q.is_.of_, .string q.is_.name, .slice A4 q.is_.args.length n4] 61)).heap.size = wr.heap.size + 1 := by simp
               generalize wr.alloc (.cells #[.string q.name, .int .i64 q.is_.kind, .string q.is_.of_, .string q.is_.name, .slice A4 q.is_.args.length n4] 61) = W7 at hBg hbg hzg ⊢
               have f0 := hBg.at_ 0 _ rfl
               have f1 := hBg.at_ 1 _ rfl
               have f2 := hBg.at_ 2 _ rfl
               have f3 := hBg.at_ 3 _ rfl
               have f4 := hBg.at_ 4 _ rfl
               have hqq := hBg.lt
               have hdr : Below W7.heap.size W7 W7.drew := by go_grown
               have hb7 := BW.out.trans (hbg.mono BW.out.size)
               have hO7 := hO.out.below StrR.stays hbg
               have hne : (Value.slice B L.length c').ownBlock ≠ some wr.heap.size := fun e => by obtain ⟨xs, hr, _⟩ := hO.out; have := (hr.lt _ e).2; omega
               have hcW : wc.heap.size ≤ W7.heap.size := hb7.size
               have haf := Aft.of hdr hcW hqq
               have HS4 := Lib.hid (show ∀ w', Aft wc.heap.size wr.heap.size W7 w' → (w'.cell? ⟨wr.heap.size, 0, none⟩ = some (.string q.name) ∧ w'.cell? ⟨wr.heap.size, 1, none⟩ = some (.int .i64 q.is_.kind) ∧ w'.cell? ⟨wr.heap.size, 2, none⟩ = some (.string q.is_.of_) ∧ w'.cell? ⟨wr.heap.size, 3, none⟩ = some (.string q.is_.name) ∧ w'.cell? ⟨wr.heap.size, 4, none⟩ = some (.slice A4 q.is_.args.length n4)) from fun w' h => ⟨(h.cellAt (p := ⟨wr.heap.size, 0, none⟩) rfl).trans f0, (h.cellAt (p := ⟨wr.heap.size, 1, none⟩) rfl).trans f1, (h.cellAt (p := ⟨wr.heap.size, 2, none⟩) rfl).trans f2, (h.cellAt (p := ⟨wr.heap.size, 3, none⟩) rfl).trans f3, (h.cellAt (p := ⟨wr.heap.size, 4, none⟩) rfl).trans f4⟩)
               have htx := fun U (hU : Below W7.heap.size W7 U) => HTX.out U (below_step hbg hU)
               have HTX4 := Lib.hid htx; have HBq := Lib.hid hdr; have HBk := Lib.hid haf; have HB7 := Lib.hid hb7; have HO7 := Lib.hid hO7; have HNE := Lib.hid hne; have HCW := Lib.hid hcW; have HQQ := Lib.hid hqq
               clear htx hdr haf hb7 hO7 hne hcW hqq
               clear hzg hBg hbg HTX hc0 hc1 hc2 hc3 hc4
               go_region_held3 (fun w' => w'.cell? ⟨wr.heap.size, 0, none⟩ = some (.string q.name) ∧ w'.cell? ⟨wr.heap.size, 1, none⟩ = some (.int .i64 q.is_.kind) ∧ w'.cell? ⟨wr.heap.size, 2, none⟩ = some (.string q.is_.of_) ∧ w'.cell? ⟨wr.heap.size, 3, none⟩ = some (.string q.is_.name) ∧ w'.cell? ⟨wr.heap.size, 4, none⟩ = some (.slice A4 q.is_.args.length n4))
                 (exact HS4.out _ (by first | exact HBk.out | exact HBk.out.alloc HBk.out.size _ | (go_grown; done) | exact (HBk.out.alloc HBk.out.size _).alloc (HBk.out.alloc HBk.out.size _).size _))
                 (first
                   | ((go_at_call 31; (with_reducible refine (HTX4.out _ HBq.out).mono ?_); rintro e w7 ⟨rfl, hb9⟩; have hb8 := below_step HBq.out hb9; have haf := Aft.of hb8 HCW.out HQQ.out; have HBq := Lib.hid hb8; have HBk := Lib.hid haf; clear hb8 hb9 haf))
                   | ((refine step_push StrR.stays (.string ⟨#[]⟩) [.string (q.name ++ (⟨#[58, 32]⟩ : ByteArray) ++ T)] (q.name ++ (⟨#[58, 32]⟩ : ByteArray) ++ T) _ _ 26 rfl rfl Tryd.underlying26 (bytes := 16) (by kernel_rfl) (show Owns StrR 1 9 wc.heap.size _ none_ _ L from (HO7.out.below StrR.stays HBq.out).alloc StrR.stays _) rfl rfl (by decide) rfl (heap_alloc_new _ _) rfl (show StrR _ none_ _ _ from ⟨rfl, hoY⟩) (StrR.one (w := W7) (F := none_) _ _ ⟨rfl, hoY⟩) (fun k hk => hk.elim) (by have := HLl.out; unfold maxLen; omega) (by have := HLl.out; omega) (Nat.le_trans HCW.out (HBq.out.alloc HBq.out.size _).size) ?_; intro A8' c8 w8 ho8 hg8 _; have haf := (Aft.of (HBq.out.alloc HBq.out.size _) HCW.out HQQ.out).push hg8 HNE.out; have HBk := Lib.hid haf; have HO8 := Lib.hid ho8; clear haf ho8 hg8)))
               all_goals
                 go_wp2_with fail
                 go_roundg (p.params.length - (jj + 1))
                 case measure => omega
                 case rel => exact ⟨jj + 1, c8, A8', L ++ [q.name ++ ⟨#[58, 32]⟩ ++ T], by omega, by omega, by go_num, by simp, aside HSN.out.symm, aside (by have h := Owns.wider StrR.stays HO8.out (F' := none_) (fun k hk => hk.elim id id) (fun k hk => hk.elim); simpa using h), aside (HB7.out.trans HBk.out.below)⟩
             · have hltz2 : ¬ (jj : Int) < (p.params.length : Int) := by omega
               obtain rfl : jj = p.params.length := by omega
               obtain ⟨W7, rfl⟩ : ∃ W, W = wr := ⟨_, rfl⟩
               have hLJ : joined L = J := by rw [hL.out, List.take_length]; exact HJ.out
               have hsl := hO.out.slice StrR.stays (by_ := 16) (F' := old W7.heap.size) (fun k hk => hk.elim) (fun k h1 h2 => h2) (by omega) (by omega)
               have hjo := fun U (hU : Below W7.heap.size W7 U) => joins_any _ L _ U (foot_up old_lt hU) (hsl.up StrR.stays old_lt hU) (by rw [hLJ]; omega)
               rw [hLJ] at hjo
               have hrt := fun U (hU : Below W7.heap.size W7 U) => HRT.out U (below_step hwr hU)
               have hbt := fun U (hU : Below W7.heap.size W7 U) => HBT.out U (below_step hwr hU)
               have hB7 := HBf.out.later BW.out HBf.out.lt
               have hb7 := HB6.out.trans (BW.out.mono HB6.out.size)
               have f0 := hB7.at_ 0 _ rfl
               have f3 := hB7.at_ 3 _ rfl
               have f4 := hB7.at_ 4 _ rfl
               have f5 := hB7.at_ 5 _ rfl
               have f6 := hB7.at_ 6 _ rfl
               have f7 := hB7.at_ 7 _ rfl
               have f8 := hB7.at_ 8 _ rfl
               have f9 := hB7.at_ 9 _ rfl
               have f10 := hB7.at_ 10 _ rfl
               have f11 := hB7.at_ 11 _ rfl
               have hqq := hB7.lt
               have hdr : Below W7.heap.size W7 W7.drew := by go_grown
               have HS4 := Lib.hid (show ∀ w', Below W7.heap.size W7 w' → (w'.cell? ⟨WRO.heap.size, 0, none⟩ = some (.string p.name) ∧ w'.cell? ⟨WRO.heap.size, 3, none⟩ = some (.int .i64 p.result.kind) ∧ w'.cell? ⟨WRO.heap.size, 4, none⟩ = some (.string p.result.of_) ∧ w'.cell? ⟨WRO.heap.size, 5, none⟩ = some (.string p.result.name) ∧ w'.cell? ⟨WRO.heap.size, 6, none⟩ = some (.slice A8 p.result.args.length n8) ∧ w'.cell? ⟨WRO.heap.size, 7, none⟩ = some (.int .i64 p.body.kind) ∧ w'.cell? ⟨WRO.heap.size, 8, none⟩ = some (.int .i64 p.body.n) ∧ w'.cell? ⟨WRO.heap.size, 9, none⟩ = some (.string p.body.of_) ∧ w'.cell? ⟨WRO.heap.size, 10, none⟩ = some (.string p.body.s) ∧ w'.cell? ⟨WRO.heap.size, 11, none⟩ = some (.slice A9 p.body.args.length n9)) from fun w' h => ⟨(h.cell (p := ⟨WRO.heap.size, 0, none⟩) hqq).trans f0, (h.cell (p := ⟨WRO.heap.size, 3, none⟩) hqq).trans f3, (h.cell (p := ⟨WRO.heap.size, 4, none⟩) hqq).trans f4, (h.cell (p := ⟨WRO.heap.size, 5, none⟩) hqq).trans f5, (h.cell (p := ⟨WRO.heap.size, 6, none⟩) hqq).trans f6, (h.cell (p := ⟨WRO.heap.size, 7, none⟩) hqq).trans f7, (h.cell (p := ⟨WRO.heap.size, 8, none⟩) hqq).trans f8, (h.cell (p := ⟨WRO.heap.size, 9, none⟩) hqq).trans f9, (h.cell (p := ⟨WRO.heap.size, 10, none⟩) hqq).trans f10, (h.cell (p := ⟨WRO.heap.size, 11, none⟩) hqq).trans f11⟩)
               have s1 : ¬ 9223372036854775807 < 5 + p.name.size := by omega
               have s2 : ¬ 9223372036854775807 < 5 + p.name.size + V.size := by omega
               have s3 : ¬ 9223372036854775807 < 5 + p.name.size + V.size + 1 := by omega
               have s4 : ¬ 9223372036854775807 < 5 + p.name.size + V.size + 1 + J.size := by omega
               have s5 : ¬ 9223372036854775807 < 5 + p.name.size + V.size + 1 + J.size + 3 := by omega
               have s6 : ¬ 9223372036854775807 < 5 + p.name.size + V.size + 1 + J.size + 3 + R.size := by omega
               have s7 : ¬ 9223372036854775807 < 5 + p.name.size + V.size + 1 + J.size + 3 + R.size + 3 := by omega
               have s8 : ¬ 9223372036854775807 < 5 + p.name.size + V.size + 1 + J.size + 3 + R.size + 3 + X.size := by omega
               have s9 : ¬ 9223372036854775807 < 5 + p.name.size + V.size + 1 + J.size + 3 + R.size + 3 + X.size + 1 := by omega
               have s10 : ¬ 9223372036854775807 < Q.size + (5 + p.name.size + V.size + 1 + J.size + 3 + R.size + 3 + X.size + 1) := by omega
               have HJO := Lib.hid hjo; have HRT7 := Lib.hid hrt; have HBT7 := Lib.hid hbt; have HBk := Lib.hid hdr; have HB7 := Lib.hid hb7
               clear hjo hrt hbt hdr hb7
               clear hsl hLJ hO hL hLl hB7 f0 f3 f4 f5 f6 f7 f8 f9 f10 f11
               go_upto_region 27 with fail
               go_region_held3 (fun w' => w'.cell? ⟨WRO.heap.size, 0, none⟩ = some (.string p.name) ∧ w'.cell? ⟨WRO.heap.size, 3, none⟩ = some (.int .i64 p.result.kind) ∧ w'.cell? ⟨WRO.heap.size, 4, none⟩ = some (.string p.result.of_) ∧ w'.cell? ⟨WRO.heap.size, 5, none⟩ = some (.string p.result.name) ∧ w'.cell? ⟨WRO.heap.size, 6, none⟩ = some (.slice A8 p.result.args.length n8) ∧ w'.cell? ⟨WRO.heap.size, 7, none⟩ = some (.int .i64 p.body.kind) ∧ w'.cell? ⟨WRO.heap.size, 8, none⟩ = some (.int .i64 p.body.n) ∧ w'.cell? ⟨WRO.heap.size, 9, none⟩ = some (.string p.body.of_) ∧ w'.cell? ⟨WRO.heap.size, 10, none⟩ = some (.string p.body.s) ∧ w'.cell? ⟨WRO.heap.size, 11, none⟩ = some (.slice A9 p.body.args.length n9))
                 (exact HS4.out _ (by first | exact HBk.out | exact HBk.out.alloc HBk.out.size _ | (go_grown; done) | exact (HBk.out.alloc HBk.out.size _).alloc (HBk.out.alloc HBk.out.size _).size _))
                 (first
                   | ((go_at_call 32; (with_reducible refine (HJO.out _ HBk.out).mono ?_); rintro e w7 ⟨rfl, hb9⟩; have hb8 := below_step HBk.out hb9; have HBk := Lib.hid hb8; clear hb8 hb9))
                   | ((go_at_call 31; (with_reducible refine (HRT7.out _ HBk.out).mono ?_); rintro e w7 ⟨rfl, hb9⟩; have hb8 := below_step HBk.out hb9; have HBk := Lib.hid hb8; clear hb8 hb9))
                   | ((go_at_call 33; (with_reducible refine (HBT7.out _ HBk.out).mono ?_); rintro e w7 ⟨rfl, hb9⟩; have hb8 := below_step HBk.out hb9; have HBk := Lib.hid hb8; clear hb8 hb9)))
               all_goals
                 go_wp2_with fail
                 go_roundg (m.funcs.length - (kk + 1))
                 case measure => omega
                 case rel => exact ⟨kk + 1, by omega, by omega, by go_num, by rw [HS.out], aside (HB7.out.trans (HBk.out.mono HB7.out.size))⟩
         · have hltz : ¬ (kk : Int) < (m.funcs.length : Int) := by omega
           obtain rfl : kk = m.funcs.length := by omega
           have he := HR0.out (by first | rfl | trivial)
           have HBWE := Lib.hid hbw; have HEE := Lib.hid he
           clear hbw he
           clear BW
           go_wp2_with fail
           go_ret2
           exact ⟨by rw [HEE.out]; rfl, HBWE.out⟩

end Go.Proofs.YtoejhgbndehaiaaDoor
