/- Modules that must be right: tree.Check. -/
import Derived.Test.YtjaladhdnbhliaaGreatDoorTreeChk3
import Derived.Test.YtjaladhdnbhliaaGreatDoorModErr
namespace Go.Proofs.YtjaladhdnbhliaaGreatDoor
open Go.RowKit Go.Shelf

set_option maxRecDepth 100000 in
set_option maxHeartbeats 1000000 in
/-- A fault that is thrown is caught, and told. -/
theorem check_out {n : Nat} {e E : Int} {w W : World} {tmps : Array Value} (hB : Box W n 29 #[.int .i64 0]) (hn : w.heap.size ≤ n) (hb : Below w.heap.size w W) (ht : tmps[2]? = some (.pointer (some ⟨n, 0, none⟩))) (he : e = E) :
    Leaves Tryz.prog Tryz.f34 tmps (fun e' w' => e' = .returned (.int .i64 E) ∧ Below w.heap.size w w') [{ target := .fn (.func 70) #[], args := #[.pointer (some ⟨n, 0, none⟩)] }] (.panicking [faultV e]) W := by
  subst he
  have hc := hB.at_ 0 _ rfl
  have hlt := hB.lt
  refine leaves_cons (f := 70) (args := #[.pointer (some ⟨n, 0, none⟩)]) (by simp) (by simp [go_sem]) ?_
  refine (caught_panicking ⟨n, 0, none⟩ 0 e W hc (hB.free 0)).mono ?_
  rintro e' u' w'' ⟨rfl, rfl, rfl⟩
  have hc2 : ((W.alloc (.cells #[.int .i64 e] 176)).setCell ⟨n, 0, none⟩ (.int .i64 e)).cell? ⟨n, 0, none⟩ = some (.int .i64 e) := ((hB.alloc _).put 0 _).at_ 0 _ rfl
  have hb2 : Below w.heap.size w ((W.alloc (.cells #[.int .i64 e] 176)).setCell ⟨n, 0, none⟩ (.int .i64 e)) := (hb.alloc hb.size _).setCell (p := ⟨n, 0, none⟩) hn _
  simp [Leaves, settle, results, Tryz.results34, go_sem, ht, hc2, hb2]

set_option maxRecDepth 100000 in
set_option maxHeartbeats 1000000 in
/-- Nothing is thrown. -/
theorem check_fine {n : Nat} {E : Int} {w W : World} {tmps : Array Value} (hB : Box W n 29 #[.int .i64 0]) (hb : Below w.heap.size w W) (ht : tmps[2]? = some (.pointer (some ⟨n, 0, none⟩))) (he : 0 = E) :
    Leaves Tryz.prog Tryz.f34 tmps (fun e' w' => e' = .returned (.int .i64 E) ∧ Below w.heap.size w w') [{ target := .fn (.func 70) #[], args := #[.pointer (some ⟨n, 0, none⟩)] }] .returning W := by
  subst he
  have hc := hB.at_ 0 _ rfl
  refine leaves_cons (f := 70) (args := #[.pointer (some ⟨n, 0, none⟩)]) (by simp) (by simp [go_sem]) ?_
  refine (caught_idle ⟨n, 0, none⟩ W).mono ?_
  rintro e' u' w'' ⟨rfl, rfl, rfl⟩
  simp [Leaves, settle, results, Tryz.results34, go_sem, ht, hc, hb]

theorem FuncR.cells {w : World} {F : Foot} {cs : List Value} {x : Func} (h : FuncR w F cs x) : ∃ P1 p1 A2 n2 A3 n3, cs = [.string x.name, .string x.var_, .slice P1 x.params.length p1, .int .i64 x.result.kind, .string x.result.of_, .string x.result.name, .slice A2 x.result.args.length n2,
    .int .i64 x.body.kind, .int .i64 x.body.n, .string x.body.of_, .string x.body.s, .slice A3 x.body.args.length n3] := by
  obtain ⟨P1, p1, a, b, c, d, e, f, g, i, j, rfl, _, _, _, h1, h2⟩ := FuncR.form h
  obtain ⟨A2, n2, hf⟩ := TyR.form h1
  obtain ⟨A3, n3, hg⟩ := ExR.form h2
  simp only [List.cons.injEq, and_true] at hf hg
  obtain ⟨rfl, rfl, rfl, rfl⟩ := hf
  obtain ⟨rfl, rfl, rfl, rfl, rfl⟩ := hg
  exact ⟨_, _, _, _, _, _, rfl⟩

set_option maxRecDepth 100000 in
set_option maxHeartbeats 8000000 in
theorem treeCheck_any (m : Module) (cs : List Value) (F : Foot) (w : World) (hF : ∀ k, F k → k < w.heap.size) (hm : ModuleR w F cs m) :
    Calls Tryz.prog 34 #[.agg cs.toArray] w fun e w' => e = .returned (.int .i64 (modErr m)) ∧ Below w.heap.size w w' := by
  obtain ⟨U1, u1, T1, e1, T2, e2, rfl, hu, ht, hf⟩ := ModuleR.form hm
  obtain ⟨_, _, _, _, _, hul, _⟩ := hu.form
  obtain ⟨_, _, _, _, _, htl, _⟩ := ht.form
  obtain ⟨_, _, _, _, _, hfl, _⟩ := hf.form
  obtain ⟨E, hE⟩ : ∃ E, modErr m = E := ⟨_, rfl⟩
  rw [hE]
  have HE := Lib.hid hE; have HU := Lib.hid hu; have HT := Lib.hid ht; have HFn := Lib.hid hf
  clear hE hu ht hf
  clear hm
  go_enter_defers Tryz.func34, Tryz.ntmps34
  go_upto_region 2 with fail
  have hBb1 := ((Box.made w 27 #[.slice U1 m.uses.length u1, .slice T1 m.types.length e1, .slice T2 m.funcs.length e2]).alloc (.cells #[.int .i64 0] 29))
  have hBb2 := (Box.made (w.alloc (.cells #[.slice U1 m.uses.length u1, .slice T1 m.types.length e1, .slice T2 m.funcs.length e2] 27)) 29 #[.int .i64 0])
  rw [show (w.alloc (.cells #[.slice U1 m.uses.length u1, .slice T1 m.types.length e1, .slice T2 m.funcs.length e2] 27)).heap.size = w.heap.size + 1 by simp only [World.size_alloc]] at hBb2
  have hbb : Below w.heap.size w ((w.alloc (.cells #[.slice U1 m.uses.length u1, .slice T1 m.types.length e1, .slice T2 m.funcs.length e2] 27)).alloc (.cells #[.int .i64 0] 29)) := by go_grown
  have hzb : ((w.alloc (.cells #[.slice U1 m.uses.length u1, .slice T1 m.types.length e1, .slice T2 m.funcs.length e2] 27)).alloc (.cells #[.int .i64 0] 29)).heap.size = w.heap.size + 1 + 1 := by simp only [World.size_alloc]
  generalize (w.alloc (.cells #[.slice U1 m.uses.length u1, .slice T1 m.types.length e1, .slice T2 m.funcs.length e2] 27)).alloc (.cells #[.int .i64 0] 29) = W1 at hBb1 hBb2 hbb hzb ⊢
  have x0 := hBb1.at_ 0 _ rfl
  have x1 := hBb1.at_ 1 _ rfl
  have x2 := hBb1.at_ 2 _ rfl
  have hn : w.heap.size ≤ w.heap.size + 1 := by omega
  have HB := Lib.hid hBb1; have HC := Lib.hid hBb2; have Hb0 := Lib.hid hbb; have Hz := Lib.hid hzb; have HN := Lib.hid hn
  clear hBb1 hBb2 hbb hzb hn
  by_cases h24 : 24 < m.uses.length + m.types.length + m.funcs.length
  · have h24z : ((m.uses.length : Int) + (m.types.length : Int) + (m.funcs.length : Int) ≤ 24) = False := by simp; omega
    go_wp2_with (first | (go_at_call 71; (with_reducible refine (need_yes _ _).mono ?_); rintro e w' ⟨rfl, rfl⟩) | (go_at_call 71; (with_reducible refine (need_no _ _).mono ?_); rintro e w' ⟨rfl, rfl⟩))
    exact check_out HC.out HN.out Hb0.out rfl (by rw [← HE.out]; unfold modErr; rw [if_pos h24])
  · have h24z : ((m.uses.length : Int) + (m.types.length : Int) + (m.funcs.length : Int) ≤ 24) := by omega
    have H24 := Lib.hid h24
    go_wp2_with (first | (go_at_call 71; (with_reducible refine (need_yes _ _).mono ?_); rintro e w' ⟨rfl, rfl⟩) | (go_at_call 71; (with_reducible refine (need_no _ _).mono ?_); rintro e w' ⟨rfl, rfl⟩))
    go_loopg [4, 25] m.uses.length (fun gg _ s25 wr => ∃ kk : Nat, kk ≤ m.uses.length ∧ m.uses.length - kk ≤ gg ∧ s25 = .int .i64 kk ∧ Aside (Below W1.heap.size W1 wr) ∧ Aside (∀ j, j < kk → ∀ y, m.uses[j]? = some y → useErr y = 0))
    case atStart => exact ⟨0, Nat.zero_le _, by omega, rfl, Below.refl _ _, aside (fun j hj => absurd hj (Nat.not_lt_zero _))⟩
    case round =>
      obtain ⟨kk, hkk, hg, rfl, BW, Al⟩ := hrel
      have hbw := Hb0.out.trans (BW.out.mono Hb0.out.size)
      by_cases hlt : kk < m.uses.length
      · have hltz : (kk : Int) < (m.uses.length : Int) := by omega
        obtain ⟨b1, off, cs, rfl, hbF, hcs, ⟨rfl, hsz⟩, hcell⟩ := (HU.out.up StrR.stays hF hbw).at_ hlt
        have hc0 := hcell 0 _ rfl
        simp only [Nat.mul_one, Nat.add_zero] at hc0
        have hy := List.getElem?_eq_getElem hlt
        generalize m.uses[kk] = y at *
        have hym := fun W => ident_any y W hsz
        obtain ⟨z5, hz5⟩ : ∃ z, (nameOk y) = z := ⟨_, rfl⟩
        rw [hz5] at hym
        have Z5 := Lib.hid hz5; clear hz5
        have hbl := foot_up hF hbw _ hbF
        have HY := Lib.hid hy; have HYM := Lib.hid hym; have HBW := Lib.hid hbw
        clear hy hym hbw
        clear hcell hcs
        go_wp2_with fail
        refine (HYM.out _).mono ?_
        rintro e W4 ⟨rfl, hb4⟩
        have HB4 := Lib.hid (BW.out.trans (hb4.mono BW.out.size))
        have HB5 := Lib.hid (HBW.out.trans (hb4.mono HBW.out.size))
        clear hb4 hc0
        cases z5 with
        | false =>
          go_wp2_with (first | (go_at_call 71; (with_reducible refine (need_yes _ _).mono ?_); rintro e w' ⟨rfl, rfl⟩) | (go_at_call 71; (with_reducible refine (need_no _ _).mono ?_); rintro e w' ⟨rfl, rfl⟩))
          exact check_out (HC.out.later HB4.out HC.out.lt) HN.out HB5.out rfl (by rw [← HE.out, modErr_uses H24.out (eachErr_hit HY.out (useErr_no Z5.out) (by decide) Al.out) (by decide)])
        | true =>
          go_wp2_with (first | (go_at_call 71; (with_reducible refine (need_yes _ _).mono ?_); rintro e w' ⟨rfl, rfl⟩) | (go_at_call 71; (with_reducible refine (need_no _ _).mono ?_); rintro e w' ⟨rfl, rfl⟩))
          go_roundg (m.uses.length - (kk + 1))
          case measure => omega
          case rel => exact ⟨kk + 1, by omega, by omega, by go_num, aside HB4.out, aside (good_succ HY.out (useErr_ok Z5.out) Al.out)⟩
      · have hltz : ¬ (kk : Int) < (m.uses.length : Int) := by omega
        obtain rfl : kk = m.uses.length := by omega
        have HU0 := Lib.hid (eachErr_none Al.out)
        obtain ⟨V, rfl⟩ : ∃ W, W = wr := ⟨_, rfl⟩
        have hB1 := HB.out.later BW.out HB.out.lt
        have hC1 := HC.out.later BW.out HC.out.lt
        clear x0 x1 x2 Al
        have x1 := hB1.at_ 1 _ rfl
        have HB1 := Lib.hid hB1; have HC1 := Lib.hid hC1; have HBV := Lib.hid hbw
        clear hB1 hC1 hbw
        go_wp2_with fail
        go_loopg [36] m.types.length (fun gg s36 wr => ∃ kk : Nat, kk ≤ m.types.length ∧ m.types.length - kk ≤ gg ∧ s36 = .int .i64 kk ∧ Aside (Below V.heap.size V wr) ∧ Aside (∀ j, j < kk → ∀ y, m.types[j]? = some y → fieldErr y = 0))
        case atStart => exact ⟨0, Nat.zero_le _, by omega, rfl, Below.refl _ _, aside (fun j hj => absurd hj (Nat.not_lt_zero _))⟩
        case round =>
          clear BW
          obtain ⟨kk, hkk, hg, rfl, BW, Al⟩ := hrel
          have hbw := HBV.out.trans (BW.out.mono HBV.out.size)
          by_cases hlt : kk < m.types.length
          · have hltz : (kk : Int) < (m.types.length : Int) := by omega
            obtain ⟨b1, off, cs, rfl, hbF, hcs, hr1, hcell⟩ := (HT.out.up FieldR.stays hF hbw).at_ hlt
            have hy := List.getElem?_eq_getElem hlt
            generalize m.types[kk] = y at *
            obtain ⟨c1, c2, c3, c4, rfl, hyn, hyt⟩ := FieldR.form hr1
            obtain ⟨A2, n2, hfm⟩ := TyR.form hyt
            simp only [List.cons.injEq, and_true] at hfm
            obtain ⟨rfl, rfl, rfl, rfl⟩ := hfm
            have hc0 := hcell 0 _ rfl
            have hc1 := hcell 1 _ rfl
            have hc2 := hcell 2 _ rfl
            have hc3 := hcell 3 _ rfl
            have hc4 := hcell 4 _ rfl
            simp only [Nat.add_zero] at hc0
            have hyr := fun U (hU : Below wr.heap.size wr U) => kind_any 10 y.is_ 1 _ F U (by omega) (by omega) (TyR.stays.later hyt hU (foot_up hF hbw)) (foot_up (foot_up hF hbw) hU)
            have hym := fun W => ident_any y.name W hyn
            obtain ⟨z5, hz5⟩ : ∃ z, (nameOk y.name) = z := ⟨_, rfl⟩
            rw [hz5] at hym
            have Z5 := Lib.hid hz5; clear hz5
            obtain ⟨z6, hz6⟩ : ∃ z, (tyErr 10 y.is_) = z := ⟨_, rfl⟩
            rw [hz6] at hyr
            have Z6 := Lib.hid hz6; clear hz6
            have hbl := foot_up hF hbw _ hbF
            have HY := Lib.hid hy; have HYR := Lib.hid hyr; have HYM := Lib.hid hym; have HBR := Lib.hid hbw
            clear hy hyr hym hbw
            clear hcell hr1 hyt hcs x1
            go_upto_region 11 with fail
            have hBf := Box.made wr 78 #[.string y.name, .int .i64 y.is_.kind, .string y.is_.of_, .string y.is_.name, .slice A2 y.is_.args.length n2]
            have hbf : Below wr.heap.size wr (wr.alloc (.cells #[.string y.name, .int .i64 y.is_.kind, .string y.is_.of_, .string y.is_.name, .slice A2 y.is_.args.length n2] 78)) := by go_grown
            have hzf : (wr.alloc (.cells #[.string y.name, .int .i64 y.is_.kind, .string y.is_.of_, .string y.is_.name, .slice A2 y.is_.args.length n2] 78)).heap.size = wr.heap.size + 1 := by simp
            generalize wr.alloc (.cells #[.string y.name, .int .i64 y.is_.kind, .string y.is_.of_, .string y.is_.name, .slice A2 y.is_.args.length n2] 78) = W3 at hBf hbf hzf ⊢
            have n0 := hBf.at_ 0 _ rfl
            go_wp2_with fail
            refine (HYM.out _).mono ?_
            rintro e W4 ⟨rfl, hb4⟩
            have hB4 := hBf.later hb4 hBf.lt
            clear n0 hc0 hc1 hc2 hc3 hc4
            have n1 := hB4.at_ 1 _ rfl
            have n2 := hB4.at_ 2 _ rfl
            have n3 := hB4.at_ 3 _ rfl
            have n4 := hB4.at_ 4 _ rfl
            have hb5 := hbf.trans (hb4.mono hbf.size)
            have HB4 := Lib.hid hB4; have HB5 := Lib.hid hb5
            clear hB4 hb5
            clear hBf hbf hzf hb4
            cases z5 with
            | false =>
              go_wp2_with (first | (go_at_call 71; (with_reducible refine (need_yes _ _).mono ?_); rintro e w' ⟨rfl, rfl⟩) | (go_at_call 71; (with_reducible refine (need_no _ _).mono ?_); rintro e w' ⟨rfl, rfl⟩))
              exact check_out (HC1.out.later (BW.out.trans (HB5.out.mono BW.out.size)) HC1.out.lt) HN.out (HBR.out.trans (HB5.out.mono HBR.out.size)) rfl (by rw [← HE.out, modErr_types H24.out HU0.out (eachErr_hit HY.out (fieldErr_name Z5.out) (by decide) Al.out) (by decide)])
            | true =>
              go_wp2_with (first | (go_at_call 71; (with_reducible refine (need_yes _ _).mono ?_); rintro e w' ⟨rfl, rfl⟩) | (go_at_call 71; (with_reducible refine (need_no _ _).mono ?_); rintro e w' ⟨rfl, rfl⟩))
              refine (HYR.out _ HB5.out).mono ?_
              rintro e W5 ⟨rfl, hb6⟩
              have HB6 := Lib.hid (HB5.out.trans (hb6.mono HB5.out.size))
              clear hb6
              by_cases hz0 : z6 = 0
              · subst hz0
                rw [faultEnd_ok]
                go_wp2_with fail
                go_roundg (m.types.length - (kk + 1))
                case measure => omega
                case rel => exact ⟨kk + 1, by omega, by omega, by go_num, aside (BW.out.trans (HB6.out.mono BW.out.size)), aside (good_succ HY.out (fieldErr_type Z5.out Z6.out) Al.out)⟩
              · rw [faultEnd_no hz0]
                go_wp2_with fail
                exact check_out (HC1.out.later (BW.out.trans (HB6.out.mono BW.out.size)) HC1.out.lt) HN.out (HBR.out.trans (HB6.out.mono HBR.out.size)) rfl (by rw [← HE.out, modErr_types H24.out HU0.out (eachErr_hit HY.out (fieldErr_type Z5.out Z6.out) hz0 Al.out) hz0])
          · have hltz : ¬ (kk : Int) < (m.types.length : Int) := by omega
            obtain rfl : kk = m.types.length := by omega
            have HT0 := Lib.hid (eachErr_none Al.out)
            obtain ⟨V2, rfl⟩ : ∃ W, W = wr := ⟨_, rfl⟩
            have hB2 := HB1.out.later BW.out HB1.out.lt
            have hC2 := HC1.out.later BW.out HC1.out.lt
            clear x1 Al
            have x2 := hB2.at_ 2 _ rfl
            have HB2 := Lib.hid hB2; have HC2 := Lib.hid hC2; have HBV2 := Lib.hid hbw
            clear hB2 hC2 hbw
            go_wp2_with fail
            go_loopg [51] m.funcs.length (fun gg s51 wr => ∃ kk : Nat, kk ≤ m.funcs.length ∧ m.funcs.length - kk ≤ gg ∧ s51 = .int .i64 kk ∧ Aside (Below V2.heap.size V2 wr) ∧ Aside (∀ j, j < kk → ∀ y, m.funcs[j]? = some y → funErr y = 0))
            case atStart => exact ⟨0, Nat.zero_le _, by omega, rfl, Below.refl _ _, aside (fun j hj => absurd hj (Nat.not_lt_zero _))⟩
            case round =>
              clear BW
              obtain ⟨kk, hkk, hg, rfl, BW, Al⟩ := hrel
              have hbw := HBV2.out.trans (BW.out.mono HBV2.out.size)
              by_cases hlt : kk < m.funcs.length
              · have hltz : (kk : Int) < (m.funcs.length : Int) := by omega
                obtain ⟨b1, off, cs, rfl, hbF, hcs, hr1, hcell⟩ := (HFn.out.up FuncR.stays hF hbw).at_ hlt
                have hy := List.getElem?_eq_getElem hlt
                generalize m.funcs[kk] = y at *
                have hyr := fun U (hU : Below wr.heap.size wr U) => fun_any y cs F U (foot_up (foot_up hF hbw) hU) (FuncR.stays.later hr1 hU (foot_up hF hbw))
                obtain ⟨P1, p1, A2, n2, A3, n3, rfl⟩ := FuncR.cells hr1
                have hc0 := hcell 0 _ rfl
                have hc1 := hcell 1 _ rfl
                have hc2 := hcell 2 _ rfl
                have hc3 := hcell 3 _ rfl
                have hc4 := hcell 4 _ rfl
                have hc5 := hcell 5 _ rfl
                have hc6 := hcell 6 _ rfl
                have hc7 := hcell 7 _ rfl
                have hc8 := hcell 8 _ rfl
                have hc9 := hcell 9 _ rfl
                have hc10 := hcell 10 _ rfl
                have hc11 := hcell 11 _ rfl
                simp only [Nat.add_zero] at hc0
                obtain ⟨z6, hz6⟩ : ∃ z, (funErr y) = z := ⟨_, rfl⟩
                rw [hz6] at hyr
                have Z6 := Lib.hid hz6; clear hz6
                have hbl := foot_up hF hbw _ hbF
                have HY := Lib.hid hy; have HYR := Lib.hid hyr; have HBR := Lib.hid hbw
                clear hy hyr hbw
                clear hcell hr1 hcs x2
                go_upto_region 17 with fail
                have hBf := Box.made wr 83 #[.string y.name, .string y.var_, .slice P1 y.params.length p1, .int .i64 y.result.kind, .string y.result.of_, .string y.result.name, .slice A2 y.result.args.length n2, .int .i64 y.body.kind, .int .i64 y.body.n, .string y.body.of_, .string y.body.s, .slice A3 y.body.args.length n3]
                have hbf : Below wr.heap.size wr (wr.alloc (.cells #[.string y.name, .string y.var_, .slice P1 y.params.length p1, .int .i64 y.result.kind, .string y.result.of_, .string y.result.name, .slice A2 y.result.args.length n2, .int .i64 y.body.kind, .int .i64 y.body.n, .string y.body.of_, .string y.body.s, .slice A3 y.body.args.length n3] 83)) := by go_grown
                have hzf : (wr.alloc (.cells #[.string y.name, .string y.var_, .slice P1 y.params.length p1, .int .i64 y.result.kind, .string y.result.of_, .string y.result.name, .slice A2 y.result.args.length n2, .int .i64 y.body.kind, .int .i64 y.body.n, .string y.body.of_, .string y.body.s, .slice A3 y.body.args.length n3] 83)).heap.size = wr.heap.size + 1 := by simp
                generalize wr.alloc (.cells #[.string y.name, .string y.var_, .slice P1 y.params.length p1, .int .i64 y.result.kind, .string y.result.of_, .string y.result.name, .slice A2 y.result.args.length n2, .int .i64 y.body.kind, .int .i64 y.body.n, .string y.body.of_, .string y.body.s, .slice A3 y.body.args.length n3] 83) = W3 at hBf hbf hzf ⊢
                have n0 := hBf.at_ 0 _ rfl
                have n1 := hBf.at_ 1 _ rfl
                have n2 := hBf.at_ 2 _ rfl
                have n3 := hBf.at_ 3 _ rfl
                have n4 := hBf.at_ 4 _ rfl
                have n5 := hBf.at_ 5 _ rfl
                have n6 := hBf.at_ 6 _ rfl
                have n7 := hBf.at_ 7 _ rfl
                have n8 := hBf.at_ 8 _ rfl
                have n9 := hBf.at_ 9 _ rfl
                have n10 := hBf.at_ 10 _ rfl
                have n11 := hBf.at_ 11 _ rfl
                have HBf := Lib.hid hbf
                clear hbf
                clear hBf hzf hc0 hc1 hc2 hc3 hc4 hc5 hc6 hc7 hc8 hc9 hc10 hc11
                go_wp2_with fail
                refine (HYR.out _ HBf.out).mono ?_
                rintro e W5 ⟨rfl, hb6⟩
                have HB6 := Lib.hid (HBf.out.trans (hb6.mono HBf.out.size))
                clear hb6
                by_cases hz0 : z6 = 0
                · subst hz0
                  rw [faultEnd_ok]
                  go_wp2_with fail
                  go_roundg (m.funcs.length - (kk + 1))
                  case measure => omega
                  case rel => exact ⟨kk + 1, by omega, by omega, by go_num, aside (BW.out.trans (HB6.out.mono BW.out.size)), aside (good_succ HY.out Z6.out Al.out)⟩
                · rw [faultEnd_no hz0]
                  go_wp2_with fail
                  exact check_out (HC2.out.later (BW.out.trans (HB6.out.mono BW.out.size)) HC2.out.lt) HN.out (HBR.out.trans (HB6.out.mono HBR.out.size)) rfl (by rw [← HE.out, modErr_funcs H24.out HU0.out HT0.out (eachErr_hit HY.out Z6.out hz0 Al.out)])
              · have hltz : ¬ (kk : Int) < (m.funcs.length : Int) := by omega
                obtain rfl : kk = m.funcs.length := by omega
                have hC3 := HC2.out.later BW.out HC2.out.lt
                have q0 := hC3.at_ 0 _ rfl
                have q1 := hC3.free 0
                have HC3 := Lib.hid hC3; have HBR := Lib.hid hbw
                clear hC3 hbw
                go_wp2_with fail
                have h0 := (HC3.out.put 0 (.int .i64 0))
                exact check_fine h0 (HBR.out.setCell (p := ⟨w.heap.size + 1, 0, none⟩) HN.out _) rfl (by rw [← HE.out, modErr_funcs H24.out HU0.out HT0.out (eachErr_none Al.out)])

end Go.Proofs.YtjaladhdnbhliaaGreatDoor
