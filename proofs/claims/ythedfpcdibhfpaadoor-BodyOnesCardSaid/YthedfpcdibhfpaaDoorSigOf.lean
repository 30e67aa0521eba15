/- What a function of a module takes, and tells: the reference's answer. -/
import Derived.Test.YthedfpcdibhfpaaDoorSignOne
import Derived.Test.YthedfpcdibhfpaaDoorSolvedOf
import Derived.Handy
namespace Go.Proofs.YthedfpcdibhfpaaDoor
open Go.RowKit Go.Shelf

theorem seen_snoc {α : Type} {p : α → Bool} {l : List α} {k : Nat} {x : α} (hx : l[k]? = some x) (h : p x = false) (hb : ∀ j, j < k → ∀ y, l[j]? = some y → p y = false) : ∀ j, j < k + 1 → ∀ y, l[j]? = some y → p y = false := by
  intro j hj y hy
  by_cases e : j = k
  · subst e; rw [hx] at hy; injection hy with hy; subst hy; exact h
  · exact hb j (by omega) y hy

set_option maxRecDepth 100000 in
set_option maxHeartbeats 8000000 in
theorem sigOf_any (m : Module) (l : List Import) (hm0 : modErr m = 0) (hl0 : importsErr l = 0) (k : Nat) (ds : List Value) (lv : Value) (w : World) (hk : k < m.funcs.length)
    (hm : ModuleR w (old w.heap.size) ds m) (hl : SliceOf ImportR 4 72 w (old w.heap.size) lv l) :
    Calls Tryd.prog 41 #[.agg ds.toArray, lv, .int .i64 k] w fun e w' => ∃ cs : List Value, e = .returned (.tuple #[.agg cs.toArray, .int .i64 (sigOne m l k).2]) ∧ Below w.heap.size w w' ∧ SigR w' (fresh w.heap.size w'.heap.size) cs (sigOne m l k).1 := by
  obtain ⟨U1, u1, T1, e1, T2, e2, rfl, _, _, hT⟩ := ModuleR.form hm
  obtain ⟨L1, l1, rfl, _⟩ := hl.form
  have hkz : (k : Int) < (m.funcs.length : Int) := by omega
  have hfx := List.getElem?_eq_getElem hk
  have hff := fun_fine (mod_funcs hm0 _ (List.getElem_mem hk))
  obtain ⟨bt, off, cs, hT1, hbF, hcs, hfr, hcell⟩ := hT.at_ (k := k) hk
  generalize m.funcs[k] = f at hfx hff hfr
  have hst := small_of_err hl0
  have hsv := fun (U : World) (p v : _) (cs : List Value) (hU : Below w.heap.size w U) (hp : tyErr 10 p = 0) (hr : TyR U (old U.heap.size) cs p) =>
    solvedOf_any m l hm0 hl0 10 v p [.slice U1 m.uses.length u1, .slice T1 m.types.length e1, .slice T2 m.funcs.length e2] cs (.slice L1 l.length l1) U hp (Nat.le_refl _) (now_up ModuleR.stays hm hU) (now_lup ImportR.stays hl hU) hr
  have hsz := fun v p => solve_small (m := m) hst 300 v [] p
  obtain ⟨P1, p1, a1, a2, a3, a4, b1, b2, b3, b4, b5, rfl, hn0, hv0, hP, hR, hX⟩ := FuncR.form hfr
  obtain ⟨A2, n2, hf⟩ := TyR.form hR
  simp only [List.cons.injEq, and_true] at hf
  obtain ⟨rfl, rfl, rfl, rfl⟩ := hf
  obtain ⟨A3, n3, hf⟩ := ExR.form hX
  simp only [List.cons.injEq, and_true] at hf
  obtain ⟨rfl, rfl, rfl, rfl, rfl⟩ := hf
  have hS0 := fun h => sig_seen (m := m) (l := l) (k := k) hfx h
  have hS1 := fun (j : Nat) (z : Int) h0 h1 h2 h3 h4 => sig_par (m := m) (l := l) (k := k) (j := j) (z := z) hfx h0 h1 h2 h3 h4
  have hS2 := fun (z : Int) h0 h1 h2 h3 => sig_res (m := m) (l := l) (k := k) (z := z) hfx h0 h1 h2 h3
  have hS3 := fun h0 h1 h2 => sig_fine (m := m) (l := l) (k := k) hfx h0 h1 h2
  obtain ⟨E, hE⟩ : ∃ E, sigOne m l k = E := ⟨_, rfl⟩
  rw [hE] at hS0 hS1 hS2 hS3 ⊢
  obtain ⟨zs, hzs⟩ : ∃ z, (m.funcs.take k).any (fnIs f.name) = z := ⟨_, rfl⟩
  rw [hzs] at hS0 hS1 hS2 hS3
  have hc0 := hcell 0 _ rfl
  have hc1 := hcell 1 _ rfl
  have hc2 := hcell 2 _ rfl
  have hc3 := hcell 3 _ rfl
  have hc4 := hcell 4 _ rfl
  have hc5 := hcell 5 _ rfl
  have hc6 := hcell 6 _ rfl
  have hc7 := hcell 7 _ rfl
  have hc8 := hcell 8 _ rfl
  have hc9 := hcell 9 _ rfl
  have hc10 := hcell 10 _ rfl
  have hc11 := hcell 11 _ rfl
  simp only [Nat.add_zero] at hc0
  subst hT1
  have hTc := hT.cap
  have hPc := hP.cap
  have hq3 : bt < w.heap.size := hbF
  have HS0 := Lib.hid hS0; have HS1 := Lib.hid hS1; have HS2 := Lib.hid hS2; have HS3 := Lib.hid hS3; have HSV := Lib.hid hsv; have HSZ := Lib.hid hsz; have HFF := Lib.hid hff; have HP := Lib.hid hP; have HR := Lib.hid hR; have HTW := Lib.hid hT; have HZS := Lib.hid hzs; have HX := Lib.hid hX
  clear hS0 hS1 hS2 hS3 hsv hsz hff hP hR hT hzs hX
  clear hm hl hfr hcell hcs hm0 hl0 hfx hst hE hbF
  go_enter Tryd.func41, Tryd.ntmps41
  go_upto_region 2 with fail
  have hBb1 := (((Box.made w 26 #[.slice U1 m.uses.length u1, .slice T1 m.types.length e1, .slice (some ⟨bt, off, none⟩) m.funcs.length e2]).alloc (.cells #[.string ⟨#[]⟩, .slice none 0 0, .string ⟨#[]⟩] 77)).alloc (.cells #[.string f.name, .string f.var_, .slice P1 f.params.length p1, .int .i64 f.result.kind, .string f.result.of_, .string f.result.name, .slice A2 f.result.args.length n2, .int .i64 f.body.kind, .int .i64 f.body.n, .string f.body.of_, .string f.body.s, .slice A3 f.body.args.length n3] 90))
  have hBb2 := ((Box.made (w.alloc (.cells #[.slice U1 m.uses.length u1, .slice T1 m.types.length e1, .slice (some ⟨bt, off, none⟩) m.funcs.length e2] 26)) 77 #[.string ⟨#[]⟩, .slice none 0 0, .string ⟨#[]⟩]).alloc (.cells #[.string f.name, .string f.var_, .slice P1 f.params.length p1, .int .i64 f.result.kind, .string f.result.of_, .string f.result.name, .slice A2 f.result.args.length n2, .int .i64 f.body.kind, .int .i64 f.body.n, .string f.body.of_, .string f.body.s, .slice A3 f.body.args.length n3] 90))
  rw [show (w.alloc (.cells #[.slice U1 m.uses.length u1, .slice T1 m.types.length e1, .slice (some ⟨bt, off, none⟩) m.funcs.length e2] 26)).heap.size = w.heap.size + 1 by simp only [World.size_alloc]] at hBb2
  have hBb3 := (Box.made ((w.alloc (.cells #[.slice U1 m.uses.length u1, .slice T1 m.types.length e1, .slice (some ⟨bt, off, none⟩) m.funcs.length e2] 26)).alloc (.cells #[.string ⟨#[]⟩, .slice none 0 0, .string ⟨#[]⟩] 77)) 90 #[.string f.name, .string f.var_, .slice P1 f.params.length p1, .int .i64 f.result.kind, .string f.result.of_, .string f.result.name, .slice A2 f.result.args.length n2, .int .i64 f.body.kind, .int .i64 f.body.n, .string f.body.of_, .string f.body.s, .slice A3 f.body.args.length n3])
  rw [show ((w.alloc (.cells #[.slice U1 m.uses.length u1, .slice T1 m.types.length e1, .slice (some ⟨bt, off, none⟩) m.funcs.length e2] 26)).alloc (.cells #[.string ⟨#[]⟩, .slice none 0 0, .string ⟨#[]⟩] 77)).heap.size = w.heap.size + 1 + 1 by simp only [World.size_alloc]] at hBb3
  have hbb : Below w.heap.size w (((w.alloc (.cells #[.slice U1 m.uses.length u1, .slice T1 m.types.length e1, .slice (some ⟨bt, off, none⟩) m.funcs.length e2] 26)).alloc (.cells #[.string ⟨#[]⟩, .slice none 0 0, .string ⟨#[]⟩] 77)).alloc (.cells #[.string f.name, .string f.var_, .slice P1 f.params.length p1, .int .i64 f.result.kind, .string f.result.of_, .string f.result.name, .slice A2 f.result.args.length n2, .int .i64 f.body.kind, .int .i64 f.body.n, .string f.body.of_, .string f.body.s, .slice A3 f.body.args.length n3] 90)) := by go_grown
  have hzb : (((w.alloc (.cells #[.slice U1 m.uses.length u1, .slice T1 m.types.length e1, .slice (some ⟨bt, off, none⟩) m.funcs.length e2] 26)).alloc (.cells #[.string ⟨#[]⟩, .slice none 0 0, .string ⟨#[]⟩] 77)).alloc (.cells #[.string f.name, .string f.var_, .slice P1 f.params.length p1, .int .i64 f.result.kind, .string f.result.of_, .string f.result.name, .slice A2 f.result.args.length n2, .int .i64 f.body.kind, .int .i64 f.body.n, .string f.body.of_, .string f.body.s, .slice A3 f.body.args.length n3] 90)).heap.size = w.heap.size + 1 + 1 + 1 := by simp only [World.size_alloc]
  generalize ((w.alloc (.cells #[.slice U1 m.uses.length u1, .slice T1 m.types.length e1, .slice (some ⟨bt, off, none⟩) m.funcs.length e2] 26)).alloc (.cells #[.string ⟨#[]⟩, .slice none 0 0, .string ⟨#[]⟩] 77)).alloc (.cells #[.string f.name, .string f.var_, .slice P1 f.params.length p1, .int .i64 f.result.kind, .string f.result.of_, .string f.result.name, .slice A2 f.result.args.length n2, .int .i64 f.body.kind, .int .i64 f.body.n, .string f.body.of_, .string f.body.s, .slice A3 f.body.args.length n3] 90) = W1 at hBb1 hBb2 hBb3 hbb hzb ⊢
  clear hc0 hc1 hc2 hc3 hc4 hc5 hc6 hc7 hc8 hc9 hc10 hc11
  have hT1 := now_lup FuncR.stays HTW.out hbb
  have HB1 := Lib.hid hBb1; have HB2 := Lib.hid hBb2; have HB3 := Lib.hid hBb3; have HB := Lib.hid hbb; have HZ1 := Lib.hid hzb; have HT1 := Lib.hid hT1
  clear hBb1 hBb2 hBb3 hbb hzb hT1
  go_wp2_with fail
  go_loopg [9] k (fun gg s9 wr => ∃ jj : Nat, jj ≤ k ∧ k - jj ≤ gg ∧ s9 = .int .i64 jj ∧ Aside (∀ j, j < jj → ∀ y, m.funcs[j]? = some y → fnIs f.name y = false) ∧ Aside (Below W1.heap.size W1 wr))
  case atStart => exact ⟨0, Nat.zero_le _, by omega, rfl, aside (fun j hj => absurd hj (Nat.not_lt_zero _)), aside (Below.refl _ _)⟩
  case round =>
   obtain ⟨jj, hjj, hg, rfl, A1, BW⟩ := hrel
   obtain ⟨W2, rfl⟩ : ∃ W, W = wr := ⟨_, rfl⟩
   have hB1 := HB1.out.later BW.out HB1.out.lt
   have hB2 := HB2.out.later BW.out HB2.out.lt
   have hB3 := HB3.out.later BW.out HB3.out.lt
   have hbw := HB.out.trans (BW.out.mono HB.out.size)
   by_cases hlt : jj < k
   · have hltz : (jj : Int) < (k : Int) := by omega
     have hjl : jj < m.funcs.length := by omega
     have hjz : (jj : Int) < (m.funcs.length : Int) := by omega
     obtain ⟨bt', off', cs, hT2, hbF, hcs, hr, hcell⟩ := (now_lup FuncR.stays HT1.out BW.out).at_ (k := jj) hjl
     injection hT2 with hT2
     injection hT2 with hT2 hT3
     subst hT2; subst hT3
     obtain ⟨P3, p3, g1, g2, g3, g4, g5, g6, g7, g8, g9, rfl, _⟩ := FuncR.form hr
     have hc0 := hcell 0 _ rfl
     simp only [Nat.add_zero] at hc0
     have hx := List.getElem?_eq_getElem hjl
     generalize m.funcs[jj] = y at *
     have hfi : fnIs f.name y = (y.name.toList == f.name.toList) := by unfold fnIs eqB; simp
     have x2 := hB1.at_ 2 _ rfl
     have q0 := hB3.at_ 0 _ rfl
     have HX := Lib.hid hx; have HBW := Lib.hid hbw
     clear hx hbw
     clear hcell hr hcs hbF hB1 hB3
     cases hq : (y.name.toList == f.name.toList) with
     | true =>
       have hs : (m.funcs.take k).any (fnIs f.name) = true := any_hit (k := jj) (x := y) (by rw [List.getElem?_take_of_lt hlt]; exact HX.out) (hfi.trans hq)
       have hE := HS0.out (HZS.out.symm.trans hs)
       subst hE
       clear hs hfi
       have r0 := hB2.at_ 0 _ rfl
       have r1 := hB2.at_ 1 _ rfl
       have r2 := hB2.at_ 2 _ rfl
       have g0 := hB2.free 0
       have g1 := hB2.free 1
       have g2 := hB2.free 2
       clear hB2
       go_wp2_with fail
       go_quiet (fail)
       go_wp2_with fail
       exact bodyPost_ret (v := .tuple #[.agg #[.string ⟨#[]⟩, .slice none 0 0, .string ⟨#[]⟩], .int .i64 4]) (by simp [results, Tryd.results41, go_sem, r0, r1, r2]) rfl ⟨_, rfl, (((below_drewN HBW.out _).setCell (by simp <;> omega) _).setCell (by simp <;> omega) _).setCell (by simp <;> omega) _, noSig_row⟩
     | false =>
       have HQ := Lib.hid (hfi.trans hq)
       clear hfi hB2
       go_wp2_with fail
       go_quiet (fail)
       go_wp2_with fail
       go_roundg (k - (jj + 1))
       case measure => omega
       case rel => exact ⟨jj + 1, by omega, by omega, by go_num, aside (seen_snoc HX.out HQ.out A1.out), aside (below_drewN BW.out _)⟩
   · have hltz : ¬ (jj : Int) < (k : Int) := by omega
     obtain rfl : jj = k := by omega
     have hs : (m.funcs.take jj).any (fnIs f.name) = false := any_miss (n := jj) (by simp; omega) (fun j hj y hy => A1.out j hj y (by rw [List.getElem?_take_of_lt hj] at hy; exact hy))
     obtain rfl : zs = false := HZS.out.symm.trans hs
     clear A1 BW hs
     have q0 := hB3.at_ 0 _ rfl
     have q1 := hB3.at_ 1 _ rfl
     have q2 := hB3.at_ 2 _ rfl
     have q3 := hB3.at_ 3 _ rfl
     have q4 := hB3.at_ 4 _ rfl
     have q5 := hB3.at_ 5 _ rfl
     have q6 := hB3.at_ 6 _ rfl
     have HBW := Lib.hid hbw
     clear hbw
     go_upto_region 8 with fail
     obtain ⟨W3, hW3⟩ : ∃ W, W2.alloc (.cells #[.string f.name, .slice none 0 0, .string ⟨#[]⟩] 77) = W := ⟨_, rfl⟩
     have hBs := Box.made W2 77 #[.string f.name, .slice none 0 0, .string ⟨#[]⟩]
     have hbs : Below W2.heap.size W2 (W2.alloc (.cells #[.string f.name, .slice none 0 0, .string ⟨#[]⟩] 77)) := by go_grown
     have hzs : (W2.alloc (.cells #[.string f.name, .slice none 0 0, .string ⟨#[]⟩] 77)).heap.size = W2.heap.size + 1 := by simp
     rw [hW3] at hBs hbs hzs ⊢
     have HW3 := Lib.hid hW3; clear hW3
     have hb3 := HBW.out.trans (hbs.mono HBW.out.size)
     have hB1' := hB1.later hbs hB1.lt
     have hB2' := hB2.later hbs hB2.lt
     have hB3' := hB3.later hbs hB3.lt
     clear q0 q1 q2 q3 q4 q5 q6 HB1 HB2 HB3 HB hB1' hB2'
     have q0 := hB3'.at_ 0 _ rfl
     have q1 := hB3'.at_ 1 _ rfl
     have q2 := hB3'.at_ 2 _ rfl
     have q3 := hB3'.at_ 3 _ rfl
     have q4 := hB3'.at_ 4 _ rfl
     have q5 := hB3'.at_ 5 _ rfl
     have q6 := hB3'.at_ 6 _ rfl
     have hlt1 := hB1.lt
     have hlt2 := hB2.lt
     have hlt3 := hB3.lt
     have HB1 := Lib.hid hB1; have HB2 := Lib.hid hB2; have HB3 := Lib.hid hB3; have HBs := Lib.hid hBs; have Hzs := Lib.hid hzs; have HLT1 := Lib.hid hlt1; have HLT2 := Lib.hid hlt2; have HLT3 := Lib.hid hlt3
     clear hB1 hB2 hB3 hBs hzs hlt1 hlt2 hlt3
     clear hbs hB3' hb3
     go_wp2_with fail
     have hfb := HFF.out.2.1
     go_loopg [11, 12, 13, 14] f.params.length (fun gg s11 s12 s13 s14 wr => ∃ (kk : Nat) (A : Option Addr) (n c : Nat), kk ≤ f.params.length ∧ f.params.length - kk ≤ gg ∧ s11 = .int .i64 kk ∧ Aside (n = kk) ∧ Aside (∀ j, j < kk → parErr m l f j = 0) ∧
       Aside (Box wr W2.heap.size 77 #[.string f.name, .slice A n c, .string ⟨#[]⟩]) ∧ Aside (Owns StrR 1 9 W3.heap.size wr none_ (.slice A n c) ((f.params.take kk).map (parTxt m l f))) ∧ Aside (Below W2.heap.size W2 wr))
     case atStart => exact ⟨0, none, 0, 0, Nat.zero_le _, by omega, rfl, aside rfl, aside (fun j hj => absurd hj (Nat.not_lt_zero _)), aside HBs.out, aside Owns.nil_, aside (HW3.out ▸ (Below.refl _ _).alloc (Nat.le_refl _) _)⟩
     case round =>
       obtain ⟨kk, A, n, c, hkk, hg, rfl, hn, hpe, hBx, hO, BW⟩ := hrel
       obtain ⟨wo, rfl⟩ : ∃ W, W = wr := ⟨_, rfl⟩
       by_cases hlt : kk < f.params.length
       · have hltz : (kk : Int) < (f.params.length : Int) := by omega
         have hbw := HBW.out.trans (BW.out.mono HBW.out.size)
         have hat := now_lup FieldR.stays HP.out hbw
         obtain ⟨bp, offp, cs, hP1, hbF, hcs, hpr, hcell⟩ := hat.at_ (k := kk) hlt
         have hpx := List.getElem?_eq_getElem hlt
         have hpf := HFF.out.2.2.1 _ (List.getElem_mem hlt)
         generalize f.params[kk] = p at hpx hpf hpr
         obtain ⟨d1, d2, d3, d4, rfl, hpn, hpt⟩ := FieldR.form hpr
         obtain ⟨A4, n4, hf⟩ := TyR.form hpt
         simp only [List.cons.injEq, and_true] at hf
         obtain ⟨rfl, rfl, rfl, rfl⟩ := hf
         have hc0 := hcell 0 _ rfl
         have hc1 := hcell 1 _ rfl
         have hc2 := hcell 2 _ rfl
         have hc3 := hcell 3 _ rfl
         have hc4 := hcell 4 _ rfl
         simp only [Nat.add_zero] at hc0
         subst hP1
         have hqp : bp < wo.heap.size := hbF
         have htk := hat.take (k := kk) (by omega)
         have htl : (f.params.take kk).length = kk := by simp; omega
         have hp0 := fun h => par_seen (m := m) (l := l) hpx h
         have hp1 := fun h => par_solve (m := m) (l := l) hpx h
         obtain ⟨za, hza⟩ : ∃ z, (f.params.take kk).any (fieldIs p.name) = z := ⟨_, rfl⟩
         rw [hza] at hp0 hp1
         have hB1 := HB1.out.later BW.out HLT1.out
         have hB2 := HB2.out.later BW.out HLT2.out
         have hB3 := HB3.out.later BW.out HLT3.out
         have q0 := hB3.at_ 0 _ rfl
         have q1 := hB3.at_ 1 _ rfl
         have q2 := hB3.at_ 2 _ rfl
         have x0 := hB1.at_ 0 _ rfl
         have x1 := hB1.at_ 1 _ rfl
         have x2 := hB1.at_ 2 _ rfl
         have hBs := hBx.out
         have HAT := Lib.hid hat; have HPF := Lib.hid hpf; have HPX := Lib.hid hpx; have HPT := Lib.hid hpt; have HBw := Lib.hid hbw; have HP0 := Lib.hid hp0; have HP1 := Lib.hid hp1; have HTL := Lib.hid htl; have HZA := Lib.hid hza; have HC2 := Lib.hid hB2; have HC3 := Lib.hid hB3; have HC1 := Lib.hid hB1; have HBs' := Lib.hid hBs
         clear hat hpf hpx hpt hbw hp0 hp1 htl hza hB2 hB3 hB1 hBs
         clear hpr hcell hcs hbF htk hBx
         have hrd : ∀ W4, Below wo.heap.size wo W4 → W4.cell? ⟨bp, offp + kk * 5, none⟩ = some (.string p.name) ∧ W4.cell? ⟨w.heap.size + 1 + 1, 2, none⟩ = some (.slice (some ⟨bp, offp, none⟩) f.params.length p1) := fun W4 h => ⟨(h.cell (p := ⟨bp, offp + kk * 5, none⟩) hqp).trans hc0, (h.cell (p := ⟨w.heap.size + 1 + 1, 2, none⟩) HC3.out.lt).trans q2⟩
         have HRD := Lib.hid hrd
         clear hrd
         clear q0 q1 x0 x1 x2 hc0
         go_wp2_with fail
         clear q2
         go_loopg [12] kk (fun gg s12 wr => ∃ jj : Nat, jj ≤ kk ∧ kk - jj ≤ gg ∧ s12 = .int .i64 jj ∧ Aside (∀ j, j < jj → ∀ y, f.params[j]? = some y → fieldIs p.name y = false) ∧ Aside (Below wo.heap.size wo wr))
         case atStart => exact ⟨0, Nat.zero_le _, by omega, rfl, aside (fun j hj => absurd hj (Nat.not_lt_zero _)), aside (Below.refl _ _)⟩
         case round =>
          obtain ⟨jj, hjj, hg2, rfl, A1, BW4⟩ := hrel
          obtain ⟨W4, rfl⟩ : ∃ W, W = wr := ⟨_, rfl⟩
          obtain ⟨k0, k2⟩ := HRD.out W4 BW4.out
          have hB3 := HC3.out.later BW4.out HC3.out.lt
          have hB2 := HC2.out.later BW4.out HC2.out.lt
          have hbw := HBw.out.trans (BW4.out.mono HBw.out.size)
          by_cases hlt2 : jj < kk
          · have hltz2 : (jj : Int) < (kk : Int) := by omega
            have hjl : jj < f.params.length := by omega
            have hjz : (jj : Int) < (f.params.length : Int) := by omega
            obtain ⟨bt', off', cs, hT2, hbF, hcs, hr, hcell⟩ := (now_lup FieldR.stays HAT.out BW4.out).at_ (k := jj) hjl
            injection hT2 with hT2
            injection hT2 with hT2 hT3
            subst hT2; subst hT3
            obtain ⟨g1, g2, g3, g4, rfl, _⟩ := FieldR.form hr
            have hc0 := hcell 0 _ rfl
            simp only [Nat.add_zero] at hc0
            have hx := List.getElem?_eq_getElem hjl
            generalize f.params[jj] = y at *
            have hfi : fieldIs p.name y = (y.name.toList == p.name.toList) := by unfold fieldIs eqB; simp
            have HX := Lib.hid hx; have HBW5 := Lib.hid hbw
            clear hx hbw
            clear hcell hr hcs hbF hB3
            cases hq : (y.name.toList == p.name.toList) with
            | true =>
              have hs : (f.params.take kk).any (fieldIs p.name) = true := any_hit (k := jj) (x := y) (by rw [List.getElem?_take_of_lt hlt2]; exact HX.out) (hfi.trans hq)
              have hE := HS1.out kk 4 (by first | rfl | trivial) hlt hpe.out (HP0.out (HZA.out.symm.trans hs)) (by decide)
              subst hE
              clear hs hfi
              have r0 := hB2.at_ 0 _ rfl
              have r1 := hB2.at_ 1 _ rfl
              have r2 := hB2.at_ 2 _ rfl
              have g0 := hB2.free 0
              have g1 := hB2.free 1
              have g2 := hB2.free 2
              clear hB2
              go_wp2_with fail
              go_quiet (fail)
              go_wp2_with fail
              exact bodyPost_ret (v := .tuple #[.agg #[.string ⟨#[]⟩, .slice none 0 0, .string ⟨#[]⟩], .int .i64 4]) (by simp [results, Tryd.results41, go_sem, r0, r1, r2]) rfl ⟨_, rfl, (((below_drewN HBW5.out _).setCell (by simp <;> omega) _).setCell (by simp <;> omega) _).setCell (by simp <;> omega) _, noSig_row⟩
            | false =>
              have HQ := Lib.hid (hfi.trans hq)
              clear hfi hB2
              go_wp2_with fail
              go_quiet (fail)
              go_wp2_with fail
              go_roundg (kk - (jj + 1))
              case measure => omega
              case rel => exact ⟨jj + 1, by omega, by omega, by go_num, aside (seen_snoc HX.out HQ.out A1.out), aside (below_drewN BW4.out _)⟩
          · have hltz2 : ¬ (jj : Int) < (kk : Int) := by omega
            obtain rfl : jj = kk := by omega
            have hs : (f.params.take jj).any (fieldIs p.name) = false := any_miss (n := jj) (by rw [HTL.out]; exact Nat.le_refl _) (fun j hj y hy => A1.out j hj y (by rw [List.getElem?_take_of_lt hj] at hy; exact hy))
            have hpe1 := HP1.out (HZA.out.symm.trans hs)
            have hB1 := HC1.out.later BW4.out HC1.out.lt
            have hBs := HBs'.out.later BW4.out HBs'.out.lt
            have hb4 := BW.out.trans (BW4.out.mono BW.out.size)
            have hO5 := hO.out.below StrR.stays BW4.out
            have hpt5 := now_up TyR.stays HPT.out BW4.out
            have hsv := fun U (hU : Below W4.heap.size W4 U) => HSV.out U p.is_ f.var_ _ (hbw.trans (hU.mono hbw.size)) HPF.out.2 (now_up TyR.stays hpt5 hU)
            have hpt1 : parTxt m l f p = (solveOf m l f.var_ p.is_).1 := rfl
            have hsz : (solveOf m l f.var_ p.is_).1.size ≤ 600 := HSZ.out f.var_ p.is_
            have hS1 := fun z h h2 => HS1.out jj z (by first | rfl | trivial) hlt hpe.out h h2
            generalize solveOf m l f.var_ p.is_ = r at hsv hpe1 hpt1 hsz
            obtain ⟨S, C⟩ := r
            dsimp only at hsv hpe1 hpt1 hsz
            have hlb : bp < W4.heap.size := Nat.lt_of_lt_of_le hqp BW4.out.size
            have kc1 := (BW4.out.cell (p := ⟨bp, offp + jj * 5 + 1, none⟩) hqp).trans hc1
            have kc2 := (BW4.out.cell (p := ⟨bp, offp + jj * 5 + 2, none⟩) hqp).trans hc2
            have kc3 := (BW4.out.cell (p := ⟨bp, offp + jj * 5 + 3, none⟩) hqp).trans hc3
            have kc4 := (BW4.out.cell (p := ⟨bp, offp + jj * 5 + 4, none⟩) hqp).trans hc4
            have hl1 := hB1.lt
            have hl3 := hB3.lt
            have x0 := hB1.at_ 0 _ rfl
            have x1 := hB1.at_ 1 _ rfl
            have x2 := hB1.at_ 2 _ rfl
            have q0 := hB3.at_ 0 _ rfl
            have q1 := hB3.at_ 1 _ rfl
            have q2 := hB3.at_ 2 _ rfl
            have q3 := hB3.at_ 3 _ rfl
            have q4 := hB3.at_ 4 _ rfl
            have q5 := hB3.at_ 5 _ rfl
            have q6 := hB3.at_ 6 _ rfl
            have hdr : Below W4.heap.size W4 W4.drew := by go_grown
            have HS := Lib.hid (show ∀ w', Below W4.heap.size W4 w' → (w'.cell? ⟨w.heap.size, 0, none⟩ = some (.slice U1 m.uses.length u1) ∧ w'.cell? ⟨w.heap.size, 1, none⟩ = some (.slice T1 m.types.length e1) ∧ w'.cell? ⟨w.heap.size, 2, none⟩ = some (.slice (some ⟨bt, off, none⟩) m.funcs.length e2) ∧ w'.cell? ⟨w.heap.size + 1 + 1, 1, none⟩ = some (.string f.var_) ∧ w'.cell? ⟨w.heap.size + 1 + 1, 2, none⟩ = some (.slice (some ⟨bp, offp, none⟩) f.params.length p1) ∧ w'.cell? ⟨bp, offp + jj * 5 + 1, none⟩ = some (.int .i64 p.is_.kind) ∧ w'.cell? ⟨bp, offp + jj * 5 + 2, none⟩ = some (.string p.is_.of_) ∧ w'.cell? ⟨bp, offp + jj * 5 + 3, none⟩ = some (.string p.is_.name) ∧ w'.cell? ⟨bp, offp + jj * 5 + 4, none⟩ = some (.slice A4 p.is_.args.length n4)) from fun w' h => ⟨(h.cell (p := ⟨w.heap.size, 0, none⟩) hl1).trans x0, (h.cell (p := ⟨w.heap.size, 1, none⟩) hl1).trans x1, (h.cell (p := ⟨w.heap.size, 2, none⟩) hl1).trans x2, (h.cell (p := ⟨w.heap.size + 1 + 1, 1, none⟩) hl3).trans q1, (h.cell (p := ⟨w.heap.size + 1 + 1, 2, none⟩) hl3).trans q2, (h.cell (p := ⟨bp, offp + jj * 5 + 1, none⟩) hlb).trans kc1, (h.cell (p := ⟨bp, offp + jj * 5 + 2, none⟩) hlb).trans kc2, (h.cell (p := ⟨bp, offp + jj * 5 + 3, none⟩) hlb).trans kc3, (h.cell (p := ⟨bp, offp + jj * 5 + 4, none⟩) hlb).trans kc4⟩)
            have HB1' := Lib.hid hB1; have HB2' := Lib.hid hB2; have HB3' := Lib.hid hB3; have HBs5 := Lib.hid hBs; have HBw5 := Lib.hid hbw; have HB5 := Lib.hid hb4; have HO5 := Lib.hid hO5; have HSVP := Lib.hid hsv; have HPE := Lib.hid hpe1; have HPT1 := Lib.hid hpt1; have HSZP := Lib.hid hsz; have HS1' := Lib.hid hS1; have HBk := Lib.hid hdr
            clear hB1 hB2 hB3 hBs hbw hb4 hO5 hsv hpe1 hpt1 hsz hS1 hdr
            clear hpt5 hs k0 k2 A1 hc1 hc2 hc3 hc4 hO BW4
            go_wp2_with fail
            go_upto_region 16 with fail
            go_cut [13, 14] (fun s13 s14 wc => s13 = .string S ∧ s14 = .int .i64 C ∧ Aside (Below W4.heap.size W4 wc))
            case first =>
              go_region_held3 (fun w' => w'.cell? ⟨w.heap.size, 0, none⟩ = some (.slice U1 m.uses.length u1) ∧ w'.cell? ⟨w.heap.size, 1, none⟩ = some (.slice T1 m.types.length e1) ∧ w'.cell? ⟨w.heap.size, 2, none⟩ = some (.slice (some ⟨bt, off, none⟩) m.funcs.length e2) ∧ w'.cell? ⟨w.heap.size + 1 + 1, 1, none⟩ = some (.string f.var_) ∧ w'.cell? ⟨w.heap.size + 1 + 1, 2, none⟩ = some (.slice (some ⟨bp, offp, none⟩) f.params.length p1) ∧ w'.cell? ⟨bp, offp + jj * 5 + 1, none⟩ = some (.int .i64 p.is_.kind) ∧ w'.cell? ⟨bp, offp + jj * 5 + 2, none⟩ = some (.string p.is_.of_) ∧ w'.cell? ⟨bp, offp + jj * 5 + 3, none⟩ = some (.string p.is_.name) ∧ w'.cell? ⟨bp, offp + jj * 5 + 4, none⟩ = some (.slice A4 p.is_.args.length n4))
                (exact HS.out _ (by first | exact HBk.out | exact HBk.out.alloc HBk.out.size _ | (go_grown; done) | exact (HBk.out.alloc HBk.out.size _).alloc (HBk.out.alloc HBk.out.size _).size _ | exact HBk.out.setCell (Nat.le_refl _) _ | exact (HBk.out.setCell (Nat.le_refl _) _).setCell (Nat.le_refl _) _))
                ((go_at_call 82; (with_reducible refine (HSVP.out _ HBk.out).mono ?_); rintro e w7 ⟨rfl, hb7⟩; have hb8 := below_step HBk.out hb7; have HBk := Lib.hid hb8; clear hb7 hb8))
              all_goals
                go_wp2_with fail
                go_meet
                exact ⟨rfl, rfl, aside HBk.out⟩
            case rest =>
            obtain ⟨rfl, rfl, hb6⟩ := hcut
            obtain ⟨W6, rfl⟩ : ∃ W, W = wc := ⟨_, rfl⟩
            have hB2 := HB2'.out.later hb6.out HB2'.out.lt
            have hBs := HBs5.out.later hb6.out HBs5.out.lt
            have hbw := HBw5.out.trans (hb6.out.mono HBw5.out.size)
            have hb4 := HB5.out.trans (hb6.out.mono HB5.out.size)
            have hO6 := HO5.out.below StrR.stays hb6.out
            clear q0 q1 q2 q3 q4 q5 q6 x0 x1 x2 kc1 kc2 kc3 kc4 HSVP hb6 HS
            by_cases hC : C = 0
            · subst hC
              have s1 := hBs.at_ 1 _ rfl
              have g1 := hBs.free 1
              have hoS : okS S := by have := HSZP.out; unfold okS; omega
              have h10 : (jj + 1) ≤ 8 := by omega
              have hW3 := hb4.size
              have hz3 := Hzs.out
              have hlm : ((f.params.take jj).map (parTxt m l f)).length = jj := by simp; omega
              have hO6' : Owns StrR 1 9 W3.heap.size W6 none_ (.slice A n c) ((f.params.take jj).map (parTxt m l f)) := hO6
              have HBs6 := Lib.hid hBs; have HBw6 := Lib.hid hbw; have HB6 := Lib.hid hb4; have HO6 := Lib.hid hO6'; have HLM := Lib.hid hlm
              clear hBs hbw hb4 hO6' hlm
              clear hO6 hB2
              go_wp2_with (at_builtin; go_must ((refine wpList_push StrR.stays (.string ⟨#[]⟩) [.string S] S rfl rfl Tryd.underlying22 (bytes := 16) (by kernel_rfl) HO6.out rfl rfl (by decide) rfl rfl (show StrR W6 none_ _ _ from ⟨rfl, hoS⟩) (StrR.one (w := W6) (F := none_) _ _ ⟨rfl, hoS⟩) (fun k hk => hk.elim) (by unfold maxLen; have := HLM.out; omega) (by have := HLM.out; omega) (by have := HBs6.out.lt; omega) ?_); (intro A5 c5 W7 hO7 hgr _; have hb7 := HB6.out.trans (hgr.below (B := W2.heap.size) (by omega) HB6.out.size); have hB7 := hgr.box HBs6.out (by omega); clear s1 g1; have s1 := hB7.at_ 1 _ rfl; have g1 := hB7.free 1; have HO7 := Lib.hid hO7; have HB7 := Lib.hid hb7; have HBs7 := Lib.hid hB7; clear hO7 hgr hb7 hB7)))
              go_roundg (f.params.length - (jj + 1))
              case measure => omega
              case rel =>
                have hlm := HLM.out
                refine ⟨jj + 1, A5, jj + 1, c5, by omega, by omega, by go_num, aside rfl, aside (seen_all hpe.out HPE.out), aside ?_, aside ?_, aside (HB7.out.setCell (by simp) _)⟩
                · have h := HBs7.out.put 1 (.slice A5 (jj + 1) c5)
                  simpa using h
                · have h1 := (HO7.out.wider StrR.stays (F' := none_) (fun k hk => hk.elim id id) (fun k hk => hk.elim)).set StrR.stays (p := ⟨W2.heap.size, 1, none⟩) (by have := Hzs.out; simp; omega) (fun k hk => hk.elim) (.slice A5 (jj + 1) c5)
                  have h2 : (f.params.take (jj + 1)).map (parTxt m l f) = (f.params.take jj).map (parTxt m l f) ++ [S] := by
                    rw [List.take_add_one, HPX.out, List.map_append]
                    simp [HPT1.out]
                  rw [h2]
                  rw [hlm] at h1
                  exact h1
            · have hCz : (C == 0) = false := by simp [hC]
              have r0 := hB2.at_ 0 _ rfl
              have r1 := hB2.at_ 1 _ rfl
              have r2 := hB2.at_ 2 _ rfl
              have g0 := hB2.free 0
              have g1 := hB2.free 1
              have g2 := hB2.free 2
              have hE := HS1'.out C HPE.out hC
              subst hE
              have HBW5 := Lib.hid hbw
              clear hbw
              clear hB2 hBs hb4 hO6
              go_wp2_with fail
              exact bodyPost_ret (v := .tuple #[.agg #[.string ⟨#[]⟩, .slice none 0 0, .string ⟨#[]⟩], .int .i64 C]) (by simp [results, Tryd.results41, go_sem, r0, r1, r2]) rfl ⟨_, rfl, ((HBW5.out.setCell (by simp <;> omega) _).setCell (by simp <;> omega) _).setCell (by simp <;> omega) _, noSig_row⟩
       · have hltz : ¬ (kk : Int) < (f.params.length : Int) := by omega
         obtain rfl : kk = f.params.length := by omega
         have hbw := HBW.out.trans (BW.out.mono HBW.out.size)
         have hB1 := HB1.out.later BW.out HLT1.out
         have hB2 := HB2.out.later BW.out HLT2.out
         have hB3 := HB3.out.later BW.out HLT3.out
         have hBs := hBx.out
         have hall := hpe.out
         have hsv := fun U (hU : Below wo.heap.size wo U) => HSV.out U f.result f.var_ _ (hbw.trans (hU.mono hbw.size)) HFF.out.2.2.2.1 (now_up TyR.stays HR.out (hbw.trans (hU.mono hbw.size)))
         have hsz : (solveOf m l f.var_ f.result).1.size ≤ 600 := HSZ.out f.var_ f.result
         have hS2 := fun z h h2 => HS2.out z (by first | rfl | trivial) hall h h2
         have hS3 := fun h => HS3.out (by first | rfl | trivial) hall h
         have hlm : ((f.params.take f.params.length).map (parTxt m l f)).length = f.params.length := by simp
         have htk : (f.params.take f.params.length).map (parTxt m l f) = f.params.map (parTxt m l f) := by rw [List.take_length]
         rw [htk] at hO hlm
         generalize solveOf m l f.var_ f.result = r at hsv hS2 hS3 hsz
         obtain ⟨S, C⟩ := r
         dsimp only at hsv hS2 hS3 hsz
         clear q0 q1 q2 q3 q4 q5 q6
         have x0 := hB1.at_ 0 _ rfl
         have x1 := hB1.at_ 1 _ rfl
         have x2 := hB1.at_ 2 _ rfl
         have q0 := hB3.at_ 0 _ rfl
         have q1 := hB3.at_ 1 _ rfl
         have q2 := hB3.at_ 2 _ rfl
         have q3 := hB3.at_ 3 _ rfl
         have q4 := hB3.at_ 4 _ rfl
         have q5 := hB3.at_ 5 _ rfl
         have q6 := hB3.at_ 6 _ rfl
         have hl1 := hB1.lt
         have hl3 := hB3.lt
         have hdr : Below wo.heap.size wo wo.drew := by go_grown
         have HS := Lib.hid (show ∀ w', Below wo.heap.size wo w' → (w'.cell? ⟨w.heap.size, 0, none⟩ = some (.slice U1 m.uses.length u1) ∧ w'.cell? ⟨w.heap.size, 1, none⟩ = some (.slice T1 m.types.length e1) ∧ w'.cell? ⟨w.heap.size, 2, none⟩ = some (.slice (some ⟨bt, off, none⟩) m.funcs.length e2) ∧ w'.cell? ⟨w.heap.size + 1 + 1, 1, none⟩ = some (.string f.var_) ∧ w'.cell? ⟨w.heap.size + 1 + 1, 3, none⟩ = some (.int .i64 f.result.kind) ∧ w'.cell? ⟨w.heap.size + 1 + 1, 4, none⟩ = some (.string f.result.of_) ∧ w'.cell? ⟨w.heap.size + 1 + 1, 5, none⟩ = some (.string f.result.name) ∧ w'.cell? ⟨w.heap.size + 1 + 1, 6, none⟩ = some (.slice A2 f.result.args.length n2)) from fun w' h => ⟨(h.cell (p := ⟨w.heap.size, 0, none⟩) hl1).trans x0, (h.cell (p := ⟨w.heap.size, 1, none⟩) hl1).trans x1, (h.cell (p := ⟨w.heap.size, 2, none⟩) hl1).trans x2, (h.cell (p := ⟨w.heap.size + 1 + 1, 1, none⟩) hl3).trans q1, (h.cell (p := ⟨w.heap.size + 1 + 1, 3, none⟩) hl3).trans q3, (h.cell (p := ⟨w.heap.size + 1 + 1, 4, none⟩) hl3).trans q4, (h.cell (p := ⟨w.heap.size + 1 + 1, 5, none⟩) hl3).trans q5, (h.cell (p := ⟨w.heap.size + 1 + 1, 6, none⟩) hl3).trans q6⟩)
         have HB1' := Lib.hid hB1; have HB2' := Lib.hid hB2; have HBs' := Lib.hid hBs; have HBw5 := Lib.hid hbw; have HSVP := Lib.hid hsv; have HSZP := Lib.hid hsz; have HS2' := Lib.hid hS2; have HS3' := Lib.hid hS3; have HLM := Lib.hid hlm; have HBk := Lib.hid hdr
         clear hB1 hB2 hBs hbw hsv hsz hS2 hS3 hlm hdr
         clear hB3 htk hall hpe
         go_wp2_with fail
         refine (HSVP.out _ (Below.refl _ _)).mono ?_
         rintro e W6 ⟨rfl, hb6⟩
         clear HS
         have hB2 := HB2'.out.later hb6 HB2'.out.lt
         have hBs := HBs'.out.later hb6 HBs'.out.lt
         have hbw := HBw5.out.trans (hb6.mono HBw5.out.size)
         have hO6 := hO.out.below StrR.stays hb6
         have hoS : okS S := by have := HSZP.out; unfold okS; omega
         clear q0 q1 q2 q3 q4 q5 q6 x0 x1 x2 HSVP hb6
         have r0 := hB2.at_ 0 _ rfl
         have r1 := hB2.at_ 1 _ rfl
         have r2 := hB2.at_ 2 _ rfl
         have g0 := hB2.free 0
         have g1 := hB2.free 1
         have g2 := hB2.free 2
         have s0 := hBs.at_ 0 _ rfl
         have s1 := hBs.at_ 1 _ rfl
         have s2 := hBs.at_ 2 _ rfl
         have h2 := hBs.free 2
         have hw2 : w.heap.size + 1 < W2.heap.size := HLT2.out
         have hne : w.heap.size + 1 ≠ W2.heap.size := by omega
         have hne2 : W2.heap.size ≠ w.heap.size + 1 := by omega
         have hlow := HBW.out.size
         have hsl := hO6.slice StrR.stays (by_ := 16) (F' := fresh W3.heap.size W6.heap.size) (fun k hk => hk.elim) (fun k h1 h2 => ⟨h1, h2⟩) (by have := HLM.out; omega) (by have := HLM.out; omega)
         have HBw6 := Lib.hid hbw; have HSL := Lib.hid hsl; have HLOW := Lib.hid hlow
         clear hbw hsl hlow
         clear hB2 hBs hO6
         by_cases hC : C = 0
         · subst hC
           have hE := HS3'.out rfl
           subst hE
           go_wp2_with fail
           have hz := Hzs.out
           exact bodyPost_ret (v := .tuple #[.agg #[.string f.name, .slice A n c, .string S], .int .i64 0]) (by simp [results, Tryd.results41, go_sem, r0, r1, r2]) rfl ⟨_, rfl, (((HBw6.out.setCell (by have := HLOW.out; simp; omega) _).setCell (by simp <;> omega) _).setCell (by simp <;> omega) _).setCell (by simp <;> omega) _, _, rfl, hn0, hoS,
             HSL.out.stays StrR.stays (fun k hk => by have := HLOW.out; exact ⟨by have := hk.1; omega, by simpa only [size_set] using hk.2⟩) (((((Keeps.refl _ _).setCell (fresh_no (by simp; omega)) _).setCell (fresh_no (by simp; omega)) _).setCell (fresh_no (by simp; omega)) _).setCell (fresh_no (by simp; omega)) _)⟩
         · have hCz : (C == 0) = false := by simp [hC]
           have hE := HS2'.out C rfl hC
           subst hE
           go_wp2_with fail
           exact bodyPost_ret (v := .tuple #[.agg #[.string ⟨#[]⟩, .slice none 0 0, .string ⟨#[]⟩], .int .i64 C]) (by simp [results, Tryd.results41, go_sem, r0, r1, r2]) rfl ⟨_, rfl, ((HBw6.out.setCell (by simp <;> omega) _).setCell (by simp <;> omega) _).setCell (by simp <;> omega) _, noSig_row⟩

end Go.Proofs.YthedfpcdibhfpaaDoor
