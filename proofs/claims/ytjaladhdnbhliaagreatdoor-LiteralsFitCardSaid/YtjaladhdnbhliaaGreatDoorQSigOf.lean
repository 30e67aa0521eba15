/- Parts. -/
import Derived.Test.YtjaladhdnbhliaaGreatDoorQSignOne
import Derived.Test.YtjaladhdnbhliaaGreatDoorQFaceGood
set_option maxHeartbeats 8000000
namespace Go.Proofs.YtjaladhdnbhliaaGreatDoor
open Go.Proofs.Tryz
open Go.RowKit Go.Shelf
theorem Qg{α:Type}{p:α→Bool}{l:List α}{k:Nat}{x:α}(hx:l[k]? =some x)(h:p x=false)(hb:∀j,j<k→∀y,l[j]? =some y→p y=false):∀j,j<k+1→∀y,l[j]? =some y→p y=false:=by
 intro j hj y hy
 by_cases e:j=k
 ·subst e;rw[hx]at hy;injection hy with hy;subst hy;exact h
 ·exact hb j (by omega) y hy
set_option maxRecDepth 100000 in
theorem Qi (m : Module) (l : List Import) (hm0 : dD m = 0) (hl0 : bG l = 0) (k : Nat) (ds : List Value) (lv : Value) (w : World) (hk : k < m.funcs.length)
    (hm : aN w (old w.heap.size) ds m) (hl : SliceOf aU 4 72 w (old w.heap.size) lv l) :
    Calls prog 100 #[.agg ds.toArray, lv, .int .i64 k] w fun e w' => ∃ cs : List Value, e = .returned (.tuple #[.agg cs.toArray, .int .i64 (dJ m l k).2]) ∧ Below w.heap.size w w' ∧ fB w' (fresh w.heap.size w'.heap.size) cs (dJ m l k).1 := by
  obtain ⟨U1, u1, T1, e1, T2, e2, rfl, _, _, hT⟩ := aN.form hm
  obtain ⟨L1, l1, rfl, _⟩ := hl.form
  have hkz : (k : Int) < (m.funcs.length : Int) := by omega
  have hfx := aK hk
  have Bh := EL (Bv hm0 _ (List.getElem_mem hk))
  obtain ⟨bt, off, cs, hT1, jc, hcs, hfr, hcell⟩ := hT.at_ (k := k) hk
  generalize m.funcs[k] = f at hfx Bh hfr
  have hst := nH hl0
  have hsv := fun (U : World) (p v : _) (cs : List Value) (hU : Below w.heap.size w U) (hp : dn 10 p = 0) (hr : iD U (old U.heap.size) cs p) =>
    FU m l hm0 hl0 10 v p [.slice U1 m.uses.length u1, .slice T1 m.types.length e1, .slice T2 m.funcs.length e2] cs (.slice L1 l.length l1) U hp (aJ _) (dI aN.stays hm hU) (bK aU.stays hl hU) hr
  have hsz := fun v p => oU (m := m) hst 300 v [] p
  obtain ⟨P1, p1, a1, a2, a3, a4, b1, b2, b3, b4, b5, rfl, hn0, hv0, hP, hR, hX⟩ := dF.form hfr
  obtain ⟨A2, n2, hf⟩ := iD.form hR
  simp only [List.cons.injEq, and_true] at hf
  obtain ⟨rfl, rfl, rfl, rfl⟩ := hf
  obtain ⟨A3, n3, hf⟩ := dN.form hX
  simp only [List.cons.injEq, and_true] at hf
  obtain ⟨rfl, rfl, rfl, rfl, rfl⟩ := hf
  have hS0 := fun h => VA (m := m) (l := l) (k := k) hfx h
  have hS1 := fun (j : Nat) (z : Int) h0 h1 h2 h3 h4 => aal (m := m) (l := l) (k := k) (j := j) (z := z) hfx h0 h1 h2 h3 h4
  have hS2 := fun (z : Int) h0 h1 h2 h3 => aam (m := m) (l := l) (k := k) (z := z) hfx h0 h1 h2 h3
  have hS3 := fun h0 h1 h2 => Vz (m := m) (l := l) (k := k) hfx h0 h1 h2
  obtain ⟨E, hE⟩ : ∃ E, dJ m l k = E := ⟨_, rfl⟩
  rw [hE] at hS0 hS1 hS2 hS3 ⊢
  obtain ⟨zs, hzs⟩ : ∃ z, (m.funcs.take k).any (vY f.name) = z := ⟨_, rfl⟩
  rw [hzs] at hS0 hS1 hS2 hS3
  have hc0 := hcell 0 _ rfl
  have hc1 := hcell 1 _ rfl
  have hc2 := hcell 2 _ rfl
  have hc3 := hcell 3 _ rfl
  have hc4 := hcell 4 _ rfl
  have hc5 := hcell 5 _ rfl
  have hc6 := hcell 6 _ rfl
  have QT := hcell 7 _ rfl
  have hc8 := hcell 8 _ rfl
  have QU := hcell 9 _ rfl
  have xZ := hcell 10 _ rfl
  have yc := hcell 11 _ rfl
  simp only [Nat.add_zero] at hc0
  subst hT1
  have hTc := hT.cap
  have hPc := hP.cap
  have hq3 : bt < w.heap.size := jc
  have HS0 := Lib.hid hS0; have Jv := Lib.hid hS1; have HS2 := Lib.hid hS2; have NI := Lib.hid hS3; have HSV := Lib.hid hsv; have Ny := Lib.hid hsz; have TF := Lib.hid Bh; have HP := Lib.hid hP; have HR := Lib.hid hR; have HTW := Lib.hid hT; have Xw := Lib.hid hzs; have HX := Lib.hid hX
  clear hS0 hS1 hS2 hS3 hsv hsz Bh hP hR hT hzs hX
  clear hm hl hfr hcell hcs hm0 hl0 hfx hst hE jc
  go_enter func100, ntmps100
  go_upto_region 2 with fail
  have dX := (((Box.made w 27 #[.slice U1 m.uses.length u1, .slice T1 m.types.length e1, .slice (some ⟨bt, off, none⟩) m.funcs.length e2]).alloc (.cells #[.string ⟨#[]⟩, .slice none 0 0, .string ⟨#[]⟩] 62)).alloc (.cells #[.string f.name, .string f.dH, .slice P1 f.params.length p1, .int .i64 f.result.kind, .string f.result.bT, .string f.result.name, .slice A2 f.result.args.length n2, .int .i64 f.body.kind, .int .i64 f.body.n, .string f.body.bT, .string f.body.s, .slice A3 f.body.args.length n3] 83))
  have dM := ((Box.made (w.alloc (.cells #[.slice U1 m.uses.length u1, .slice T1 m.types.length e1, .slice (some ⟨bt, off, none⟩) m.funcs.length e2] 27)) 62 #[.string ⟨#[]⟩, .slice none 0 0, .string ⟨#[]⟩]).alloc (.cells #[.string f.name, .string f.dH, .slice P1 f.params.length p1, .int .i64 f.result.kind, .string f.result.bT, .string f.result.name, .slice A2 f.result.args.length n2, .int .i64 f.body.kind, .int .i64 f.body.n, .string f.body.bT, .string f.body.s, .slice A3 f.body.args.length n3] 83))
  rw [show (w.alloc (.cells #[.slice U1 m.uses.length u1, .slice T1 m.types.length e1, .slice (some ⟨bt, off, none⟩) m.funcs.length e2] 27)).heap.size = w.heap.size + 1 by simp only [World.size_alloc]] at dM
  have fE := (Box.made ((w.alloc (.cells #[.slice U1 m.uses.length u1, .slice T1 m.types.length e1, .slice (some ⟨bt, off, none⟩) m.funcs.length e2] 27)).alloc (.cells #[.string ⟨#[]⟩, .slice none 0 0, .string ⟨#[]⟩] 62)) 83 #[.string f.name, .string f.dH, .slice P1 f.params.length p1, .int .i64 f.result.kind, .string f.result.bT, .string f.result.name, .slice A2 f.result.args.length n2, .int .i64 f.body.kind, .int .i64 f.body.n, .string f.body.bT, .string f.body.s, .slice A3 f.body.args.length n3])
  rw [show ((w.alloc (.cells #[.slice U1 m.uses.length u1, .slice T1 m.types.length e1, .slice (some ⟨bt, off, none⟩) m.funcs.length e2] 27)).alloc (.cells #[.string ⟨#[]⟩, .slice none 0 0, .string ⟨#[]⟩] 62)).heap.size = w.heap.size + 1 + 1 by simp only [World.size_alloc]] at fE
  have hbb : Below w.heap.size w (((w.alloc (.cells #[.slice U1 m.uses.length u1, .slice T1 m.types.length e1, .slice (some ⟨bt, off, none⟩) m.funcs.length e2] 27)).alloc (.cells #[.string ⟨#[]⟩, .slice none 0 0, .string ⟨#[]⟩] 62)).alloc (.cells #[.string f.name, .string f.dH, .slice P1 f.params.length p1, .int .i64 f.result.kind, .string f.result.bT, .string f.result.name, .slice A2 f.result.args.length n2, .int .i64 f.body.kind, .int .i64 f.body.n, .string f.body.bT, .string f.body.s, .slice A3 f.body.args.length n3] 83)) := by go_grown
  have hzb : (((w.alloc (.cells #[.slice U1 m.uses.length u1, .slice T1 m.types.length e1, .slice (some ⟨bt, off, none⟩) m.funcs.length e2] 27)).alloc (.cells #[.string ⟨#[]⟩, .slice none 0 0, .string ⟨#[]⟩] 62)).alloc (.cells #[.string f.name, .string f.dH, .slice P1 f.params.length p1, .int .i64 f.result.kind, .string f.result.bT, .string f.result.name, .slice A2 f.result.args.length n2, .int .i64 f.body.kind, .int .i64 f.body.n, .string f.body.bT, .string f.body.s, .slice A3 f.body.args.length n3] 83)).heap.size = w.heap.size + 1 + 1 + 1 := by simp only [World.size_alloc]
  generalize ((w.alloc (.cells #[.slice U1 m.uses.length u1, .slice T1 m.types.length e1, .slice (some ⟨bt, off, none⟩) m.funcs.length e2] 27)).alloc (.cells #[.string ⟨#[]⟩, .slice none 0 0, .string ⟨#[]⟩] 62)).alloc (.cells #[.string f.name, .string f.dH, .slice P1 f.params.length p1, .int .i64 f.result.kind, .string f.result.bT, .string f.result.name, .slice A2 f.result.args.length n2, .int .i64 f.body.kind, .int .i64 f.body.n, .string f.body.bT, .string f.body.s, .slice A3 f.body.args.length n3] 83) = W1 at dX dM fE hbb hzb ⊢
  clear hc0 hc1 hc2 hc3 hc4 hc5 hc6 QT hc8 QU xZ yc
  have hT1 := bK dF.stays HTW.out hbb
  have HB1 := Lib.hid dX; have HB2 := Lib.hid dM; have HB3 := Lib.hid fE; have HB := Lib.hid hbb; have HZ1 := Lib.hid hzb; have HT1 := Lib.hid hT1
  clear dX dM fE hbb hzb hT1
  go_wp2_with fail
  go_loopg [9] k (fun gg s9 wr => ∃ jj : Nat, jj ≤ k ∧ k - jj ≤ gg ∧ s9 = .int .i64 jj ∧ Aside (∀ j, j < jj → ∀ y, m.funcs[j]? = some y → vY f.name y = false) ∧ Aside (Below W1.heap.size W1 wr))
  case atStart => exact ⟨0, Nat.zero_le _, by omega, rfl, aside (fun j hj => absurd hj (Nat.not_lt_zero _)), aside (Below.refl _ _)⟩
  case round =>
   obtain ⟨jj, hjj, hg, rfl, A1, BW⟩ := hrel
   obtain ⟨W2, rfl⟩ : ∃ W, W = wr := ⟨_, rfl⟩
   have hB1 := HB1.out.later BW.out HB1.out.lt
   have hB2 := HB2.out.later BW.out HB2.out.lt
   have hB3 := HB3.out.later BW.out HB3.out.lt
   have hbw := HB.out.trans (BW.out.mono HB.out.size)
   by_cases hlt : jj < k
   · have hltz : (jj : Int) < (k : Int) := by omega
     have hjl : jj < m.funcs.length := by omega
     have hjz : (jj : Int) < (m.funcs.length : Int) := by omega
     obtain ⟨bt', off', cs, hT2, jc, hcs, hr, hcell⟩ := (bK dF.stays HT1.out BW.out).at_ (k := jj) hjl
     injection hT2 with hT2
     injection hT2 with hT2 Cc
     subst hT2; subst Cc
     obtain ⟨P3, p3, g1, g2, g3, g4, g5, g6, g7, g8, g9, rfl, _⟩ := dF.form hr
     have hc0 := hcell 0 _ rfl
     simp only [Nat.add_zero] at hc0
     have hx := aK hjl
     generalize m.funcs[jj] = y at *
     have hfi : vY f.name y = (y.name.toList == f.name.toList) := by unfold vY iT; simp
     have x2 := hB1.at_ 2 _ rfl
     have q0 := hB3.at_ 0 _ rfl
     have HX := Lib.hid hx; have cO := Lib.hid hbw
     clear hx hbw
     clear hcell hr hcs jc hB1 hB3
     cases hq : (y.name.toList == f.name.toList) with
     | true =>
       have hs : (m.funcs.take k).any (vY f.name) = true := Ba (k := jj) (x := y) (by rw [List.getElem?_take_of_lt hlt]; exact HX.out) (hfi.trans hq)
       have hE := HS0.out (Xw.out.symm.trans hs)
       subst hE
       clear hs hfi
       have r0 := hB2.at_ 0 _ rfl
       have r1 := hB2.at_ 1 _ rfl
       have r2 := hB2.at_ 2 _ rfl
       have g0 := hB2.free 0
       have g1 := hB2.free 1
       have g2 := hB2.free 2
       clear hB2
       go_wp2_with fail
       go_quiet (fail)
       go_wp2_with fail
       exact bodyPost_ret (v := .tuple #[.agg #[.string ⟨#[]⟩, .slice none 0 0, .string ⟨#[]⟩], .int .i64 4]) (by simp [results, results100, go_sem, r0, r1, r2]) rfl ⟨_, rfl, (((below_drewN cO.out _).setCell (by simp <;> omega) _).setCell (by simp <;> omega) _).setCell (by simp <;> omega) _, lJ⟩
     | false =>
       have HQ := Lib.hid (hfi.trans hq)
       clear hfi hB2
       go_wp2_with fail
       go_quiet (fail)
       go_wp2_with fail
       go_roundg (k - (jj + 1))
       case measure => omega
       case rel => exact ⟨jj + 1, by omega, by omega, by go_num, aside (Qg HX.out HQ.out A1.out), aside (below_drewN BW.out _)⟩
   · have hltz : ¬ (jj : Int) < (k : Int) := by omega
     obtain rfl : jj = k := by omega
     have hs : (m.funcs.take jj).any (vY f.name) = false := wK (n := jj) (by simp; omega) (fun j hj y hy => A1.out j hj y (by rw [List.getElem?_take_of_lt hj] at hy; exact hy))
     obtain rfl : zs = false := Xw.out.symm.trans hs
     clear A1 BW hs
     have q0 := hB3.at_ 0 _ rfl
     have q1 := hB3.at_ 1 _ rfl
     have q2 := hB3.at_ 2 _ rfl
     have q3 := hB3.at_ 3 _ rfl
     have q4 := hB3.at_ 4 _ rfl
     have q5 := hB3.at_ 5 _ rfl
     have q6 := hB3.at_ 6 _ rfl
     have cO := Lib.hid hbw
     clear hbw
     go_upto_region 8 with fail
     obtain ⟨W3, hW3⟩ : ∃ W, W2.alloc (.cells #[.string f.name, .slice none 0 0, .string ⟨#[]⟩] 62) = W := ⟨_, rfl⟩
     have hBs := Box.made W2 62 #[.string f.name, .slice none 0 0, .string ⟨#[]⟩]
     have hbs : Below W2.heap.size W2 (W2.alloc (.cells #[.string f.name, .slice none 0 0, .string ⟨#[]⟩] 62)) := by go_grown
     have hzs : (W2.alloc (.cells #[.string f.name, .slice none 0 0, .string ⟨#[]⟩] 62)).heap.size = W2.heap.size + 1 := by simp
     rw [hW3] at hBs hbs hzs ⊢
     have HW3 := Lib.hid hW3; clear hW3
     have hb3 := cO.out.trans (hbs.mono cO.out.size)
     have ahI := hB1.later hbs hB1.lt
     have hB2' := hB2.later hbs hB2.lt
     have zZ := hB3.later hbs hB3.lt
     clear q0 q1 q2 q3 q4 q5 q6 HB1 HB2 HB3 HB ahI hB2'
     have q0 := zZ.at_ 0 _ rfl
     have q1 := zZ.at_ 1 _ rfl
     have q2 := zZ.at_ 2 _ rfl
     have q3 := zZ.at_ 3 _ rfl
     have q4 := zZ.at_ 4 _ rfl
     have q5 := zZ.at_ 5 _ rfl
     have q6 := zZ.at_ 6 _ rfl
     have hlt1 := hB1.lt
     have hlt2 := hB2.lt
     have hlt3 := hB3.lt
     have HB1 := Lib.hid hB1; have HB2 := Lib.hid hB2; have HB3 := Lib.hid hB3; have Qz := Lib.hid hBs; have Hzs := Lib.hid hzs; have acy := Lib.hid hlt1; have XK := Lib.hid hlt2; have acz := Lib.hid hlt3
     clear hB1 hB2 hB3 hBs hzs hlt1 hlt2 hlt3
     clear hbs zZ hb3
     go_wp2_with fail
     have hfb := TF.out.2.1
     go_loopg [11, 12, 13, 14] f.params.length (fun gg s11 s12 s13 s14 wr => ∃ (kk : Nat) (A : Option Addr) (n c : Nat), kk ≤ f.params.length ∧ f.params.length - kk ≤ gg ∧ s11 = .int .i64 kk ∧ Aside (n = kk) ∧ Aside (∀ j, j < kk → nR m l f j = 0) ∧
       Aside (Box wr W2.heap.size 62 #[.string f.name, .slice A n c, .string ⟨#[]⟩]) ∧ Aside (aZ aY 1 9 W3.heap.size wr none_ (.slice A n c) ((f.params.take kk).map (jD m l f))) ∧ Aside (Below W2.heap.size W2 wr))
     case atStart => exact ⟨0, none, 0, 0, Nat.zero_le _, by omega, rfl, aside rfl, aside (fun j hj => absurd hj (Nat.not_lt_zero _)), aside Qz.out, aside aZ.nil_, aside (HW3.out ▸ (Below.refl _ _).alloc (aJ _) _)⟩
     case round =>
       obtain ⟨kk, A, n, c, hkk, hg, rfl, hn, hpe, hBx, hO, BW⟩ := hrel
       obtain ⟨wo, rfl⟩ : ∃ W, W = wr := ⟨_, rfl⟩
       by_cases hlt : kk < f.params.length
       · have hltz : (kk : Int) < (f.params.length : Int) := by omega
         have hbw := cO.out.trans (BW.out.mono cO.out.size)
         have hat := bK aQ.stays HP.out hbw
         obtain ⟨bp, lF, cs, hP1, jc, hcs, hpr, hcell⟩ := hat.at_ (k := kk) hlt
         have hpx := aK hlt
         have hpf := TF.out.2.2.1 _ (List.getElem_mem hlt)
         generalize f.params[kk] = p at hpx hpf hpr
         obtain ⟨d1, d2, d3, d4, rfl, hpn, hpt⟩ := aQ.form hpr
         obtain ⟨A4, n4, hf⟩ := iD.form hpt
         simp only [List.cons.injEq, and_true] at hf
         obtain ⟨rfl, rfl, rfl, rfl⟩ := hf
         have hc0 := hcell 0 _ rfl
         have hc1 := hcell 1 _ rfl
         have hc2 := hcell 2 _ rfl
         have hc3 := hcell 3 _ rfl
         have hc4 := hcell 4 _ rfl
         simp only [Nat.add_zero] at hc0
         subst hP1
         have hqp : bp < wo.heap.size := jc
         have htk := hat.take (k := kk) (by omega)
         have htl : (f.params.take kk).length = kk := by simp; omega
         have hp0 := fun h => LQ (m := m) (l := l) hpx h
         have hp1 := fun h => Hr (m := m) (l := l) hpx h
         obtain ⟨za, hza⟩ : ∃ z, (f.params.take kk).any (bU p.name) = z := ⟨_, rfl⟩
         rw [hza] at hp0 hp1
         have hB1 := HB1.out.later BW.out acy.out
         have hB2 := HB2.out.later BW.out XK.out
         have hB3 := HB3.out.later BW.out acz.out
         have q0 := hB3.at_ 0 _ rfl
         have q1 := hB3.at_ 1 _ rfl
         have q2 := hB3.at_ 2 _ rfl
         have x0 := hB1.at_ 0 _ rfl
         have x1 := hB1.at_ 1 _ rfl
         have x2 := hB1.at_ 2 _ rfl
         have hBs := hBx.out
         have HAT := Lib.hid hat; have HPF := Lib.hid hpf; have HPX := Lib.hid hpx; have TM := Lib.hid hpt; have zy := Lib.hid hbw; have XP := Lib.hid hp0; have Xt := Lib.hid hp1; have HTL := Lib.hid htl; have HZA := Lib.hid hza; have HC2 := Lib.hid hB2; have HC3 := Lib.hid hB3; have Jb := Lib.hid hB1; have En := Lib.hid hBs
         clear hat hpf hpx hpt hbw hp0 hp1 htl hza hB2 hB3 hB1 hBs
         clear hpr hcell hcs jc htk hBx
         have hrd : ∀ W4, Below wo.heap.size wo W4 → W4.cell? ⟨bp, lF + kk * 5, none⟩ = some (.string p.name) ∧ W4.cell? ⟨w.heap.size + 1 + 1, 2, none⟩ = some (.slice (some ⟨bp, lF, none⟩) f.params.length p1) := fun W4 h => ⟨(h.cell (p := ⟨bp, lF + kk * 5, none⟩) hqp).trans hc0, (h.cell (p := ⟨w.heap.size + 1 + 1, 2, none⟩) HC3.out.lt).trans q2⟩
         have HRD := Lib.hid hrd
         clear hrd
         clear q0 q1 x0 x1 x2 hc0
         go_wp2_with fail
         clear q2
         go_loopg [12] kk (fun gg s12 wr => ∃ jj : Nat, jj ≤ kk ∧ kk - jj ≤ gg ∧ s12 = .int .i64 jj ∧ Aside (∀ j, j < jj → ∀ y, f.params[j]? = some y → bU p.name y = false) ∧ Aside (Below wo.heap.size wo wr))
         case atStart => exact ⟨0, Nat.zero_le _, by omega, rfl, aside (fun j hj => absurd hj (Nat.not_lt_zero _)), aside (Below.refl _ _)⟩
         case round =>
          obtain ⟨jj, hjj, hg2, rfl, A1, Tv⟩ := hrel
          obtain ⟨W4, rfl⟩ : ∃ W, W = wr := ⟨_, rfl⟩
          obtain ⟨k0, k2⟩ := HRD.out W4 Tv.out
          have hB3 := HC3.out.later Tv.out HC3.out.lt
          have hB2 := HC2.out.later Tv.out HC2.out.lt
          have hbw := zy.out.trans (Tv.out.mono zy.out.size)
          by_cases hlt2 : jj < kk
          · have yU : (jj : Int) < (kk : Int) := by omega
            have hjl : jj < f.params.length := by omega
            have hjz : (jj : Int) < (f.params.length : Int) := by omega
            obtain ⟨bt', off', cs, hT2, jc, hcs, hr, hcell⟩ := (bK aQ.stays HAT.out Tv.out).at_ (k := jj) hjl
            injection hT2 with hT2
            injection hT2 with hT2 Cc
            subst hT2; subst Cc
            obtain ⟨g1, g2, g3, g4, rfl, _⟩ := aQ.form hr
            have hc0 := hcell 0 _ rfl
            simp only [Nat.add_zero] at hc0
            have hx := aK hjl
            generalize f.params[jj] = y at *
            have hfi : bU p.name y = (y.name.toList == p.name.toList) := by unfold bU iT; simp
            have HX := Lib.hid hx; have oh := Lib.hid hbw
            clear hx hbw
            clear hcell hr hcs jc hB3
            cases hq : (y.name.toList == p.name.toList) with
            | true =>
              have hs : (f.params.take kk).any (bU p.name) = true := Ba (k := jj) (x := y) (by rw [List.getElem?_take_of_lt hlt2]; exact HX.out) (hfi.trans hq)
              have hE := Jv.out kk 4 (by first | rfl | trivial) hlt hpe.out (XP.out (HZA.out.symm.trans hs)) (by decide)
              subst hE
              clear hs hfi
              have r0 := hB2.at_ 0 _ rfl
              have r1 := hB2.at_ 1 _ rfl
              have r2 := hB2.at_ 2 _ rfl
              have g0 := hB2.free 0
              have g1 := hB2.free 1
              have g2 := hB2.free 2
              clear hB2
              go_wp2_with fail
              go_quiet (fail)
              go_wp2_with fail
              exact bodyPost_ret (v := .tuple #[.agg #[.string ⟨#[]⟩, .slice none 0 0, .string ⟨#[]⟩], .int .i64 4]) (by simp [results, results100, go_sem, r0, r1, r2]) rfl ⟨_, rfl, (((below_drewN oh.out _).setCell (by simp <;> omega) _).setCell (by simp <;> omega) _).setCell (by simp <;> omega) _, lJ⟩
            | false =>
              have HQ := Lib.hid (hfi.trans hq)
              clear hfi hB2
              go_wp2_with fail
              go_quiet (fail)
              go_wp2_with fail
              go_roundg (kk - (jj + 1))
              case measure => omega
              case rel => exact ⟨jj + 1, by omega, by omega, by go_num, aside (Qg HX.out HQ.out A1.out), aside (below_drewN Tv.out _)⟩
          · have yU : ¬ (jj : Int) < (kk : Int) := by omega
            obtain rfl : jj = kk := by omega
            have hs : (f.params.take jj).any (bU p.name) = false := wK (n := jj) (by rw [HTL.out]; exact aJ _) (fun j hj y hy => A1.out j hj y (by rw [List.getElem?_take_of_lt hj] at hy; exact hy))
            have Q7 := Xt.out (HZA.out.symm.trans hs)
            have hB1 := Jb.out.later Tv.out Jb.out.lt
            have hBs := En.out.later Tv.out En.out.lt
            have hb4 := BW.out.trans (Tv.out.mono BW.out.size)
            have sF := hO.out.below aY.stays Tv.out
            have abh := dI iD.stays TM.out Tv.out
            have hsv := fun U (hU : Below W4.heap.size W4 U) => HSV.out U p.dV f.dH _ (hbw.trans (hU.mono hbw.size)) HPF.out.2 (dI iD.stays abh hU)
            have Q8 : jD m l f p = (dA m l f.dH p.dV).1 := rfl
            have hsz : (dA m l f.dH p.dV).1.size ≤ 600 := Ny.out f.dH p.dV
            have hS1 := fun z h h2 => Jv.out jj z (by first | rfl | trivial) hlt hpe.out h h2
            generalize dA m l f.dH p.dV = r at hsv Q7 Q8 hsz
            obtain ⟨S, C⟩ := r
            dsimp only at hsv Q7 Q8 hsz
            have hlb : bp < W4.heap.size := Nat.lt_of_lt_of_le hqp Tv.out.size
            have kc1 := (Tv.out.cell (p := ⟨bp, lF + jj * 5 + 1, none⟩) hqp).trans hc1
            have kc2 := (Tv.out.cell (p := ⟨bp, lF + jj * 5 + 2, none⟩) hqp).trans hc2
            have kc3 := (Tv.out.cell (p := ⟨bp, lF + jj * 5 + 3, none⟩) hqp).trans hc3
            have kc4 := (Tv.out.cell (p := ⟨bp, lF + jj * 5 + 4, none⟩) hqp).trans hc4
            have hl1 := hB1.lt
            have hl3 := hB3.lt
            have x0 := hB1.at_ 0 _ rfl
            have x1 := hB1.at_ 1 _ rfl
            have x2 := hB1.at_ 2 _ rfl
            have q0 := hB3.at_ 0 _ rfl
            have q1 := hB3.at_ 1 _ rfl
            have q2 := hB3.at_ 2 _ rfl
            have q3 := hB3.at_ 3 _ rfl
            have q4 := hB3.at_ 4 _ rfl
            have q5 := hB3.at_ 5 _ rfl
            have q6 := hB3.at_ 6 _ rfl
            have hdr : Below W4.heap.size W4 W4.drew := by go_grown
            have HS := Lib.hid (show ∀ w', Below W4.heap.size W4 w' → (w'.cell? ⟨w.heap.size, 0, none⟩ = some (.slice U1 m.uses.length u1) ∧ w'.cell? ⟨w.heap.size, 1, none⟩ = some (.slice T1 m.types.length e1) ∧ w'.cell? ⟨w.heap.size, 2, none⟩ = some (.slice (some ⟨bt, off, none⟩) m.funcs.length e2) ∧ w'.cell? ⟨w.heap.size + 1 + 1, 1, none⟩ = some (.string f.dH) ∧ w'.cell? ⟨w.heap.size + 1 + 1, 2, none⟩ = some (.slice (some ⟨bp, lF, none⟩) f.params.length p1) ∧ w'.cell? ⟨bp, lF + jj * 5 + 1, none⟩ = some (.int .i64 p.dV.kind) ∧ w'.cell? ⟨bp, lF + jj * 5 + 2, none⟩ = some (.string p.dV.bT) ∧ w'.cell? ⟨bp, lF + jj * 5 + 3, none⟩ = some (.string p.dV.name) ∧ w'.cell? ⟨bp, lF + jj * 5 + 4, none⟩ = some (.slice A4 p.dV.args.length n4)) from fun w' h => ⟨(h.cell (p := ⟨w.heap.size, 0, none⟩) hl1).trans x0, (h.cell (p := ⟨w.heap.size, 1, none⟩) hl1).trans x1, (h.cell (p := ⟨w.heap.size, 2, none⟩) hl1).trans x2, (h.cell (p := ⟨w.heap.size + 1 + 1, 1, none⟩) hl3).trans q1, (h.cell (p := ⟨w.heap.size + 1 + 1, 2, none⟩) hl3).trans q2, (h.cell (p := ⟨bp, lF + jj * 5 + 1, none⟩) hlb).trans kc1, (h.cell (p := ⟨bp, lF + jj * 5 + 2, none⟩) hlb).trans kc2, (h.cell (p := ⟨bp, lF + jj * 5 + 3, none⟩) hlb).trans kc3, (h.cell (p := ⟨bp, lF + jj * 5 + 4, none⟩) hlb).trans kc4⟩)
            have Nz := Lib.hid hB1; have Em := Lib.hid hB2; have aas := Lib.hid hB3; have aco := Lib.hid hBs; have CO := Lib.hid hbw; have kG := Lib.hid hb4; have xJ := Lib.hid sF; have zG := Lib.hid hsv; have HPE := Lib.hid Q7; have ahg := Lib.hid Q8; have XU := Lib.hid hsz; have ahj := Lib.hid hS1; have bP := Lib.hid hdr
            clear hB1 hB2 hB3 hBs hbw hb4 sF hsv Q7 Q8 hsz hS1 hdr
            clear abh hs k0 k2 A1 hc1 hc2 hc3 hc4 hO Tv
            go_wp2_with fail
            go_upto_region 16 with fail
            go_cut [13, 14] (fun s13 s14 wc => s13 = .string S ∧ s14 = .int .i64 C ∧ Aside (Below W4.heap.size W4 wc))
            case first =>
              go_region_held3 (fun w' => w'.cell? ⟨w.heap.size, 0, none⟩ = some (.slice U1 m.uses.length u1) ∧ w'.cell? ⟨w.heap.size, 1, none⟩ = some (.slice T1 m.types.length e1) ∧ w'.cell? ⟨w.heap.size, 2, none⟩ = some (.slice (some ⟨bt, off, none⟩) m.funcs.length e2) ∧ w'.cell? ⟨w.heap.size + 1 + 1, 1, none⟩ = some (.string f.dH) ∧ w'.cell? ⟨w.heap.size + 1 + 1, 2, none⟩ = some (.slice (some ⟨bp, lF, none⟩) f.params.length p1) ∧ w'.cell? ⟨bp, lF + jj * 5 + 1, none⟩ = some (.int .i64 p.dV.kind) ∧ w'.cell? ⟨bp, lF + jj * 5 + 2, none⟩ = some (.string p.dV.bT) ∧ w'.cell? ⟨bp, lF + jj * 5 + 3, none⟩ = some (.string p.dV.name) ∧ w'.cell? ⟨bp, lF + jj * 5 + 4, none⟩ = some (.slice A4 p.dV.args.length n4))
                (exact HS.out _ (by first | exact bP.out | exact bP.out.alloc bP.out.size _ | (go_grown; done) | exact (bP.out.alloc bP.out.size _).alloc (bP.out.alloc bP.out.size _).size _ | exact bP.out.setCell (aJ _) _ | exact (bP.out.setCell (aJ _) _).setCell (aJ _) _))
                ((go_at_call 102; (with_reducible refine (zG.out _ bP.out).mono ?_); rintro e w7 ⟨rfl, hb7⟩; have hb8 := aS bP.out hb7; have bP := Lib.hid hb8; clear hb7 hb8))
              all_goals
                go_wp2_with fail
                go_meet
                exact ⟨rfl, rfl, aside bP.out⟩
            case rest =>
            obtain ⟨rfl, rfl, hb6⟩ := hcut
            obtain ⟨W6, rfl⟩ : ∃ W, W = wc := ⟨_, rfl⟩
            have hB2 := Em.out.later hb6.out Em.out.lt
            have hBs := aco.out.later hb6.out aco.out.lt
            have hbw := CO.out.trans (hb6.out.mono CO.out.size)
            have hb4 := kG.out.trans (hb6.out.mono kG.out.size)
            have mV := xJ.out.below aY.stays hb6.out
            clear q0 q1 q2 q3 q4 q5 q6 x0 x1 x2 kc1 kc2 kc3 kc4 zG hb6 HS
            by_cases hC : C = 0
            · subst hC
              have s1 := hBs.at_ 1 _ rfl
              have g1 := hBs.free 1
              have ZT : okS S := by have := XU.out; unfold okS; omega
              have h10 : (jj + 1) ≤ 8 := by omega
              have hW3 := hb4.size
              have hz3 := Hzs.out
              have hlm : ((f.params.take jj).map (jD m l f)).length = jj := by simp; omega
              have adu : aZ aY 1 9 W3.heap.size W6 none_ (.slice A n c) ((f.params.take jj).map (jD m l f)) := mV
              have acp := Lib.hid hBs; have Ja := Lib.hid hbw; have kH := Lib.hid hb4; have uq := Lib.hid adu; have HLM := Lib.hid hlm
              clear hBs hbw hb4 adu hlm
              clear mV hB2
              go_wp2_with (at_builtin; go_must ((refine bH aY.stays (.string ⟨#[]⟩) [.string S] S rfl rfl underlying23 (bytes := 16) (by kernel_rfl) uq.out rfl rfl (by decide) rfl rfl (show aY W6 none_ _ _ from ⟨rfl, ZT⟩) (aY.one (w := W6) (F := none_) _ _ ⟨rfl, ZT⟩) (fun k hk => hk.elim) (by unfold maxLen; have := HLM.out; omega) (by have := HLM.out; omega) (by have := acp.out.lt; omega) ?_); (intro A5 c5 W7 xY hgr _; have hb7 := kH.out.trans (hgr.below (B := W2.heap.size) (by omega) kH.out.size); have xX := hgr.box acp.out (by omega); clear s1 g1; have s1 := xX.at_ 1 _ rfl; have g1 := xX.free 1; have BQ := Lib.hid xY; have zD := Lib.hid hb7; have agT := Lib.hid xX; clear xY hgr hb7 xX)))
              go_roundg (f.params.length - (jj + 1))
              case measure => omega
              case rel =>
                have hlm := HLM.out
                refine ⟨jj + 1, A5, jj + 1, c5, by omega, by omega, by go_num, aside rfl, aside (Vw hpe.out HPE.out), aside ?_, aside ?_, aside (zD.out.setCell (by simp) _)⟩
                · have h := agT.out.put 1 (.slice A5 (jj + 1) c5)
                  simpa using h
                · have h1 := (BQ.out.wider aY.stays (F' := none_) (fun k hk => hk.elim id id) (fun k hk => hk.elim)).set aY.stays (p := ⟨W2.heap.size, 1, none⟩) (by have := Hzs.out; simp; omega) (fun k hk => hk.elim) (.slice A5 (jj + 1) c5)
                  have h2 : (f.params.take (jj + 1)).map (jD m l f) = (f.params.take jj).map (jD m l f) ++ [S] := by
                    rw [List.take_add_one, HPX.out, List.map_append]
                    simp [ahg.out]
                  rw [h2]
                  rw [hlm] at h1
                  exact h1
            · have hCz : (C == 0) = false := by simp [hC]
              have r0 := hB2.at_ 0 _ rfl
              have r1 := hB2.at_ 1 _ rfl
              have r2 := hB2.at_ 2 _ rfl
              have g0 := hB2.free 0
              have g1 := hB2.free 1
              have g2 := hB2.free 2
              have hE := ahj.out C HPE.out hC
              subst hE
              have oh := Lib.hid hbw
              clear hbw
              clear hB2 hBs hb4 mV
              go_wp2_with fail
              exact bodyPost_ret (v := .tuple #[.agg #[.string ⟨#[]⟩, .slice none 0 0, .string ⟨#[]⟩], .int .i64 C]) (by simp [results, results100, go_sem, r0, r1, r2]) rfl ⟨_, rfl, ((oh.out.setCell (by simp <;> omega) _).setCell (by simp <;> omega) _).setCell (by simp <;> omega) _, lJ⟩
       · have hltz : ¬ (kk : Int) < (f.params.length : Int) := by omega
         obtain rfl : kk = f.params.length := by omega
         have hbw := cO.out.trans (BW.out.mono cO.out.size)
         have hB1 := HB1.out.later BW.out acy.out
         have hB2 := HB2.out.later BW.out XK.out
         have hB3 := HB3.out.later BW.out acz.out
         have hBs := hBx.out
         have hall := hpe.out
         have hsv := fun U (hU : Below wo.heap.size wo U) => HSV.out U f.result f.dH _ (hbw.trans (hU.mono hbw.size)) TF.out.2.2.2.1 (dI iD.stays HR.out (hbw.trans (hU.mono hbw.size)))
         have hsz : (dA m l f.dH f.result).1.size ≤ 600 := Ny.out f.dH f.result
         have hS2 := fun z h h2 => HS2.out z (by first | rfl | trivial) hall h h2
         have hS3 := fun h => NI.out (by first | rfl | trivial) hall h
         have hlm : ((f.params.take f.params.length).map (jD m l f)).length = f.params.length := by simp
         have htk : (f.params.take f.params.length).map (jD m l f) = f.params.map (jD m l f) := by rw [List.take_length]
         rw [htk] at hO hlm
         generalize dA m l f.dH f.result = r at hsv hS2 hS3 hsz
         obtain ⟨S, C⟩ := r
         dsimp only at hsv hS2 hS3 hsz
         clear q0 q1 q2 q3 q4 q5 q6
         have x0 := hB1.at_ 0 _ rfl
         have x1 := hB1.at_ 1 _ rfl
         have x2 := hB1.at_ 2 _ rfl
         have q0 := hB3.at_ 0 _ rfl
         have q1 := hB3.at_ 1 _ rfl
         have q2 := hB3.at_ 2 _ rfl
         have q3 := hB3.at_ 3 _ rfl
         have q4 := hB3.at_ 4 _ rfl
         have q5 := hB3.at_ 5 _ rfl
         have q6 := hB3.at_ 6 _ rfl
         have hl1 := hB1.lt
         have hl3 := hB3.lt
         have hdr : Below wo.heap.size wo wo.drew := by go_grown
         have HS := Lib.hid (show ∀ w', Below wo.heap.size wo w' → (w'.cell? ⟨w.heap.size, 0, none⟩ = some (.slice U1 m.uses.length u1) ∧ w'.cell? ⟨w.heap.size, 1, none⟩ = some (.slice T1 m.types.length e1) ∧ w'.cell? ⟨w.heap.size, 2, none⟩ = some (.slice (some ⟨bt, off, none⟩) m.funcs.length e2) ∧ w'.cell? ⟨w.heap.size + 1 + 1, 1, none⟩ = some (.string f.dH) ∧ w'.cell? ⟨w.heap.size + 1 + 1, 3, none⟩ = some (.int .i64 f.result.kind) ∧ w'.cell? ⟨w.heap.size + 1 + 1, 4, none⟩ = some (.string f.result.bT) ∧ w'.cell? ⟨w.heap.size + 1 + 1, 5, none⟩ = some (.string f.result.name) ∧ w'.cell? ⟨w.heap.size + 1 + 1, 6, none⟩ = some (.slice A2 f.result.args.length n2)) from fun w' h => ⟨(h.cell (p := ⟨w.heap.size, 0, none⟩) hl1).trans x0, (h.cell (p := ⟨w.heap.size, 1, none⟩) hl1).trans x1, (h.cell (p := ⟨w.heap.size, 2, none⟩) hl1).trans x2, (h.cell (p := ⟨w.heap.size + 1 + 1, 1, none⟩) hl3).trans q1, (h.cell (p := ⟨w.heap.size + 1 + 1, 3, none⟩) hl3).trans q3, (h.cell (p := ⟨w.heap.size + 1 + 1, 4, none⟩) hl3).trans q4, (h.cell (p := ⟨w.heap.size + 1 + 1, 5, none⟩) hl3).trans q5, (h.cell (p := ⟨w.heap.size + 1 + 1, 6, none⟩) hl3).trans q6⟩)
         have Nz := Lib.hid hB1; have Em := Lib.hid hB2; have En := Lib.hid hBs; have CO := Lib.hid hbw; have zG := Lib.hid hsv; have XU := Lib.hid hsz; have ahk := Lib.hid hS2; have ahl := Lib.hid hS3; have HLM := Lib.hid hlm; have bP := Lib.hid hdr
         clear hB1 hB2 hBs hbw hsv hsz hS2 hS3 hlm hdr
         clear hB3 htk hall hpe
         go_wp2_with fail
         refine (zG.out _ (Below.refl _ _)).mono ?_
         rintro e W6 ⟨rfl, hb6⟩
         clear HS
         have hB2 := Em.out.later hb6 Em.out.lt
         have hBs := En.out.later hb6 En.out.lt
         have hbw := CO.out.trans (hb6.mono CO.out.size)
         have mV := hO.out.below aY.stays hb6
         have ZT : okS S := by have := XU.out; unfold okS; omega
         clear q0 q1 q2 q3 q4 q5 q6 x0 x1 x2 zG hb6
         have r0 := hB2.at_ 0 _ rfl
         have r1 := hB2.at_ 1 _ rfl
         have r2 := hB2.at_ 2 _ rfl
         have g0 := hB2.free 0
         have g1 := hB2.free 1
         have g2 := hB2.free 2
         have s0 := hBs.at_ 0 _ rfl
         have s1 := hBs.at_ 1 _ rfl
         have s2 := hBs.at_ 2 _ rfl
         have h2 := hBs.free 2
         have hw2 : w.heap.size + 1 < W2.heap.size := XK.out
         have hne : w.heap.size + 1 ≠ W2.heap.size := by omega
         have hne2 : W2.heap.size ≠ w.heap.size + 1 := by omega
         have hlow := cO.out.size
         have hsl := mV.slice aY.stays (jZ := 16) (F' := fresh W3.heap.size W6.heap.size) (fun k hk => hk.elim) (fun k h1 h2 => ⟨h1, h2⟩) (by have := HLM.out; omega) (by have := HLM.out; omega)
         have Ja := Lib.hid hbw; have HSL := Lib.hid hsl; have aaC := Lib.hid hlow
         clear hbw hsl hlow
         clear hB2 hBs mV
         by_cases hC : C = 0
         · subst hC
           have hE := ahl.out rfl
           subst hE
           go_wp2_with fail
           have hz := Hzs.out
           exact bodyPost_ret (v := .tuple #[.agg #[.string f.name, .slice A n c, .string S], .int .i64 0]) (by simp [results, results100, go_sem, r0, r1, r2]) rfl ⟨_, rfl, (((Ja.out.setCell (by have := aaC.out; simp; omega) _).setCell (by simp <;> omega) _).setCell (by simp <;> omega) _).setCell (by simp <;> omega) _, _, rfl, hn0, ZT,
             HSL.out.stays aY.stays (fun k hk => by have := aaC.out; exact ⟨by have := hk.1; omega, by simpa only [size_set] using hk.2⟩) (((((Keeps.refl _ _).setCell (fH (by simp; omega)) _).setCell (fH (by simp; omega)) _).setCell (fH (by simp; omega)) _).setCell (fH (by simp; omega)) _)⟩
         · have hCz : (C == 0) = false := by simp [hC]
           have hE := ahk.out C rfl hC
           subst hE
           go_wp2_with fail
           exact bodyPost_ret (v := .tuple #[.agg #[.string ⟨#[]⟩, .slice none 0 0, .string ⟨#[]⟩], .int .i64 C]) (by simp [results, results100, go_sem, r0, r1, r2]) rfl ⟨_, rfl, ((Ja.out.setCell (by simp <;> omega) _).setCell (by simp <;> omega) _).setCell (by simp <;> omega) _, lJ⟩
end Go.Proofs.YtjaladhdnbhliaaGreatDoor
