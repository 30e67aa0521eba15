/- What a function of a module takes, and tells: sign.One. -/
import Derived.Test.YthedfpcdibhfpaaDoorSolveRef
import Derived.Test.YthedfpcdibhfpaaDoorAliasUse
import Derived.Handy
namespace Go.Proofs.YthedfpcdibhfpaaDoor
open Go.RowKit Go.Shelf

theorem SliceOf.cap {α : Type} {R : CR α} {sz by_ : Nat} {F : Foot} {w : World} {A : Option Addr} {n c : Nat} {l : List α} (h : SliceOf R sz by_ w F (.slice A n c) l) : n ≤ c ∧ c ≤ 9223372036854775807 := by
  obtain ⟨A', c', e, h1, h2, _⟩ := h
  injection e with e1 e2 e3
  subst e2; subst e3
  exact ⟨h1, by unfold maxLen at h2; omega⟩
theorem fun_fine {x : Func} (h : funErr x = 0) : nameOk x.name = true ∧ x.params.length ≤ 8 ∧ (∀ p ∈ x.params, nameOk p.name = true ∧ tyErr 10 p.is_ = 0) ∧ tyErr 10 x.result = 0 ∧ exErr 10 x.body = 0 := by
  unfold funErr at h
  split at h
  · cases h
  · next h1 =>
    split at h
    · cases h
    · next h2 =>
      split at h
      · next h3 => exact absurd h h3
      · next h3 =>
        split at h
        · next h4 => exact absurd h h4
        · next h4 =>
          refine ⟨?_, by omega, fun p hp => fieldErr_fine (eachErr_zero (Classical.not_not.1 h3) p hp), Classical.not_not.1 h4, h⟩
          cases hn : nameOk x.name with
          | true => rfl
          | false => exact absurd (.inl hn) h1
theorem mod_funcs {m : Module} (h : modErr m = 0) : ∀ x ∈ m.funcs, funErr x = 0 := fun x hx => eachErr_zero (mod_zero h).2 x hx

set_option maxRecDepth 100000 in
set_option maxHeartbeats 400000 in
theorem signFn_any (x : Func) (cs : List Value) (F : Foot) (t : ByteArray) (b : Nat) (W : World) (hx : FuncR W F cs x) (ha : W.cell? ⟨b, 0, none⟩ = some (.string t)) :
    Calls Tryd.prog 71 #[.agg cs.toArray, .pointer (some ⟨b, 0, none⟩)] W fun e w' => e = .returned (.bool (fnIs t x)) ∧ Below W.heap.size W w' := by
  have hlt := World.block_lt_of_cell? W _ ha
  obtain ⟨P1, p1, c1, c2, c3, c4, c5, c6, c7, c8, c9, rfl, _⟩ := FuncR.form hx
  clear hx
  unfold fnIs eqB
  go_enter Tryd.func71, Tryd.ntmps71
  cases hq : (x.name.toList == t.toList)
  all_goals (go_wp2; go_ret; exact ⟨by simp, by go_grown⟩)

set_option maxRecDepth 100000 in
set_option maxHeartbeats 400000 in
theorem signPar_any (x : Field) (cs : List Value) (F : Foot) (t : ByteArray) (b : Nat) (W : World) (hx : FieldR W F cs x) (ha : W.cell? ⟨b, 0, none⟩ = some (.string t)) :
    Calls Tryd.prog 73 #[.agg cs.toArray, .pointer (some ⟨b, 0, none⟩)] W fun e w' => e = .returned (.bool (fieldIs t x)) ∧ Below W.heap.size W w' := by
  have hlt := World.block_lt_of_cell? W _ ha
  obtain ⟨c0, c1, c2, c3, rfl, _, ht⟩ := FieldR.form hx
  obtain ⟨A2, n2, hf⟩ := TyR.form ht
  simp only [List.cons.injEq, and_true] at hf
  obtain ⟨rfl, rfl, rfl, rfl⟩ := hf
  clear hx ht
  unfold fieldIs eqB
  go_enter Tryd.func73, Tryd.ntmps73
  cases hq : (x.name.toList == t.toList)
  all_goals (go_wp2; go_ret; exact ⟨by simp, by go_grown⟩)

set_option maxHeartbeats 400000 in
theorem signFns_any (l : List Func) (T1 : Option Addr) (e1 : Nat) (t : ByteArray) (b : Nat) (F : Foot) (w : World) (hF : ∀ k, F k → k < w.heap.size) (hl : SliceOf FuncR 12 192 w F (.slice T1 l.length e1) l) (ha : w.cell? ⟨b, 0, none⟩ = some (.string t)) :
    Calls Tryd.prog 70 #[.slice T1 l.length e1, .func (.func 71) #[] #[.pointer (some ⟨b, 0, none⟩)]] w fun e w' => e = .returned (.bool (l.any (fnIs t))) ∧ Below w.heap.size w w' :=
  containsFunc_funcs (.slice T1 l.length e1) l F 71 #[.pointer (some ⟨b, 0, none⟩)] (fnIs t) w (enters_of Tryd.func71 (by kernel_rfl) rfl) hF hl (fun U x cs _ hU hr => by
    have h := signFn_any x cs F t b U hr ((hU.cell (World.block_lt_of_cell? w _ ha)).trans ha)
    obtain ⟨P1, p1, c1, c2, c3, c4, c5, c6, c7, c8, c9, rfl, _⟩ := FuncR.form hr
    exact h)
set_option maxHeartbeats 400000 in
theorem signPars_any (l : List Field) (T1 : Option Addr) (n e1 : Nat) (_hn : n = l.length) (t : ByteArray) (b : Nat) (F : Foot) (w : World) (hF : ∀ k, F k → k < w.heap.size) (hl : SliceOf FieldR 5 80 w F (.slice T1 n e1) l) (ha : w.cell? ⟨b, 0, none⟩ = some (.string t)) :
    Calls Tryd.prog 72 #[.slice T1 n e1, .func (.func 73) #[] #[.pointer (some ⟨b, 0, none⟩)]] w fun e w' => e = .returned (.bool (l.any (fieldIs t))) ∧ Below w.heap.size w w' :=
  containsFunc_fields (.slice T1 n e1) l F 73 #[.pointer (some ⟨b, 0, none⟩)] (fieldIs t) w (enters_of Tryd.func73 (by kernel_rfl) rfl) hF hl (fun U x cs _ hU hr => by
    have h := signPar_any x cs F t b U hr ((hU.cell (World.block_lt_of_cell? w _ ha)).trans ha)
    obtain ⟨_, _, _, _, rfl, _, _⟩ := FieldR.form hr
    exact h)

set_option maxRecDepth 100000 in
set_option maxHeartbeats 8000000 in
theorem signOne_any (m : Module) (l : List Import) (hm0 : modErr m = 0) (hl0 : importsErr l = 0) (k : Nat) (ds : List Value) (lv : Value) (w : World) (hk : k < m.funcs.length)
    (hm : ModuleR w (old w.heap.size) ds m) (hl : SliceOf ImportR 4 72 w (old w.heap.size) lv l) :
    Calls Tryd.prog 39 #[.agg ds.toArray, lv, .int .i64 k] w fun e w' => ∃ cs : List Value, e = .returned (.tuple #[.agg cs.toArray, .int .i64 (sigOne m l k).2]) ∧ Below w.heap.size w w' ∧ SigR w' (fresh w.heap.size w'.heap.size) cs (sigOne m l k).1 := by
  obtain ⟨U1, u1, T1, e1, T2, e2, rfl, _, _, hT⟩ := ModuleR.form hm
  obtain ⟨L1, l1, rfl, _⟩ := hl.form
  have hkz : (k : Int) < (m.funcs.length : Int) := by omega
  have hfx := List.getElem?_eq_getElem hk
  have hff := fun_fine (mod_funcs hm0 _ (List.getElem_mem hk))
  obtain ⟨bt, off, cs, hT1, hbF, hcs, hfr, hcell⟩ := hT.at_ (k := k) hk
  generalize m.funcs[k] = f at hfx hff hfr
  have hst := small_of_err hl0
  have hsv := fun (U : World) (p v : _) (cs : List Value) (hU : Below w.heap.size w U) (hp : tyErr 10 p = 0) (hv : okS v) (hr : TyR U (old U.heap.size) cs p) =>
    aliasSolve_any m l hm0 hl0 10 v p [.slice U1 m.uses.length u1, .slice T1 m.types.length e1, .slice T2 m.funcs.length e2] cs (.slice L1 l.length l1) U hp (Nat.le_refl _) hv (now_up ModuleR.stays hm hU) (now_lup ImportR.stays hl hU) hr
  have hsz := fun v p => solve_small (m := m) hst 300 v [] p
  obtain ⟨P1, p1, a1, a2, a3, a4, b1, b2, b3, b4, b5, rfl, hn0, hv0, hP, hR, hX⟩ := FuncR.form hfr
  obtain ⟨A2, n2, hf⟩ := TyR.form hR
  simp only [List.cons.injEq, and_true] at hf
  obtain ⟨rfl, rfl, rfl, rfl⟩ := hf
  obtain ⟨A3, n3, hf⟩ := ExR.form hX
  simp only [List.cons.injEq, and_true] at hf
  obtain ⟨rfl, rfl, rfl, rfl, rfl⟩ := hf
  have hS0 := fun h => sig_seen (m := m) (l := l) (k := k) hfx h
  have hS1 := fun (j : Nat) (z : Int) h0 h1 h2 h3 h4 => sig_par (m := m) (l := l) (k := k) (j := j) (z := z) hfx h0 h1 h2 h3 h4
  have hS2 := fun (z : Int) h0 h1 h2 h3 => sig_res (m := m) (l := l) (k := k) (z := z) hfx h0 h1 h2 h3
  have hS3 := fun h0 h1 h2 => sig_fine (m := m) (l := l) (k := k) hfx h0 h1 h2
  obtain ⟨E, hE⟩ : ∃ E, sigOne m l k = E := ⟨_, rfl⟩
  rw [hE] at hS0 hS1 hS2 hS3 ⊢
  obtain ⟨zs, hzs⟩ : ∃ z, (m.funcs.take k).any (fnIs f.name) = z := ⟨_, rfl⟩
  rw [hzs] at hS0 hS1 hS2 hS3
  have hc0 := hcell 0 _ rfl
  have hc1 := hcell 1 _ rfl
  have hc2 := hcell 2 _ rfl
  have hc3 := hcell 3 _ rfl
  have hc4 := hcell 4 _ rfl
  have hc5 := hcell 5 _ rfl
  have hc6 := hcell 6 _ rfl
  have hc7 := hcell 7 _ rfl
  have hc8 := hcell 8 _ rfl
  have hc9 := hcell 9 _ rfl
  have hc10 := hcell 10 _ rfl
  have hc11 := hcell 11 _ rfl
  simp only [Nat.add_zero] at hc0
  subst hT1
  have hTc := hT.cap
  have hPc := hP.cap
  have hq3 : bt < w.heap.size := hbF
  have htk := hT.take (k := k) (by omega)
  have htl : (m.funcs.take k).length = k := by simp; omega
  have HS0 := Lib.hid hS0; have HS1 := Lib.hid hS1; have HS2 := Lib.hid hS2; have HS3 := Lib.hid hS3; have HSV := Lib.hid hsv; have HSZ := Lib.hid hsz; have HFF := Lib.hid hff; have HP := Lib.hid hP; have HR := Lib.hid hR; have HT := Lib.hid htk; have HZS := Lib.hid hzs; have HTL := Lib.hid htl; have HX := Lib.hid hX
  clear hS0 hS1 hS2 hS3 hsv hsz hff hP hR htk hzs htl hX
  clear hm hl hT hfr hcell hcs hm0 hl0 hfx hst hE hbF
  go_enter Tryd.func39, Tryd.ntmps39
  go_upto_region 2 with fail
  have hBb1 := (((Box.made w 26 #[.slice U1 m.uses.length u1, .slice T1 m.types.length e1, .slice (some ⟨bt, off, none⟩) m.funcs.length e2]).alloc (.cells #[.string ⟨#[]⟩, .slice none 0 0, .string ⟨#[]⟩] 77)).alloc (.cells #[.string f.name, .string f.var_, .slice P1 f.params.length p1, .int .i64 f.result.kind, .string f.result.of_, .string f.result.name, .slice A2 f.result.args.length n2, .int .i64 f.body.kind, .int .i64 f.body.n, .string f.body.of_, .string f.body.s, .slice A3 f.body.args.length n3] 90))
  have hBb2 := ((Box.made (w.alloc (.cells #[.slice U1 m.uses.length u1, .slice T1 m.types.length e1, .slice (some ⟨bt, off, none⟩) m.funcs.length e2] 26)) 77 #[.string ⟨#[]⟩, .slice none 0 0, .string ⟨#[]⟩]).alloc (.cells #[.string f.name, .string f.var_, .slice P1 f.params.length p1, .int .i64 f.result.kind, .string f.result.of_, .string f.result.name, .slice A2 f.result.args.length n2, .int .i64 f.body.kind, .int .i64 f.body.n, .string f.body.of_, .string f.body.s, .slice A3 f.body.args.length n3] 90))
  rw [show (w.alloc (.cells #[.slice U1 m.uses.length u1, .slice T1 m.types.length e1, .slice (some ⟨bt, off, none⟩) m.funcs.length e2] 26)).heap.size = w.heap.size + 1 by simp only [World.size_alloc]] at hBb2
  have hBb3 := (Box.made ((w.alloc (.cells #[.slice U1 m.uses.length u1, .slice T1 m.types.length e1, .slice (some ⟨bt, off, none⟩) m.funcs.length e2] 26)).alloc (.cells #[.string ⟨#[]⟩, .slice none 0 0, .string ⟨#[]⟩] 77)) 90 #[.string f.name, .string f.var_, .slice P1 f.params.length p1, .int .i64 f.result.kind, .string f.result.of_, .string f.result.name, .slice A2 f.result.args.length n2, .int .i64 f.body.kind, .int .i64 f.body.n, .string f.body.of_, .string f.body.s, .slice A3 f.body.args.length n3])
  rw [show ((w.alloc (.cells #[.slice U1 m.uses.length u1, .slice T1 m.types.length e1, .slice (some ⟨bt, off, none⟩) m.funcs.length e2] 26)).alloc (.cells #[.string ⟨#[]⟩, .slice none 0 0, .string ⟨#[]⟩] 77)).heap.size = w.heap.size + 1 + 1 by simp only [World.size_alloc]] at hBb3
  have hbb : Below w.heap.size w (((w.alloc (.cells #[.slice U1 m.uses.length u1, .slice T1 m.types.length e1, .slice (some ⟨bt, off, none⟩) m.funcs.length e2] 26)).alloc (.cells #[.string ⟨#[]⟩, .slice none 0 0, .string ⟨#[]⟩] 77)).alloc (.cells #[.string f.name, .string f.var_, .slice P1 f.params.length p1, .int .i64 f.result.kind, .string f.result.of_, .string f.result.name, .slice A2 f.result.args.length n2, .int .i64 f.body.kind, .int .i64 f.body.n, .string f.body.of_, .string f.body.s, .slice A3 f.body.args.length n3] 90)) := by go_grown
  have hzb : (((w.alloc (.cells #[.slice U1 m.uses.length u1, .slice T1 m.types.length e1, .slice (some ⟨bt, off, none⟩) m.funcs.length e2] 26)).alloc (.cells #[.string ⟨#[]⟩, .slice none 0 0, .string ⟨#[]⟩] 77)).alloc (.cells #[.string f.name, .string f.var_, .slice P1 f.params.length p1, .int .i64 f.result.kind, .string f.result.of_, .string f.result.name, .slice A2 f.result.args.length n2, .int .i64 f.body.kind, .int .i64 f.body.n, .string f.body.of_, .string f.body.s, .slice A3 f.body.args.length n3] 90)).heap.size = w.heap.size + 1 + 1 + 1 := by simp only [World.size_alloc]
  generalize ((w.alloc (.cells #[.slice U1 m.uses.length u1, .slice T1 m.types.length e1, .slice (some ⟨bt, off, none⟩) m.funcs.length e2] 26)).alloc (.cells #[.string ⟨#[]⟩, .slice none 0 0, .string ⟨#[]⟩] 77)).alloc (.cells #[.string f.name, .string f.var_, .slice P1 f.params.length p1, .int .i64 f.result.kind, .string f.result.of_, .string f.result.name, .slice A2 f.result.args.length n2, .int .i64 f.body.kind, .int .i64 f.body.n, .string f.body.of_, .string f.body.s, .slice A3 f.body.args.length n3] 90) = W1 at hBb1 hBb2 hBb3 hbb hzb ⊢
  clear hc0 hc1 hc2 hc3 hc4 hc5 hc6 hc7 hc8 hc9 hc10 hc11
  have hfn := signFns_any (m.funcs.take k) (some ⟨bt, off, none⟩) e2 f.name (w.heap.size + 1 + 1) (old W1.heap.size) W1 old_lt (by rw [HTL.out]; exact now_lup FuncR.stays HT.out hbb) (hBb3.at_ 0 _ rfl)
  rw [HTL.out, HZS.out] at hfn
  have m2 := hBb1.at_ 2 _ rfl
  have HB1 := Lib.hid hBb1; have HB2 := Lib.hid hBb2; have HB3 := Lib.hid hBb3; have HB := Lib.hid hbb; have HFN := Lib.hid hfn; have HZ1 := Lib.hid hzb
  clear hBb1 hBb2 hBb3 hbb hfn hzb
  go_wp2_with fail
  refine HFN.out.mono ?_
  rintro e W2 ⟨rfl, hb2⟩
  have hB1 := HB1.out.later hb2 HB1.out.lt
  have hB2 := HB2.out.later hb2 HB2.out.lt
  have hB3 := HB3.out.later hb2 HB3.out.lt
  have hbw := HB.out.trans (hb2.mono HB.out.size)
  clear m2 HFN
  cases zs with
  | true =>
    have r0 := hB2.at_ 0 _ rfl
    have r1 := hB2.at_ 1 _ rfl
    have r2 := hB2.at_ 2 _ rfl
    have g0 := hB2.free 0
    have g1 := hB2.free 1
    have g2 := hB2.free 2
    have hE := HS0.out rfl
    subst hE
    have HBW := Lib.hid hbw
    clear hbw
    clear hB1 hB3 hb2 hB2
    go_wp2_with fail
    exact bodyPost_ret (v := .tuple #[.agg #[.string ⟨#[]⟩, .slice none 0 0, .string ⟨#[]⟩], .int .i64 4]) (by simp [results, Tryd.results39, go_sem, r0, r1, r2]) rfl ⟨_, rfl, ((HBW.out.setCell (by simp <;> omega) _).setCell (by simp <;> omega) _).setCell (by simp <;> omega) _, noSig_row⟩
  | false =>
    have q0 := hB3.at_ 0 _ rfl
    have q1 := hB3.at_ 1 _ rfl
    have q2 := hB3.at_ 2 _ rfl
    have q3 := hB3.at_ 3 _ rfl
    have q4 := hB3.at_ 4 _ rfl
    have q5 := hB3.at_ 5 _ rfl
    have q6 := hB3.at_ 6 _ rfl
    have HBW := Lib.hid hbw
    clear hbw
    clear hb2
    go_upto_region 5 with fail
    obtain ⟨W3, hW3⟩ : ∃ W, W2.alloc (.cells #[.string f.name, .slice none 0 0, .string ⟨#[]⟩] 77) = W := ⟨_, rfl⟩
    have hBs := Box.made W2 77 #[.string f.name, .slice none 0 0, .string ⟨#[]⟩]
    have hbs : Below W2.heap.size W2 (W2.alloc (.cells #[.string f.name, .slice none 0 0, .string ⟨#[]⟩] 77)) := by go_grown
    have hzs : (W2.alloc (.cells #[.string f.name, .slice none 0 0, .string ⟨#[]⟩] 77)).heap.size = W2.heap.size + 1 := by simp
    rw [hW3] at hBs hbs hzs ⊢
    have HW3 := Lib.hid hW3; clear hW3
    have hb3 := HBW.out.trans (hbs.mono HBW.out.size)
    have hB1' := hB1.later hbs hB1.lt
    have hB2' := hB2.later hbs hB2.lt
    have hB3' := hB3.later hbs hB3.lt
    clear q0 q1 q2 q3 q4 q5 q6 HB1 HB2 HB3 HB hB1' hB2'
    have q0 := hB3'.at_ 0 _ rfl
    have q1 := hB3'.at_ 1 _ rfl
    have q2 := hB3'.at_ 2 _ rfl
    have q3 := hB3'.at_ 3 _ rfl
    have q4 := hB3'.at_ 4 _ rfl
    have q5 := hB3'.at_ 5 _ rfl
    have q6 := hB3'.at_ 6 _ rfl
    have hlt1 := hB1.lt
    have hlt2 := hB2.lt
    have hlt3 := hB3.lt
    have HB1 := Lib.hid hB1; have HB2 := Lib.hid hB2; have HB3 := Lib.hid hB3; have HBs := Lib.hid hBs; have Hzs := Lib.hid hzs; have HLT1 := Lib.hid hlt1; have HLT2 := Lib.hid hlt2; have HLT3 := Lib.hid hlt3
    clear hB1 hB2 hB3 hBs hzs hlt1 hlt2 hlt3
    clear hbs hB3' hb3
    go_wp2_with fail
    have hfb := HFF.out.2.1
    go_loopg [10, 11, 12, 13, 33] f.params.length (fun gg s10 s11 s12 s13 s33 wr => ∃ (kk : Nat) (A : Option Addr) (n c : Nat), kk ≤ f.params.length ∧ f.params.length - kk ≤ gg ∧ s33 = .int .i64 kk ∧ Aside (n = kk) ∧ Aside (∀ j, j < kk → parErr m l f j = 0) ∧
      Aside (Box wr W2.heap.size 77 #[.string f.name, .slice A n c, .string ⟨#[]⟩]) ∧ Aside (Owns StrR 1 9 W3.heap.size wr none_ (.slice A n c) ((f.params.take kk).map (parTxt m l f))) ∧ Aside (Below W2.heap.size W2 wr))
    case atStart => exact ⟨0, none, 0, 0, Nat.zero_le _, by omega, rfl, aside rfl, aside (fun j hj => absurd hj (Nat.not_lt_zero _)), aside HBs.out, aside Owns.nil_, aside (HW3.out ▸ (Below.refl _ _).alloc (Nat.le_refl _) _)⟩
    case round =>
      obtain ⟨kk, A, n, c, hkk, hg, rfl, hn, hpe, hBx, hO, BW⟩ := hrel
      by_cases hlt : kk < f.params.length
      · have hltz : (kk : Int) < (f.params.length : Int) := by omega
        have hbw := HBW.out.trans (BW.out.mono HBW.out.size)
        have hat := now_lup FieldR.stays HP.out hbw
        obtain ⟨bp, offp, cs, hP1, hbF, hcs, hpr, hcell⟩ := hat.at_ (k := kk) hlt
        have hpx := List.getElem?_eq_getElem hlt
        have hpf := HFF.out.2.2.1 _ (List.getElem_mem hlt)
        generalize f.params[kk] = p at hpx hpf hpr
        obtain ⟨d1, d2, d3, d4, rfl, hpn, hpt⟩ := FieldR.form hpr
        obtain ⟨A4, n4, hf⟩ := TyR.form hpt
        simp only [List.cons.injEq, and_true] at hf
        obtain ⟨rfl, rfl, rfl, rfl⟩ := hf
        have hc0 := hcell 0 _ rfl
        have hc1 := hcell 1 _ rfl
        have hc2 := hcell 2 _ rfl
        have hc3 := hcell 3 _ rfl
        have hc4 := hcell 4 _ rfl
        simp only [Nat.add_zero] at hc0
        subst hP1
        have hqp : bp < wr.heap.size := hbF
        have htk := hat.take (k := kk) (by omega)
        have htl : (f.params.take kk).length = kk := by simp; omega
        have hp0 := fun h => par_seen (m := m) (l := l) hpx h
        have hp1 := fun h => par_solve (m := m) (l := l) hpx h
        obtain ⟨za, hza⟩ : ∃ z, (f.params.take kk).any (fieldIs p.name) = z := ⟨_, rfl⟩
        rw [hza] at hp0 hp1
        have hB1 := HB1.out.later BW.out HLT1.out
        have hB2 := HB2.out.later BW.out HLT2.out
        have hB3 := HB3.out.later BW.out HLT3.out
        have HAT := Lib.hid hat; have HTK := Lib.hid htk; have HPF := Lib.hid hpf; have HPX := Lib.hid hpx; have HPT := Lib.hid hpt; have HBw := Lib.hid hbw; have HP0 := Lib.hid hp0; have HP1 := Lib.hid hp1; have HTL := Lib.hid htl; have HZA := Lib.hid hza; have HC1 := Lib.hid hB1; have HC2 := Lib.hid hB2; have HC3 := Lib.hid hB3
        clear hat htk hpf hpx hpt hbw hp0 hp1 htl hza hB1 hB2 hB3
        clear hpr hcell hcs hbF
        go_upto_region 8 with fail
        have hBp := Box.made wr 92 #[.string p.name, .int .i64 p.is_.kind, .string p.is_.of_, .string p.is_.name, .slice A4 p.is_.args.length n4]
        have hbp : Below wr.heap.size wr (wr.alloc (.cells #[.string p.name, .int .i64 p.is_.kind, .string p.is_.of_, .string p.is_.name, .slice A4 p.is_.args.length n4] 92)) := by go_grown
        have hzp : (wr.alloc (.cells #[.string p.name, .int .i64 p.is_.kind, .string p.is_.of_, .string p.is_.name, .slice A4 p.is_.args.length n4] 92)).heap.size = wr.heap.size + 1 := by simp
        generalize wr.alloc (.cells #[.string p.name, .int .i64 p.is_.kind, .string p.is_.of_, .string p.is_.name, .slice A4 p.is_.args.length n4] 92) = W4 at hBp hbp hzp ⊢
        have hB1 := HC1.out.later hbp HC1.out.lt
        have hB2 := HC2.out.later hbp HC2.out.lt
        have hB3 := HC3.out.later hbp HC3.out.lt
        have hBs := hBx.out.later hbp hBx.out.lt
        have hbw := HBw.out.trans (hbp.mono HBw.out.size)
        have hb4 := BW.out.trans (hbp.mono BW.out.size)
        have hO4 := hO.out.below StrR.stays hbp
        have hpt4 := now_up TyR.stays HPT.out hbp
        have hpc := signPars_any (f.params.take kk) (some ⟨bp, offp, none⟩) kk p1 HTL.out.symm p.name wr.heap.size (old W4.heap.size) W4 old_lt (now_lup FieldR.stays HTK.out hbp) (hBp.at_ 0 _ rfl)
        rw [HZA.out] at hpc
        clear hc0 hc1 hc2 hc3 hc4 q0 q1 q2 q3 q4 q5 q6 hzp
        have q2 := hB3.at_ 2 _ rfl
        have HB1' := Lib.hid hB1; have HB2' := Lib.hid hB2; have HB3' := Lib.hid hB3; have HBs' := Lib.hid hBs; have HBw4 := Lib.hid hbw; have HB4 := Lib.hid hb4; have HO4 := Lib.hid hO4; have HPC := Lib.hid hpc; have HBP := Lib.hid hBp; have HPT4 := Lib.hid hpt4
        clear hB1 hB2 hB3 hBs hbw hb4 hO4 hpc hBp hpt4
        clear hbp HC1 HC2 HC3 hO hBx BW HAT HTK HPT HBw
        go_wp2_with fail
        refine HPC.out.mono ?_
        rintro e W5 ⟨rfl, hb5⟩
        have hB1 := HB1'.out.later hb5 HB1'.out.lt
        have hB2 := HB2'.out.later hb5 HB2'.out.lt
        have hB3 := HB3'.out.later hb5 HB3'.out.lt
        have hBs := HBs'.out.later hb5 HBs'.out.lt
        have hBp := HBP.out.later hb5 HBP.out.lt
        have hbw := HBw4.out.trans (hb5.mono HBw4.out.size)
        have hb4 := HB4.out.trans (hb5.mono HB4.out.size)
        have hO5 := HO4.out.below StrR.stays hb5
        have hpt5 := now_up TyR.stays HPT4.out hb5
        clear q2 HPC hb5
        cases za with
        | true =>
          have r0 := hB2.at_ 0 _ rfl
          have r1 := hB2.at_ 1 _ rfl
          have r2 := hB2.at_ 2 _ rfl
          have g0 := hB2.free 0
          have g1 := hB2.free 1
          have g2 := hB2.free 2
          have hE := HS1.out kk 4 (by first | rfl | trivial) hlt hpe.out (HP0.out rfl) (by decide)
          subst hE
          have HBW5 := Lib.hid hbw
          clear hbw
          clear hB1 hB2 hB3 hBs hBp hb4 hO5 hpt5
          go_wp2_with fail
          exact bodyPost_ret (v := .tuple #[.agg #[.string ⟨#[]⟩, .slice none 0 0, .string ⟨#[]⟩], .int .i64 4]) (by simp [results, Tryd.results39, go_sem, r0, r1, r2]) rfl ⟨_, rfl, ((HBW5.out.setCell (by simp <;> omega) _).setCell (by simp <;> omega) _).setCell (by simp <;> omega) _, noSig_row⟩
        | false =>
          have hpe1 := HP1.out rfl
          have hsv := HSV.out W5 p.is_ f.var_ _ hbw HPF.out.2 hv0 hpt5
          have hpt1 : parTxt m l f p = (solveOf m l f.var_ p.is_).1 := rfl
          have hsz : (solveOf m l f.var_ p.is_).1.size ≤ 600 := HSZ.out f.var_ p.is_
          have hS1 := fun z h h2 => HS1.out kk z (by first | rfl | trivial) hlt hpe.out h h2
          generalize solveOf m l f.var_ p.is_ = r at hsv hpe1 hpt1 hsz
          obtain ⟨S, C⟩ := r
          dsimp only at hsv hpe1 hpt1 hsz
          have x0 := hB1.at_ 0 _ rfl
          have x1 := hB1.at_ 1 _ rfl
          have x2 := hB1.at_ 2 _ rfl
          have q0 := hB3.at_ 0 _ rfl
          have q1 := hB3.at_ 1 _ rfl
          have q2 := hB3.at_ 2 _ rfl
          have q3 := hB3.at_ 3 _ rfl
          have q4 := hB3.at_ 4 _ rfl
          have q5 := hB3.at_ 5 _ rfl
          have q6 := hB3.at_ 6 _ rfl
          have y1 := hBp.at_ 1 _ rfl
          have y2 := hBp.at_ 2 _ rfl
          have y3 := hBp.at_ 3 _ rfl
          have y4 := hBp.at_ 4 _ rfl
          have HB1' := Lib.hid hB1; have HB2' := Lib.hid hB2; have HB3' := Lib.hid hB3; have HBs' := Lib.hid hBs; have HBw5 := Lib.hid hbw; have HB5 := Lib.hid hb4; have HO5 := Lib.hid hO5; have HSVP := Lib.hid hsv; have HPE := Lib.hid hpe1; have HPT1 := Lib.hid hpt1; have HSZP := Lib.hid hsz; have HS1' := Lib.hid hS1
          clear hB1 hB2 hB3 hBs hbw hb4 hO5 hsv hpe1 hpt1 hsz hS1
          clear hpt5 hBp
          go_wp2_with fail
          refine HSVP.out.mono ?_
          rintro e W6 ⟨rfl, hb6⟩
          have hB2 := HB2'.out.later hb6 HB2'.out.lt
          have hB3 := HB3'.out.later hb6 HB3'.out.lt
          have hBs := HBs'.out.later hb6 HBs'.out.lt
          have hbw := HBw5.out.trans (hb6.mono HBw5.out.size)
          have hb4 := HB5.out.trans (hb6.mono HB5.out.size)
          have hO6 := HO5.out.below StrR.stays hb6
          clear q0 q1 q2 q3 q4 q5 q6 x0 x1 x2 y1 y2 y3 y4 HSVP hb6
          by_cases hC : C = 0
          · subst hC
            have s1 := hBs.at_ 1 _ rfl
            have g1 := hBs.free 1
            have hoS : okS S := by have := HSZP.out; unfold okS; omega
            have h10 : (kk + 1) ≤ 8 := by omega
            have hW3 := hb4.size
            have hz3 := Hzs.out
            have hlm : ((f.params.take kk).map (parTxt m l f)).length = kk := by simp; omega
            have hO6' : Owns StrR 1 9 W3.heap.size W6 none_ (.slice A n c) ((f.params.take kk).map (parTxt m l f)) := hO6
            have HBs6 := Lib.hid hBs; have HBw6 := Lib.hid hbw; have HB6 := Lib.hid hb4; have HO6 := Lib.hid hO6'; have HLM := Lib.hid hlm
            clear hBs hbw hb4 hO6' hlm
            clear hO6 hB2 hB3
            go_wp2_with (at_builtin; go_must ((refine wpList_push StrR.stays (.string ⟨#[]⟩) [.string S] S rfl rfl Tryd.underlying22 (bytes := 16) (by kernel_rfl) HO6.out rfl rfl (by decide) rfl rfl (show StrR W6 none_ _ _ from ⟨rfl, hoS⟩) (StrR.one (w := W6) (F := none_) _ _ ⟨rfl, hoS⟩) (fun k hk => hk.elim) (by unfold maxLen; have := HLM.out; omega) (by have := HLM.out; omega) (by have := HBs6.out.lt; omega) ?_); (intro A5 c5 W7 hO7 hgr _; have hb7 := HB6.out.trans (hgr.below (B := W2.heap.size) (by omega) HB6.out.size); have hB7 := hgr.box HBs6.out (by omega); clear s1 g1; have s1 := hB7.at_ 1 _ rfl; have g1 := hB7.free 1; have HO7 := Lib.hid hO7; have HB7 := Lib.hid hb7; have HBs7 := Lib.hid hB7; clear hO7 hgr hb7 hB7)))
            go_roundg (f.params.length - (kk + 1))
            case measure => omega
            case rel =>
              have hlm := HLM.out
              refine ⟨kk + 1, A5, kk + 1, c5, by omega, by omega, by go_num, aside rfl, aside (seen_all hpe.out HPE.out), aside ?_, aside ?_, aside (HB7.out.setCell (by simp) _)⟩
              · have h := HBs7.out.put 1 (.slice A5 (kk + 1) c5)
                simpa using h
              · have h1 := (HO7.out.wider StrR.stays (F' := none_) (fun k hk => hk.elim id id) (fun k hk => hk.elim)).set StrR.stays (p := ⟨W2.heap.size, 1, none⟩) (by have := Hzs.out; simp; omega) (fun k hk => hk.elim) (.slice A5 (kk + 1) c5)
                have h2 : (f.params.take (kk + 1)).map (parTxt m l f) = (f.params.take kk).map (parTxt m l f) ++ [S] := by
                  rw [List.take_add_one, HPX.out, List.map_append]
                  simp [HPT1.out]
                rw [h2]
                rw [hlm] at h1
                exact h1
          · have hCz : (C == 0) = false := by simp [hC]
            have r0 := hB2.at_ 0 _ rfl
            have r1 := hB2.at_ 1 _ rfl
            have r2 := hB2.at_ 2 _ rfl
            have g0 := hB2.free 0
            have g1 := hB2.free 1
            have g2 := hB2.free 2
            have hE := HS1'.out C HPE.out hC
            subst hE
            have HBW5 := Lib.hid hbw
            clear hbw
            clear hB2 hB3 hBs hb4 hO6
            go_wp2_with fail
            exact bodyPost_ret (v := .tuple #[.agg #[.string ⟨#[]⟩, .slice none 0 0, .string ⟨#[]⟩], .int .i64 C]) (by simp [results, Tryd.results39, go_sem, r0, r1, r2]) rfl ⟨_, rfl, ((HBW5.out.setCell (by simp <;> omega) _).setCell (by simp <;> omega) _).setCell (by simp <;> omega) _, noSig_row⟩
      · have hltz : ¬ (kk : Int) < (f.params.length : Int) := by omega
        obtain rfl : kk = f.params.length := by omega
        have hbw := HBW.out.trans (BW.out.mono HBW.out.size)
        have hB1 := HB1.out.later BW.out HLT1.out
        have hB2 := HB2.out.later BW.out HLT2.out
        have hB3 := HB3.out.later BW.out HLT3.out
        have hBs := hBx.out
        have hall := hpe.out
        have hsv := HSV.out wr f.result f.var_ _ hbw HFF.out.2.2.2.1 hv0 (now_up TyR.stays HR.out hbw)
        have hsz : (solveOf m l f.var_ f.result).1.size ≤ 600 := HSZ.out f.var_ f.result
        have hS2 := fun z h h2 => HS2.out z (by first | rfl | trivial) hall h h2
        have hS3 := fun h => HS3.out (by first | rfl | trivial) hall h
        have hlm : ((f.params.take f.params.length).map (parTxt m l f)).length = f.params.length := by simp
        have htk : (f.params.take f.params.length).map (parTxt m l f) = f.params.map (parTxt m l f) := by rw [List.take_length]
        rw [htk] at hO hlm
        generalize solveOf m l f.var_ f.result = r at hsv hS2 hS3 hsz
        obtain ⟨S, C⟩ := r
        dsimp only at hsv hS2 hS3 hsz
        clear q0 q1 q2 q3 q4 q5 q6
        have x0 := hB1.at_ 0 _ rfl
        have x1 := hB1.at_ 1 _ rfl
        have x2 := hB1.at_ 2 _ rfl
        have q0 := hB3.at_ 0 _ rfl
        have q1 := hB3.at_ 1 _ rfl
        have q2 := hB3.at_ 2 _ rfl
        have q3 := hB3.at_ 3 _ rfl
        have q4 := hB3.at_ 4 _ rfl
        have q5 := hB3.at_ 5 _ rfl
        have q6 := hB3.at_ 6 _ rfl
        have HB1' := Lib.hid hB1; have HB2' := Lib.hid hB2; have HBs' := Lib.hid hBs; have HBw5 := Lib.hid hbw; have HSVP := Lib.hid hsv; have HSZP := Lib.hid hsz; have HS2' := Lib.hid hS2; have HS3' := Lib.hid hS3; have HLM := Lib.hid hlm
        clear hB1 hB2 hBs hbw hsv hsz hS2 hS3 hlm
        clear hB3 htk hall hpe
        go_wp2_with fail
        refine HSVP.out.mono ?_
        rintro e W6 ⟨rfl, hb6⟩
        have hB2 := HB2'.out.later hb6 HB2'.out.lt
        have hBs := HBs'.out.later hb6 HBs'.out.lt
        have hbw := HBw5.out.trans (hb6.mono HBw5.out.size)
        have hO6 := hO.out.below StrR.stays hb6
        have hoS : okS S := by have := HSZP.out; unfold okS; omega
        clear q0 q1 q2 q3 q4 q5 q6 x0 x1 x2 HSVP hb6
        have r0 := hB2.at_ 0 _ rfl
        have r1 := hB2.at_ 1 _ rfl
        have r2 := hB2.at_ 2 _ rfl
        have g0 := hB2.free 0
        have g1 := hB2.free 1
        have g2 := hB2.free 2
        have s0 := hBs.at_ 0 _ rfl
        have s1 := hBs.at_ 1 _ rfl
        have s2 := hBs.at_ 2 _ rfl
        have h2 := hBs.free 2
        have hw2 : w.heap.size + 1 < W2.heap.size := HLT2.out
        have hne : w.heap.size + 1 ≠ W2.heap.size := by omega
        have hne2 : W2.heap.size ≠ w.heap.size + 1 := by omega
        have hlow := HBW.out.size
        have hsl := hO6.slice StrR.stays (by_ := 16) (F' := fresh W3.heap.size W6.heap.size) (fun k hk => hk.elim) (fun k h1 h2 => ⟨h1, h2⟩) (by have := HLM.out; omega) (by have := HLM.out; omega)
        have HBw6 := Lib.hid hbw; have HSL := Lib.hid hsl; have HLOW := Lib.hid hlow
        clear hbw hsl hlow
        clear hB2 hBs hO6
        by_cases hC : C = 0
        · subst hC
          have hE := HS3'.out rfl
          subst hE
          go_wp2_with fail
          have hz := Hzs.out
          exact bodyPost_ret (v := .tuple #[.agg #[.string f.name, .slice A n c, .string S], .int .i64 0]) (by simp [results, Tryd.results39, go_sem, r0, r1, r2]) rfl ⟨_, rfl, (((HBw6.out.setCell (by have := HLOW.out; simp; omega) _).setCell (by simp <;> omega) _).setCell (by simp <;> omega) _).setCell (by simp <;> omega) _, _, rfl, hn0, hoS,
            HSL.out.stays StrR.stays (fun k hk => by have := HLOW.out; exact ⟨by have := hk.1; omega, by simpa only [size_set] using hk.2⟩) (((((Keeps.refl _ _).setCell (fresh_no (by simp; omega)) _).setCell (fresh_no (by simp; omega)) _).setCell (fresh_no (by simp; omega)) _).setCell (fresh_no (by simp; omega)) _)⟩
        · have hCz : (C == 0) = false := by simp [hC]
          have hE := HS2'.out C rfl hC
          subst hE
          go_wp2_with fail
          exact bodyPost_ret (v := .tuple #[.agg #[.string ⟨#[]⟩, .slice none 0 0, .string ⟨#[]⟩], .int .i64 C]) (by simp [results, Tryd.results39, go_sem, r0, r1, r2]) rfl ⟨_, rfl, (((HBw6.out.setCell (by have := HLOW.out; simp; omega) _).setCell (by simp <;> omega) _).setCell (by simp <;> omega) _).setCell (by simp <;> omega) _, noSig_row⟩

end Go.Proofs.YthedfpcdibhfpaaDoor
