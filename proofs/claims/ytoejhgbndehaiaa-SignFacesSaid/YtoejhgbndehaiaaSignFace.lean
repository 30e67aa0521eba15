/- The face that a module shows; what is wrong with what its functions take, and tell: sign.Face. -/
import Derived.Test.YtoejhgbndehaiaaTypeAll
import Derived.Test.YtoejhgbndehaiaaTypesW
import Derived.Test.YtoejhgbndehaiaaSignOne
namespace Go.Proofs.Ytoejhgbndehaiaa
open Go.RowKit Go.Shelf

/-- A Sig's cells. -/
def sigCells (cs : List Value) (s : ByteArray) : Prop := ∃ A n c r, cs = [.string s, .slice A n c, .string r]

set_option maxRecDepth 100000 in
set_option maxHeartbeats 1000000 in
theorem signCmp_any (s t r r' : ByteArray) (A A' : Option Addr) (n c n' c' : Nat) (W : World) : Calls Try.prog 32 #[.agg #[.string s, .slice A n c, .string r], .agg #[.string t, .slice A' n' c', .string r']] W fun e w' => e = .returned (.int .i64 (Lib.compareBytes s.data.toList t.data.toList)) ∧ ∃ q os, w' = Sort.grow (W.drewN q) os := by
  have hcon := fun W' => Try.strings_Compare s t W'
  generalize Lib.compareBytes s.data.toList t.data.toList = z at hcon ⊢
  go_enter Try.func32, Try.ntmps32
  go_wp2_with (go_at_call 27; refine (hcon _).mono ?_; rintro e w' ⟨rfl, rfl⟩)
  go_ret
  exact ⟨rfl, 0, _, by rw [Sort.alloc_eq_grow, Sort.alloc_eq_grow, Sort.grow_grow]; rfl⟩

set_option maxHeartbeats 1000000 in
theorem sortSigs_any {base : Nat} {F : Foot} {w : World} {v : Value} {l : List Sig} (h : Owns SigR 3 74 base w F v l) (hl : l.length ≤ 100) (hd : Apart_ Sig.name l) :
    Calls Try.prog 31 #[v, .func (.func 32) #[] #[]] w fun en w' => en = .returned (.tuple #[]) ∧ Owns SigR 3 74 base w' F v (sortBy Sig.name l) ∧ Grew base w w' v.ownBlock := by
  have hcon := sort_owned SigR.stays Sig.name sigCells 3 (by rintro cs s ⟨A, n, c, r, rfl⟩; exact ⟨rfl, sig_one⟩) (by intro w F cs x hx; obtain ⟨A, c, rfl, _⟩ := SigR.form hx; exact ⟨_, _, _, _, rfl⟩)
    Try.sortSig Try.isAgg74 Try.sizeOf74 32 (enters_of Try.func32 (by kernel_rfl) rfl)
    (by rintro cs ds s t W ⟨A, n, c, r, rfl⟩ ⟨A', n', c', r', rfl⟩; exact signCmp_any s t r r' A A' n c n' c' W) h (by omega)
  change Calls Try.prog 31 _ _ _ at hcon
  refine hcon.mono ?_
  rintro e w' ⟨he, l', hp, hs, hO, hg⟩
  rw [sorted_one hp hd hs] at hO
  exact ⟨he, hO, hg⟩

set_option maxRecDepth 100000 in
set_option maxHeartbeats 8000000 in
theorem signFace_any (m : Module) (l : List Import) (hm0 : modErr m = 0) (hl0 : importsErr l = 0) (ds : List Value) (lv : Value) (w : World)
    (hm : ModuleR w (old w.heap.size) ds m) (hl : SliceOf ImportR 4 72 w (old w.heap.size) lv l) :
    Calls Try.prog 14 #[.agg ds.toArray, lv] w fun e w' => ∃ (cs : List Value) (v2 : Value), e = .returned (.tuple #[.agg cs.toArray, v2]) ∧ Below w.heap.size w w' ∧ FaceR w' (fresh w.heap.size w'.heap.size) cs (faceOf m l) ∧ SliceOf DiagR 2 24 w' (fresh w.heap.size w'.heap.size) v2 (faceBad m l) := by
  obtain ⟨U1, u1, T1, e1, T2, e2, rfl, _, _, hT⟩ := ModuleR.form hm
  obtain ⟨L1, l1, rfl, _⟩ := hl.form
  have h24 := modErr_small hm0
  have hty := fun (U : World) (hU : Below w.heap.size w U) => aliasTypes_any m l hm0 hl0 _ _ U (now_up ModuleR.stays hm hU) (now_lup ImportR.stays hl hU)
  have hso := fun (k : Nat) (hk : k < m.funcs.length) (U : World) (hU : Below w.heap.size w U) => signOne_any m l hm0 hl0 k _ _ U hk (now_up ModuleR.stays hm hU) (now_lup ImportR.stays hl hU)
  have hTc := hT.caps
  have ht64 : m.funcs.length ≤ 24 := by omega
  unfold faceOf
  obtain ⟨E, hE⟩ : ∃ z, typesOf m l = z := ⟨_, rfl⟩
  rw [hE]
  rw [hE] at hty
  have HTY := Lib.hid hty; have HSO := Lib.hid hso; have HT := Lib.hid hT; have H24 := Lib.hid h24; have HE := Lib.hid hE
  clear hty hso hT h24 hE
  clear hm hl hm0 hl0
  go_enter Try.func14, Try.ntmps14
  go_upto_region 2 with fail
  have hBb1 := (((Box.made w 39 #[.slice U1 m.uses.length u1, .slice T1 m.types.length e1, .slice T2 m.funcs.length e2]).alloc (.cells #[.slice none 0 0, .slice none 0 0] 30)).alloc (.cells #[.slice none 0 0, .slice none 0 0] 30))
  have hBb2 := ((Box.made (w.alloc (.cells #[.slice U1 m.uses.length u1, .slice T1 m.types.length e1, .slice T2 m.funcs.length e2] 39)) 30 #[.slice none 0 0, .slice none 0 0]).alloc (.cells #[.slice none 0 0, .slice none 0 0] 30))
  rw [show (w.alloc (.cells #[.slice U1 m.uses.length u1, .slice T1 m.types.length e1, .slice T2 m.funcs.length e2] 39)).heap.size = w.heap.size + 1 by simp only [World.size_alloc]] at hBb2
  have hBb3 := (Box.made ((w.alloc (.cells #[.slice U1 m.uses.length u1, .slice T1 m.types.length e1, .slice T2 m.funcs.length e2] 39)).alloc (.cells #[.slice none 0 0, .slice none 0 0] 30)) 30 #[.slice none 0 0, .slice none 0 0])
  rw [show ((w.alloc (.cells #[.slice U1 m.uses.length u1, .slice T1 m.types.length e1, .slice T2 m.funcs.length e2] 39)).alloc (.cells #[.slice none 0 0, .slice none 0 0] 30)).heap.size = w.heap.size + 1 + 1 by simp only [World.size_alloc]] at hBb3
  have hbb : Below w.heap.size w (((w.alloc (.cells #[.slice U1 m.uses.length u1, .slice T1 m.types.length e1, .slice T2 m.funcs.length e2] 39)).alloc (.cells #[.slice none 0 0, .slice none 0 0] 30)).alloc (.cells #[.slice none 0 0, .slice none 0 0] 30)) := by go_grown
  have hzb : (((w.alloc (.cells #[.slice U1 m.uses.length u1, .slice T1 m.types.length e1, .slice T2 m.funcs.length e2] 39)).alloc (.cells #[.slice none 0 0, .slice none 0 0] 30)).alloc (.cells #[.slice none 0 0, .slice none 0 0] 30)).heap.size = w.heap.size + 1 + 1 + 1 := by simp only [World.size_alloc]
  generalize ((w.alloc (.cells #[.slice U1 m.uses.length u1, .slice T1 m.types.length e1, .slice T2 m.funcs.length e2] 39)).alloc (.cells #[.slice none 0 0, .slice none 0 0] 30)).alloc (.cells #[.slice none 0 0, .slice none 0 0] 30) = W1 at hBb1 hBb2 hBb3 hbb hzb ⊢
  have m0 := hBb1.at_ 0 _ rfl
  have m1 := hBb1.at_ 1 _ rfl
  have m2 := hBb1.at_ 2 _ rfl
  have HB1 := Lib.hid hBb1; have HB2 := Lib.hid hBb2; have HB3 := Lib.hid hBb3; have HB := Lib.hid hbb; have HZ1 := Lib.hid hzb
  clear hBb1 hBb2 hBb3 hbb hzb
  go_wp2_with fail
  refine (HTY.out W1 HB.out).mono ?_
  rintro e W2 ⟨v1, v1', rfl, hb2, hr2, hs2⟩
  obtain ⟨A5, c5, rfl, _⟩ := hr2.form
  obtain ⟨A6, c6, rfl, _⟩ := hs2.form
  clear m0 m1 m2 hs2
  have hz1 := HZ1.out
  have hB3 := HB3.out.later hb2 HB3.out.lt
  have hfc : Facing w (W2.setCell ⟨w.heap.size + 1 + 1, 0, none⟩ (.slice A5 E.length c5)) W2.heap.size #[.slice U1 m.uses.length u1, .slice T1 m.types.length e1, .slice T2 m.funcs.length e2] E (.slice A5 E.length c5) none_ (.slice none 0 0) (.slice none 0 0) [] [] := by
    have hs := hb2.size
    refine ⟨(HB.out.trans (hb2.mono HB.out.size)).setCell (by simp; omega) _, (HB1.out.later hb2 HB1.out.lt).far (by simp; omega) _, (HB2.out.later hb2 HB2.out.lt).far (by simp) _, by simpa using hB3.put 0 (.slice A5 E.length c5), hr2.stays KnownR.stays (fun k hk => ⟨by have := hk.1; omega, hk.2⟩) ((Keeps.refl _ _).setCell (fun hk => by have := hk.1; simp at this <;> omega) _), Owns.nil_, Owns.nil_, fun k hk => hk.elim, (fun g hg => by cases hg), fun k hk => hk.elim, by omega, by simp⟩
  have y0 := hB3.at_ 0 _ rfl
  have y1 := hB3.at_ 1 _ rfl
  have g0 := hB3.free 0
  have HFC := Lib.hid hfc
  clear hfc
  clear hB3 hr2 hb2 HB1 HB2 HB3 HB
  go_upto_region 4 with fail
  obtain ⟨W3, hW3⟩ : ∃ W, W2.setCell ⟨w.heap.size + 1 + 1, 0, none⟩ (.slice A5 E.length c5) = W := ⟨_, rfl⟩
  rw [hW3]
  have hfc := HFC.out
  rw [hW3] at hfc
  clear HFC hW3 y0 y1 g0 HTY HZ1 hz1
  have y2 := hfc.bm.at_ 2 _ rfl
  have HFC := Lib.hid hfc
  clear hfc
  go_wp2_with fail
  go_loopg [7, 8, 9, 10, 11, 23] m.funcs.length (fun gg s7 s8 s9 s10 s11 s23 wr => ∃ (kk n c n2 c2 : Nat) (A A2 : Option Addr) (G : Foot), kk ≤ m.funcs.length ∧ m.funcs.length - kk ≤ gg ∧ s23 = .int .i64 kk ∧ s7 = .slice A2 n2 c2 ∧ Aside (n = (sigsTo m l kk).length) ∧ Aside (n2 = (sigBadTo m l kk).length) ∧
    Aside (Facing w wr W2.heap.size #[.slice U1 m.uses.length u1, .slice T1 m.types.length e1, .slice T2 m.funcs.length e2] E (.slice A5 E.length c5) G (.slice A n c) (.slice A2 n2 c2) (sigsTo m l kk) (sigBadTo m l kk)))
  case atStart => exact ⟨0, 0, 0, 0, 0, none, none, none_, Nat.zero_le _, by omega, rfl, rfl, aside rfl, aside rfl, aside HFC.out⟩
  case round =>
    obtain ⟨kk, n, c, n2, c2, A, A2, G, hkk, hg, rfl, rfl, hn, hn2, hF⟩ := hrel
    clear y2 HFC
    have hf := hF.out
    by_cases hlt : kk < m.funcs.length
    · have hltz : (kk : Int) < (m.funcs.length : Int) := by omega
      have hat := now_lup FuncR.stays HT.out hf.below
      obtain ⟨bp, offp, cs, hP1, hbF, hcs, hpr, hcell⟩ := hat.at_ (k := kk) hlt
      have hpx := List.getElem?_eq_getElem hlt
      generalize m.funcs[kk] = p at hpx hpr
      obtain ⟨P1, p1, a1, a2, a3, a4, b1, b2, b3, b4, b5, rfl, hn0, hv0, _, hR, hX⟩ := FuncR.form hpr
      obtain ⟨A8, n8, hq⟩ := TyR.form hR
      simp only [List.cons.injEq, and_true] at hq
      obtain ⟨rfl, rfl, rfl, rfl⟩ := hq
      obtain ⟨A9, n9, hq⟩ := ExR.form hX
      simp only [List.cons.injEq, and_true] at hq
      obtain ⟨rfl, rfl, rfl, rfl, rfl⟩ := hq
      have hc0 := hcell 0 _ rfl
      have hc1 := hcell 1 _ rfl
      have hc2 := hcell 2 _ rfl
      have hc3 := hcell 3 _ rfl
      have hc4 := hcell 4 _ rfl
      have hc5 := hcell 5 _ rfl
      have hc6 := hcell 6 _ rfl
      have hc7 := hcell 7 _ rfl
      have hc8 := hcell 8 _ rfl
      have hc9 := hcell 9 _ rfl
      have hc10 := hcell 10 _ rfl
      have hc11 := hcell 11 _ rfl
      simp only [Nat.add_zero] at hc0
      subst hP1
      have hg4 := sigsTo_le (m := m) (l := l) kk
      have hb4 := sigBadTo_le (m := m) (l := l) kk
      have hq0 := fun h => sigsTo_bad (l := l) hpx h
      have hq1 := fun h => sigBadTo_bad (l := l) hpx h
      have hq2 := fun h => sigsTo_good (l := l) hpx h
      have hq3 := fun h => sigBadTo_good (l := l) hpx h
      have hci := sigOne_i64 (m := m) (l := l) kk
      have hone := HSO.out kk hlt
      generalize sigOne m l kk = r at hq0 hq1 hq2 hq3 hci hone
      obtain ⟨S, C⟩ := r
      dsimp only at hq0 hq1 hq2 hq3 hci hone
      have HN0 := Lib.hid hn0; have HQ0 := Lib.hid hq0; have HQ1 := Lib.hid hq1; have HQ2 := Lib.hid hq2; have HQ3 := Lib.hid hq3; have HG4 := Lib.hid hg4; have HB4 := Lib.hid hb4; have HCI := Lib.hid hci; have HONE := Lib.hid hone; have HF0 := Lib.hid hf
      clear hn0 hq0 hq1 hq2 hq3 hg4 hb4 hci hone hf
      clear hpr hcell hcs hbF hat hR hX hv0 hpx hF
      go_upto_region 7 with fail
      have hBp := Box.made wr 79 #[.string p.name, .string p.var_, .slice P1 p.params.length p1, .int .i64 p.result.kind, .string p.result.of_, .string p.result.name, .slice A8 p.result.args.length n8, .int .i64 p.body.kind, .int .i64 p.body.n, .string p.body.of_, .string p.body.s, .slice A9 p.body.args.length n9]
      have hbp : Below wr.heap.size wr (wr.alloc (.cells #[.string p.name, .string p.var_, .slice P1 p.params.length p1, .int .i64 p.result.kind, .string p.result.of_, .string p.result.name, .slice A8 p.result.args.length n8, .int .i64 p.body.kind, .int .i64 p.body.n, .string p.body.of_, .string p.body.s, .slice A9 p.body.args.length n9] 79)) := by go_grown
      have hzp : (wr.alloc (.cells #[.string p.name, .string p.var_, .slice P1 p.params.length p1, .int .i64 p.result.kind, .string p.result.of_, .string p.result.name, .slice A8 p.result.args.length n8, .int .i64 p.body.kind, .int .i64 p.body.n, .string p.body.of_, .string p.body.s, .slice A9 p.body.args.length n9] 79)).heap.size = wr.heap.size + 1 := by simp
      generalize wr.alloc (.cells #[.string p.name, .string p.var_, .slice P1 p.params.length p1, .int .i64 p.result.kind, .string p.result.of_, .string p.result.name, .slice A8 p.result.args.length n8, .int .i64 p.body.kind, .int .i64 p.body.n, .string p.body.of_, .string p.body.s, .slice A9 p.body.args.length n9] 79) = W4 at hBp hbp hzp ⊢
      clear hc0 hc1 hc2 hc3 hc4 hc5 hc6 hc7 hc8 hc9 hc10 hc11
      have hf4 := HF0.out.later hbp
      have hone := HONE.out W4 hf4.below
      have m0 := hf4.bm.at_ 0 _ rfl
      have m1 := hf4.bm.at_ 1 _ rfl
      have m2 := hf4.bm.at_ 2 _ rfl
      have HF4 := Lib.hid hf4; have HBp := Lib.hid hBp; have HONE4 := Lib.hid hone
      clear hf4 hBp hone
      clear HF0 HONE hbp hzp
      go_wp2_with fail
      refine HONE4.out.mono ?_
      rintro e W5 ⟨qs, rfl, hb5, hs5⟩
      obtain ⟨A7, c7, rfl, hsn, hsr, hsp⟩ := SigR.form hs5
      have hf5 := HF4.out.later hb5
      have hBp5 := HBp.out.later hb5 HBp.out.lt
      have hrow : ∀ g, (Value.slice A n c).ownBlock = some g → g < W4.heap.size := fun g hg => (HF4.out.own.row hg).2
      have hrow2 : ∀ g, (Value.slice A2 n2 c2).ownBlock = some g → g < W4.heap.size := fun g hg => (HF4.out.bad.row hg).2
      have hB4 := HF4.out.hi
      have HF5 := Lib.hid hf5; have HBp5 := Lib.hid hBp5; have HS5 := Lib.hid hs5; have HROW := Lib.hid hrow; have HROW2 := Lib.hid hrow2; have HHI := Lib.hid hB4
      clear hf5 hBp5 hs5 hrow hrow2 hB4
      clear m0 m1 m2 HF4 HBp HONE4 hb5 hsn hsr hsp
      go_upto_region 8 with fail
      have hBs := Box.made W5 74 #[.string S.name, .slice A7 S.params.length c7, .string S.result]
      have hbs : Below W5.heap.size W5 (W5.alloc (.cells #[.string S.name, .slice A7 S.params.length c7, .string S.result] 74)) := by go_grown
      have hzs : (W5.alloc (.cells #[.string S.name, .slice A7 S.params.length c7, .string S.result] 74)).heap.size = W5.heap.size + 1 := by simp
      generalize W5.alloc (.cells #[.string S.name, .slice A7 S.params.length c7, .string S.result] 74) = W6 at hBs hbs hzs ⊢
      have hf6 := HF5.out.later hbs
      have hBp6 := HBp5.out.later hbs HBp5.out.lt
      have hs6 : SigR W6 (fresh W4.heap.size W5.heap.size) _ S := SigR.stays.later HS5.out hbs (fun k hk => hk.2)
      have hz6 := hbs.size
      by_cases hC : C = 0
      · subst hC
        have hq2 := HQ2.out rfl
        have hq3 := HQ3.out rfl
        have y1 := hf6.bo.at_ 1 _ rfl
        have g1 := hf6.bo.free 1
        have s0 := hBs.at_ 0 _ rfl
        have s1 := hBs.at_ 1 _ rfl
        have s2 := hBs.at_ 2 _ rfl
        have hGG : ∀ k, fresh W4.heap.size W5.heap.size k → k < W6.heap.size ∧ some k ≠ (Value.slice A n c).ownBlock := fun k hk => ⟨by have := hk.2; omega, fun e => by have := HROW.out k e.symm; have := hk.1; omega⟩
        have hGB : ∀ k, fresh W4.heap.size W5.heap.size k → W2.heap.size ≤ k ∧ some k ≠ (Value.slice A2 n2 c2).ownBlock := fun k hk => ⟨by have := hk.1; have := HHI.out; omega, fun e => by have := HROW2.out k e.symm; have := hk.1; omega⟩
        have HQ2' := Lib.hid hq2; have HQ3' := Lib.hid hq3; have HF6 := Lib.hid hf6; have HS6 := Lib.hid hs6; have HGG := Lib.hid hGG; have HGB := Lib.hid hGB
        clear hq2 hq3 hf6 hs6 hGG hGB
        clear HQ0 HQ1 HQ2 HQ3 hBp6 hBs hbs hzs HF5 HBp5 HS5 hz6
        go_wp2_with (at_builtin; go_must ((refine wpList_push SigR.stays (.agg #[.string ⟨#[]⟩, .slice none 0 0, .string ⟨#[]⟩]) [.string S.name, .slice A7 S.params.length c7, .string S.result] S rfl rfl Try.underlying28 (bytes := 56) (by kernel_rfl) HF6.out.own rfl rfl (by decide) rfl rfl HS6.out sig_one HGG.out (by unfold maxLen; have := HG4.out; omega) (by have := HG4.out; omega) (by exact HF6.out.hi) ?_); (intro A10 c10 W7 hO7 hgr hloc; have hf7 := HF6.out.pushSig hO7 hgr hloc HGB.out; have hb7 := hgr.box HF6.out.bo (by have := HF6.out.lo; omega); clear y1 g1; have y1 := hb7.at_ 1 _ rfl; have g1 := hb7.free 1; have HF7 := Lib.hid hf7; clear hO7 hgr hloc hf7 hb7)))
        go_roundg (m.funcs.length - (kk + 1))
        case measure => omega
        case rel =>
          exact ⟨kk + 1, (sigsTo m l kk).length + 1, c10, n2, c2, A10, A2, _, by omega, by omega, by go_num, rfl, aside (by rw [HQ2'.out]; simp), aside (by rw [HQ3'.out]; exact hn2.out), aside (by rw [HQ2'.out, HQ3'.out]; exact HF7.out)⟩
      · have hCz : (C == 0) = false := by simp [hC]
        have hq0 := HQ0.out hC
        have hq1 := HQ1.out hC
        have p0 := hBp6.at_ 0 _ rfl
        have HQ0' := Lib.hid hq0; have HQ1' := Lib.hid hq1; have HF6 := Lib.hid hf6
        clear hq0 hq1 hf6
        clear HQ0 HQ1 HQ2 HQ3 hBp6 hBs hbs hzs HF5 HBp5 HS5 hz6 hs6
        go_wp2_with (at_builtin; go_must ((refine wpList_push DiagR.stays (.agg #[.string ⟨#[]⟩, .int .i64 0]) [.string p.name, .int .i64 C] ⟨p.name, C⟩ rfl rfl Try.underlying31 (bytes := 24) (by kernel_rfl) HF6.out.bad rfl rfl (by decide) rfl rfl (show DiagR W6 none_ _ _ from ⟨rfl, HN0.out, HCI.out⟩) (diag_one (d := ⟨p.name, C⟩)) (fun k hk => hk.elim) (by unfold maxLen; have := HB4.out; omega) (by have := HB4.out; omega) (by exact HF6.out.hi) ?_); (intro A10 c10 W7 hO7 hgr hloc; have hf7 := HF6.out.pushBad hO7 hgr hloc; have HF7 := Lib.hid hf7; clear hO7 hgr hloc hf7)))
        go_roundg (m.funcs.length - (kk + 1))
        case measure => omega
        case rel =>
          exact ⟨kk + 1, n, c, (sigBadTo m l kk).length + 1, c10, A, A10, _, by omega, by omega, by go_num, rfl, aside (by rw [HQ0'.out]; exact hn.out), aside (by rw [HQ1'.out]; simp), aside (by rw [HQ0'.out, HQ1'.out]; exact HF7.out)⟩
    · have hltz : ¬ (kk : Int) < (m.funcs.length : Int) := by omega
      obtain rfl : kk = m.funcs.length := by omega
      have hg4 := sigsTo_le (m := m) (l := l) m.funcs.length
      have hb4 := sigBadTo_le (m := m) (l := l) m.funcs.length
      have hso := sortSigs_any hf.own (by omega) (sigsTo_apart _)
      have y1 := hf.bo.at_ 1 _ rfl
      have HSOR := Lib.hid hso; have HF0 := Lib.hid hf
      clear hso hf
      clear hF
      go_wp2_with fail
      refine HSOR.out.mono ?_
      rintro e W6 ⟨rfl, hO6, hgr⟩
      have hf6 := HF0.out.sorted hO6 hgr
      clear y1 hO6 hgr
      have hdn := hf6.done (by rw [sortBy_length]; omega) (by omega)
      have y0 := hf6.bo.at_ 0 _ rfl
      have y1 := hf6.bo.at_ 1 _ rfl
      have r0 := hf6.br.at_ 0 _ rfl
      have r1 := hf6.br.at_ 1 _ rfl
      have g0 := hf6.br.free 0
      have g1 := hf6.br.free 1
      have HDN := Lib.hid hdn
      clear hdn
      clear hf6
      go_wp2_with fail
      exact bodyPost_ret (v := .tuple #[.agg #[.slice A5 E.length c5, .slice A n c], .slice A2 n2 c2]) (by simp [results, Try.results14, go_sem, r0, r1]) rfl ⟨_, _, rfl, HDN.out.1, HDN.out.2.1, HDN.out.2.2⟩

end Go.Proofs.Ytoejhgbndehaiaa
