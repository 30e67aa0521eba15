/- The face that a module shows; what is wrong with what its functions take, and tell: the reference's FaceOf. -/
import Derived.Test.YtoejhgbndehaiaaTypeAll
import Derived.Test.YtoejhgbndehaiaaTypesR
import Derived.Test.YtoejhgbndehaiaaSigOf
import Derived.Deep.RegionWith
import Derived.Deep.DeepCutAuto
import Derived.Deep.QuietTactic
import Derived.BigQuiet
import Derived.WalkSmall
namespace Go.Proofs.Ytoejhgbndehaiaa
open Go.RowKit Go.Shelf

theorem insStep_by {α : Type} {f : α → ByteArray} {y x : α} {P : List α} {d z : Bool} (h : (!d && ltS (f y) (f x)) = z) : insStep f y (P, d) x = if z = true then (P ++ [y, x], true) else (P ++ [x], d) := by
  subst h
  cases d with
  | true => simp [insStep]
  | false => cases hq : ltS (f y) (f x) <;> simp [insStep, hq]

set_option maxRecDepth 100000 in
set_option maxHeartbeats 16000000 in
theorem faceOf_any (m : Module) (l : List Import) (hm0 : modErr m = 0) (hl0 : importsErr l = 0) (ds : List Value) (lv : Value) (w : World)
    (hm : ModuleR w (old w.heap.size) ds m) (hl : SliceOf ImportR 4 72 w (old w.heap.size) lv l) :
    Calls Try.prog 15 #[.agg ds.toArray, lv] w fun e w' => ∃ (cs : List Value) (v2 : Value), e = .returned (.tuple #[.agg cs.toArray, v2]) ∧ Below w.heap.size w w' ∧ FaceR w' (fresh w.heap.size w'.heap.size) cs (faceOf m l) ∧ SliceOf DiagR 2 24 w' (fresh w.heap.size w'.heap.size) v2 (faceBad m l) := by
  obtain ⟨U1, u1, T1, e1, T2, e2, rfl, _, _, hT⟩ := ModuleR.form hm
  obtain ⟨L1, l1, rfl, _⟩ := hl.form
  have h24 := modErr_small hm0
  have hty := fun (U : World) (hU : Below w.heap.size w U) => typesOf_any m l hm0 hl0 _ _ U (now_up ModuleR.stays hm hU) (now_lup ImportR.stays hl hU)
  have hso := fun (k : Nat) (hk : k < m.funcs.length) (U : World) (hU : Below w.heap.size w U) => sigOf_any m l hm0 hl0 k _ _ U hk (now_up ModuleR.stays hm hU) (now_lup ImportR.stays hl hU)
  have hTc := hT.caps
  have ht64 : m.funcs.length ≤ 24 := by omega
  unfold faceOf
  obtain ⟨E, hE⟩ : ∃ z, typesOf m l = z := ⟨_, rfl⟩
  rw [hE]
  rw [hE] at hty
  have HTY := Lib.hid hty; have HSO := Lib.hid hso; have HT := Lib.hid hT; have H24 := Lib.hid h24; have HE := Lib.hid hE
  clear hty hso hT h24 hE
  clear hm hl hm0 hl0
  go_enter Try.func15, Try.ntmps15
  go_upto_region 2 with fail
  have hBb1 := (((Box.made w 39 #[.slice U1 m.uses.length u1, .slice T1 m.types.length e1, .slice T2 m.funcs.length e2]).alloc (.cells #[.slice none 0 0, .slice none 0 0] 30)).alloc (.cells #[.slice none 0 0, .slice none 0 0] 30))
  have hBb2 := ((Box.made (w.alloc (.cells #[.slice U1 m.uses.length u1, .slice T1 m.types.length e1, .slice T2 m.funcs.length e2] 39)) 30 #[.slice none 0 0, .slice none 0 0]).alloc (.cells #[.slice none 0 0, .slice none 0 0] 30))
  rw [show (w.alloc (.cells #[.slice U1 m.uses.length u1, .slice T1 m.types.length e1, .slice T2 m.funcs.length e2] 39)).heap.size = w.heap.size + 1 by simp only [World.size_alloc]] at hBb2
  have hBb3 := (Box.made ((w.alloc (.cells #[.slice U1 m.uses.length u1, .slice T1 m.types.length e1, .slice T2 m.funcs.length e2] 39)).alloc (.cells #[.slice none 0 0, .slice none 0 0] 30)) 30 #[.slice none 0 0, .slice none 0 0])
  rw [show ((w.alloc (.cells #[.slice U1 m.uses.length u1, .slice T1 m.types.length e1, .slice T2 m.funcs.length e2] 39)).alloc (.cells #[.slice none 0 0, .slice none 0 0] 30)).heap.size = w.heap.size + 1 + 1 by simp only [World.size_alloc]] at hBb3
  have hbb : Below w.heap.size w (((w.alloc (.cells #[.slice U1 m.uses.length u1, .slice T1 m.types.length e1, .slice T2 m.funcs.length e2] 39)).alloc (.cells #[.slice none 0 0, .slice none 0 0] 30)).alloc (.cells #[.slice none 0 0, .slice none 0 0] 30)) := by go_grown
  have hzb : (((w.alloc (.cells #[.slice U1 m.uses.length u1, .slice T1 m.types.length e1, .slice T2 m.funcs.length e2] 39)).alloc (.cells #[.slice none 0 0, .slice none 0 0] 30)).alloc (.cells #[.slice none 0 0, .slice none 0 0] 30)).heap.size = w.heap.size + 1 + 1 + 1 := by simp only [World.size_alloc]
  generalize ((w.alloc (.cells #[.slice U1 m.uses.length u1, .slice T1 m.types.length e1, .slice T2 m.funcs.length e2] 39)).alloc (.cells #[.slice none 0 0, .slice none 0 0] 30)).alloc (.cells #[.slice none 0 0, .slice none 0 0] 30) = W1 at hBb1 hBb2 hBb3 hbb hzb ⊢
  have m0 := hBb1.at_ 0 _ rfl
  have m1 := hBb1.at_ 1 _ rfl
  have m2 := hBb1.at_ 2 _ rfl
  have HB1 := Lib.hid hBb1; have HB2 := Lib.hid hBb2; have HB3 := Lib.hid hBb3; have HB := Lib.hid hbb; have HZ1 := Lib.hid hzb
  clear hBb1 hBb2 hBb3 hbb hzb
  go_wp2_with fail
  refine (HTY.out W1 HB.out).mono ?_
  rintro e W2 ⟨v1, v1', rfl, hb2, hr2, hs2⟩
  obtain ⟨A5, c5, rfl, _⟩ := hr2.form
  obtain ⟨A6, c6, rfl, _⟩ := hs2.form
  clear m0 m1 m2 hs2
  have hz1 := HZ1.out
  have hB3 := HB3.out.later hb2 HB3.out.lt
  have hfc : Facing w (W2.setCell ⟨w.heap.size + 1 + 1, 0, none⟩ (.slice A5 E.length c5)) W2.heap.size #[.slice U1 m.uses.length u1, .slice T1 m.types.length e1, .slice T2 m.funcs.length e2] E (.slice A5 E.length c5) none_ (.slice none 0 0) (.slice none 0 0) [] [] := by
    have hs := hb2.size
    refine ⟨(HB.out.trans (hb2.mono HB.out.size)).setCell (by simp; omega) _, (HB1.out.later hb2 HB1.out.lt).far (by simp; omega) _, (HB2.out.later hb2 HB2.out.lt).far (by simp) _, by simpa using hB3.put 0 (.slice A5 E.length c5), hr2.stays KnownR.stays (fun k hk => ⟨by have := hk.1; omega, hk.2⟩) ((Keeps.refl _ _).setCell (fun hk => by have := hk.1; simp at this <;> omega) _), Owns.nil_, Owns.nil_, fun k hk => hk.elim, (fun g hg => by cases hg), fun k hk => hk.elim, by omega, by simp⟩
  have y0 := hB3.at_ 0 _ rfl
  have y1 := hB3.at_ 1 _ rfl
  have g0 := hB3.free 0
  have HFC := Lib.hid hfc
  clear hfc
  clear hB3 hr2 hb2 HB1 HB2 HB3 HB
  go_upto_region 4 with fail
  obtain ⟨W3, hW3⟩ : ∃ W, W2.setCell ⟨w.heap.size + 1 + 1, 0, none⟩ (.slice A5 E.length c5) = W := ⟨_, rfl⟩
  rw [hW3]
  have hfc := HFC.out
  rw [hW3] at hfc
  clear HFC hW3 y0 y1 g0 HTY HZ1 hz1
  have HFC := Lib.hid hfc
  clear hfc
  go_wp2_with fail
  go_loopg [7, 8, 9, 10, 11, 12, 13] m.funcs.length (fun gg s7 s8 s9 s10 s11 s12 s13 wr => ∃ (kk n c n2 c2 : Nat) (A A2 : Option Addr) (G : Foot), kk ≤ m.funcs.length ∧ m.funcs.length - kk ≤ gg ∧ s8 = .int .i64 kk ∧ s7 = .slice A2 n2 c2 ∧ Aside (n = (sortBy Sig.name (sigsTo m l kk)).length) ∧ Aside (n2 = (sigBadTo m l kk).length) ∧
    Aside (Facing w wr W2.heap.size #[.slice U1 m.uses.length u1, .slice T1 m.types.length e1, .slice T2 m.funcs.length e2] E (.slice A5 E.length c5) G (.slice A n c) (.slice A2 n2 c2) (sortBy Sig.name (sigsTo m l kk)) (sigBadTo m l kk)))
  case atStart => exact ⟨0, 0, 0, 0, 0, none, none, none_, Nat.zero_le _, by omega, rfl, rfl, aside rfl, aside rfl, aside HFC.out⟩
  case round =>
    obtain ⟨kk, n, c, n2, c2, A, A2, G, hkk, hg, rfl, rfl, hn, hn2, hF⟩ := hrel
    obtain ⟨wo, rfl⟩ : ∃ W, W = wr := ⟨_, rfl⟩
    clear HFC
    have hf := hF.out
    have m0 := hf.bm.at_ 0 _ rfl
    have m1 := hf.bm.at_ 1 _ rfl
    have m2 := hf.bm.at_ 2 _ rfl
    by_cases hlt : kk < m.funcs.length
    · have hltz : (kk : Int) < (m.funcs.length : Int) := by omega
      have hat := now_lup FuncR.stays HT.out hf.below
      obtain ⟨bp, offp, cs, hP1, hbF, hcs, hpr, hcell⟩ := hat.at_ (k := kk) hlt
      have hpx := List.getElem?_eq_getElem hlt
      generalize m.funcs[kk] = p at hpx hpr
      obtain ⟨P1, p1, a1, a2, a3, a4, b1, b2, b3, b4, b5, rfl, hn0, hv0, _, hR, hX⟩ := FuncR.form hpr
      have hc0 := hcell 0 _ rfl
      simp only [Nat.add_zero] at hc0
      subst hP1
      have hqp : bp < wo.heap.size := hbF
      have hg4 := sigsTo_le (m := m) (l := l) kk
      have hg5 : (sortBy Sig.name (sigsTo m l kk)).length ≤ kk := by rw [sortBy_length]; exact hg4
      have hb4 := sigBadTo_le (m := m) (l := l) kk
      have hq0 := fun h => sigsTo_bad (l := l) hpx h
      have hq1 := fun h => sigBadTo_bad (l := l) hpx h
      have hq2 := fun h => sigsTo_good (l := l) hpx h
      have hq3 := fun h => sigBadTo_good (l := l) hpx h
      have hci := sigOne_i64 (m := m) (l := l) kk
      have hone := HSO.out kk hlt wo hf.below
      generalize sigOne m l kk = r at hq0 hq1 hq2 hq3 hci hone
      obtain ⟨S, C⟩ := r
      dsimp only at hq0 hq1 hq2 hq3 hci hone
      have hrow2 : ∀ g, (Value.slice A2 n2 c2).ownBlock = some g → g < wo.heap.size := fun g hg => (hf.bad.row hg).2
      have HN0 := Lib.hid hn0; have HQ0 := Lib.hid hq0; have HQ1 := Lib.hid hq1; have HQ2 := Lib.hid hq2; have HQ3 := Lib.hid hq3; have HG5 := Lib.hid hg5; have HB4 := Lib.hid hb4; have HCI := Lib.hid hci; have HONE := Lib.hid hone; have HF0 := Lib.hid hf; have HROW2 := Lib.hid hrow2
      clear hn0 hq0 hq1 hq2 hq3 hg5 hb4 hci hone hf hrow2
      clear hpr hcell hcs hbF hat hR hX hv0 hpx hF hg4
      go_wp2_with fail
      refine HONE.out.mono ?_
      rintro e W5 ⟨qs, rfl, hb5, hs5⟩
      obtain ⟨A7, c7, rfl, hsn, hsr, hsp⟩ := SigR.form hs5
      have hf5 := HF0.out.later hb5
      have hd0 := (hb5.cell (p := ⟨bp, offp + kk * 12, none⟩) hqp).trans hc0
      have hq5 : bp < W5.heap.size := Nat.lt_of_lt_of_le hqp hb5.size
      have hB4 := HF0.out.hi
      clear m0 m1 m2 hc0 hqp HONE
      have HF5 := Lib.hid hf5; have HS5 := Lib.hid hs5; have HHI := Lib.hid hB4; have HB5 := Lib.hid hb5
      clear hf5 hs5 hB4 hb5
      clear hsn hsr hsp
      go_upto_region 8 with fail
      have hBs := Box.made W5 74 #[.string S.name, .slice A7 S.params.length c7, .string S.result]
      have hbs : Below W5.heap.size W5 (W5.alloc (.cells #[.string S.name, .slice A7 S.params.length c7, .string S.result] 74)) := by go_grown
      have hzs : (W5.alloc (.cells #[.string S.name, .slice A7 S.params.length c7, .string S.result] 74)).heap.size = W5.heap.size + 1 := by simp
      generalize W5.alloc (.cells #[.string S.name, .slice A7 S.params.length c7, .string S.result] 74) = W6 at hBs hbs hzs ⊢
      have hf6 := HF5.out.later hbs
      have hs6 : SigR W6 (fresh wo.heap.size W5.heap.size) _ S := SigR.stays.later HS5.out hbs (fun k hk => hk.2)
      have hz6 := hbs.size
      have hd1 := (hbs.cell (p := ⟨bp, offp + kk * 12, none⟩) hq5).trans hd0
      clear hd0 hq5
      by_cases hC : C = 0
      · subst hC
        have hq2 := HQ2.out rfl
        have hq3 := HQ3.out rfl
        have hGH : ∀ k, G k ∨ fresh wo.heap.size W5.heap.size k → W2.heap.size ≤ k ∧ k < W6.heap.size ∧ some k ≠ (Value.slice A2 n2 c2).ownBlock := fun k hk => by
          rcases hk with hk | hk
          · exact ⟨hf6.low k hk, (hf6.own.foot hk).1, hf6.apG k hk⟩
          · exact ⟨by have := hk.1; have := HHI.out; omega, by have := hk.2; omega, fun e => by have := HROW2.out k e.symm; have := hk.1; omega⟩
        obtain ⟨lo, hlo⟩ : ∃ z, sortBy Sig.name (sigsTo m l kk) = z := ⟨_, rfl⟩
        rw [hlo] at HG5 hn hf6
        obtain ⟨bd, hbd⟩ : ∃ z, sigBadTo m l kk = z := ⟨_, rfl⟩
        rw [hbd] at HB4 hn2 hf6
        have hn' : n = lo.length := hn.out
        subst hn'
        have hns : W5.heap.size < W6.heap.size := hBs.lt
        have HQ2' := Lib.hid hq2; have HQ3' := Lib.hid hq3; have HF6 := Lib.hid hf6; have HS6 := Lib.hid hs6; have HGH := Lib.hid hGH; have HLO := Lib.hid hlo; have HBD := Lib.hid hbd; have HBs := Lib.hid hBs
        clear hq2 hq3 hf6 hs6 hGH hlo hbd hBs
        clear HQ0 HQ1 HQ2 HQ3 hbs hzs HF5 HS5 hz6 hd1 HF0
        go_wp2_with fail
        go_loopg [11, 12, 13] lo.length (fun gg s11 s12 s13 wr => ∃ (jj nb cb : Nat) (B : Option Addr) (P : List Sig) (d : Bool), jj ≤ lo.length ∧ lo.length - jj ≤ gg ∧ s13 = .int .i64 jj ∧ s11 = .slice B nb cb ∧ s12 = .bool d ∧ Aside (nb = P.length) ∧ Aside (insTo Sig.name S lo jj = (P, d)) ∧
          Aside (Owns SigR 3 74 W6.heap.size wr (fun k => G k ∨ fresh wo.heap.size W5.heap.size k) (.slice B nb cb) P) ∧ Aside (Below W6.heap.size W6 wr))
        case atStart => exact ⟨0, 0, 0, none, [], false, Nat.zero_le _, by omega, rfl, rfl, rfl, aside rfl, aside insTo_zero, aside (Owns.wider SigR.stays Owns.nil_ (fun k hk => hk.elim) (fun k hk => ⟨(HGH.out k hk).2.1, fun e => by cases e⟩)), aside (Below.refl _ _)⟩
        case round =>
          obtain ⟨jj, nb, cb, B, P, d, hjj, hg2, rfl, rfl, rfl, hnb, hin, hO, BW⟩ := hrel
          obtain ⟨wi, rfl⟩ : ∃ W, W = wr := ⟨_, rfl⟩
          have hpl : P.length ≤ jj + 1 := by have h := insTo_small (f := Sig.name) (y := S) (l := lo) jj; rw [hin.out] at h; exact h
          have hnb' : nb = P.length := hnb.out
          subst hnb'
          have hg5 := HG5.out
          have hpl' : P.length ≤ 25 := by omega
          have hfi := HF6.out.later BW.out
          have y1 := hfi.bo.at_ 1 _ rfl
          by_cases hltj : jj < lo.length
          · have hltzj : (jj : Int) < (lo.length : Int) := by omega
            obtain ⟨bo, off, cs, hA, hbo, hob, hcs, hxr, hcell⟩ := HF6.out.own.at_ hltj
            have hx := List.getElem?_eq_getElem hltj
            generalize lo[jj] = x at hx hxr
            obtain ⟨A11, c11, rfl, _⟩ := SigR.form hxr
            have hc0 := (BW.out.cell (p := ⟨bo, off + jj * 3 + 0, none⟩) hbo).trans (hcell 0 _ rfl)
            simp only [Nat.add_zero] at hc0
            have hc1 := (BW.out.cell (p := ⟨bo, off + jj * 3 + 1, none⟩) hbo).trans (hcell 1 _ rfl)
            have hc2 := (BW.out.cell (p := ⟨bo, off + jj * 3 + 2, none⟩) hbo).trans (hcell 2 _ rfl)
            have hAc : lo.length ≤ c ∧ c ≤ 9223372036854775807 := by
              obtain ⟨A', c', e, h1, h2⟩ := HF6.out.own.form
              injection e with e1 e2 e3
              subst e3
              exact ⟨h1, by unfold maxLen at h2; omega⟩
            subst hA
            have hbi : bo < wi.heap.size := Nat.lt_of_lt_of_le hbo BW.out.size
            have hs := insTo_succ (f := Sig.name) (y := S) hx
            rw [hin.out] at hs
            have hBi := HBs.out.later BW.out hns
            have b0 := hBi.at_ 0 _ rfl
            obtain ⟨z, hz⟩ : ∃ z, (!d && ltS S.name x.name) = z := ⟨_, rfl⟩
            rw [insStep_by (f := Sig.name) hz] at hs
            have hbo1 : w.heap.size + 1 + 1 < wi.heap.size := hfi.bo.lt
            have HS := Lib.hid hs; have HX := Lib.hid hx; have HXR := Lib.hid hxr; have HZ := Lib.hid hz; have HBi := Lib.hid hBi; have HFI := Lib.hid hfi
            clear hs hx hxr hz hBi hfi
            clear hcell hcs
            go_upto_region 15 with fail
            go_cut [68] (fun s68 wc => s68 = .bool z ∧ Aside (Below wi.heap.size wi wc))
            case first =>
              cases d with
              | true =>
                have hz2 : false = z := HZ.out
                subst hz2
                go_wp2_with fail
                go_quiet (fail)
                go_wp2_with fail
                go_meet
                exact ⟨rfl, aside (below_drewN (Below.refl _ _) _)⟩
              | false =>
                have hz2 : ltS S.name x.name = z := by have := HZ.out; simpa using this
                have hz3 := (gt_ltS x.name S.name).trans hz2
                clear hz2
                cases hq : (!Op.bytesLess x.name.toList S.name.toList && !(x.name.toList == S.name.toList)) with
                | true =>
                  rw [hq] at hz3
                  subst hz3
                  go_wp2_with fail
                  go_quiet (fail)
                  go_wp2_with fail
                  go_meet
                  exact ⟨rfl, aside (below_drewN (Below.refl _ _) _)⟩
                | false =>
                  rw [hq] at hz3
                  subst hz3
                  go_wp2_with fail
                  go_quiet (fail)
                  go_wp2_with fail
                  go_meet
                  exact ⟨rfl, aside (below_drewN (Below.refl _ _) _)⟩
            case rest =>
            obtain ⟨rfl, hbq⟩ := hcut
            obtain ⟨Wq, rfl⟩ : ∃ W, W = wc := ⟨_, rfl⟩
            have hc0' := (hbq.out.cell (p := ⟨bo, off + jj * 3, none⟩) hbi).trans hc0
            have hc1' := (hbq.out.cell (p := ⟨bo, off + jj * 3 + 1, none⟩) hbi).trans hc1
            have hc2' := (hbq.out.cell (p := ⟨bo, off + jj * 3 + 2, none⟩) hbi).trans hc2
            have y1' := (hbq.out.cell (p := ⟨w.heap.size + 1 + 1, 1, none⟩) hbo1).trans y1
            have hBq := HBi.out.later hbq.out HBi.out.lt
            have hOq := hO.out.below SigR.stays hbq.out
            have BWq := BW.out.trans (hbq.out.mono BW.out.size)
            have hxq : SigR Wq G _ x := SigR.stays.later HXR.out BWq (fun k hk => (HGH.out k (.inl hk)).2.1)
            have hsq : SigR Wq (fresh wo.heap.size W5.heap.size) _ S := SigR.stays.later HS6.out BWq (fun k hk => (HGH.out k (.inr hk)).2.1)
            have hbq2 : bo < Wq.heap.size := Nat.lt_of_lt_of_le hbi hbq.out.size
            have hoq1 : w.heap.size + 1 + 1 < Wq.heap.size := Nat.lt_of_lt_of_le hbo1 hbq.out.size
            have hrow : ∀ k, k < W6.heap.size → some k ≠ (Value.slice B P.length cb).ownBlock := fun k hk e => by have := (hOq.row e.symm).1; omega
            have b1 := hBq.at_ 1 _ rfl
            have b2 := hBq.at_ 2 _ rfl
            have b0' := hBq.at_ 0 _ rfl
            clear hc0 hc1 hc2 y1 b0 HBi
            have HBQ := Lib.hid hBq; have HOQ := Lib.hid hOq; have HBWQ := Lib.hid BWq; have HXQ := Lib.hid hxq; have HSQ := Lib.hid hsq; have HROW := Lib.hid hrow
            clear hBq hOq BWq hxq hsq hrow
            clear hbq hO BW HXR HFI
            cases z with
            | false =>
              have hs := HS.out
              rw [if_neg (by decide)] at hs
              have HS2 := Lib.hid hs
              clear hs
              clear HS
              go_wp2_with (at_builtin; go_must ((refine wpList_push SigR.stays (.agg #[.string ⟨#[]⟩, .slice none 0 0, .string ⟨#[]⟩]) [.string x.name, .slice A11 x.params.length c11, .string x.result] x rfl rfl Try.underlying28 (bytes := 56) (by kernel_rfl) HOQ.out rfl rfl (by decide) rfl rfl HXQ.out sig_one (fun k hk => ⟨Nat.lt_of_lt_of_le (HGH.out k (.inl hk)).2.1 HBWQ.out.size, HROW.out k (HGH.out k (.inl hk)).2.1⟩) (by unfold maxLen; omega) (by omega) (by exact HBWQ.out.size) ?_); (intro A8 c8 W8 hO8 hgr hloc; have hb8 := HBWQ.out.trans (hgr.below (B := W6.heap.size) (Nat.le_refl _) HBWQ.out.size); have hf8 := fun k hk => hO8.foot (k := k) hk; have HO8 := Lib.hid (Owns.wider SigR.stays hO8 (F' := fun k => G k ∨ fresh wo.heap.size W5.heap.size k) (fun k hk => hk.elim id .inl) (fun k hk => hf8 k (.inl hk))); have HB8 := Lib.hid hb8; clear hO8 hgr hb8 hloc hf8)))
              go_roundg (lo.length - (jj + 1))
              case measure => omega
              case rel =>
                exact ⟨jj + 1, P.length + 1, c8, A8, P ++ [x], d, by omega, by omega, by go_num, rfl, rfl, aside (by simp), aside HS2.out, aside HO8.out, aside HB8.out⟩
            | true =>
              have hs := HS.out
              rw [if_pos rfl] at hs
              have HS2 := Lib.hid hs
              clear hs
              clear HS
              go_upto_region 18 with (at_builtin; go_must ((refine wpList_push SigR.stays (.agg #[.string ⟨#[]⟩, .slice none 0 0, .string ⟨#[]⟩]) [.string S.name, .slice A7 S.params.length c7, .string S.result] S rfl rfl Try.underlying28 (bytes := 56) (by kernel_rfl) HOQ.out rfl rfl (by decide) rfl rfl HSQ.out sig_one (fun k hk => ⟨Nat.lt_of_lt_of_le (HGH.out k (.inr hk)).2.1 HBWQ.out.size, HROW.out k (HGH.out k (.inr hk)).2.1⟩) (by unfold maxLen; omega) (by omega) (by exact HBWQ.out.size) ?_); (intro A10 c10 W7 hO7 hgr hloc; have hb7 := HBWQ.out.trans (hgr.below (B := W6.heap.size) (Nat.le_refl _) HBWQ.out.size); have hf7 := fun k hk => hO7.foot (k := k) hk; have hbq7 := fun k (hk : k < Wq.heap.size) (hk2 : k < W6.heap.size) => hgr.block k hk (HROW.out k hk2); have hc0q := (World.cell?_of_block (a := ⟨bo, off + jj * 3, none⟩) (hbq7 bo hbq2 hbo)).trans hc0'; have hc1q := (World.cell?_of_block (a := ⟨bo, off + jj * 3 + 1, none⟩) (hbq7 bo hbq2 hbo)).trans hc1'; have hc2q := (World.cell?_of_block (a := ⟨bo, off + jj * 3 + 2, none⟩) (hbq7 bo hbq2 hbo)).trans hc2'; have y1q := (World.cell?_of_block (a := ⟨w.heap.size + 1 + 1, 1, none⟩) (hbq7 _ hoq1 HF6.out.bo.lt)).trans y1'; have HO7 := Lib.hid (Owns.wider SigR.stays hO7 (F' := fun k => G k ∨ fresh wo.heap.size W5.heap.size k) (fun k hk => hk.elim id .inr) (fun k hk => hf7 k (.inl hk))); have HXQ7 := Lib.hid (show SigR W7 G _ x from SigR.stays _ _ _ _ _ _ HXQ.out (fun _ h => h) (keeps_of_heap fun k hk => hbq7 k (Nat.lt_of_lt_of_le (HGH.out k (.inl hk)).2.1 HBWQ.out.size) (HGH.out k (.inl hk)).2.1)); have HB7 := Lib.hid hb7; clear hO7 hgr hb7 hloc hf7 hbq7 hc0' hc1' hc2' y1' b0' b1 b2)))
              have hpl1 : (P ++ [S]).length = P.length + 1 := by simp
              have hrow7 : ∀ k, k < W6.heap.size → some k ≠ (Value.slice A10 (P.length + 1) c10).ownBlock := fun k hk e => by have := (HO7.out.row e.symm).1; omega
              have HROW7 := Lib.hid hrow7
              clear hrow7
              go_wp2_with (at_builtin; go_must ((refine wpList_push SigR.stays (.agg #[.string ⟨#[]⟩, .slice none 0 0, .string ⟨#[]⟩]) [.string x.name, .slice A11 x.params.length c11, .string x.result] x rfl rfl Try.underlying28 (bytes := 56) (by kernel_rfl) HO7.out rfl rfl (by decide) rfl rfl HXQ7.out sig_one (fun k hk => ⟨Nat.lt_of_lt_of_le (HGH.out k (.inl hk)).2.1 HB7.out.size, HROW7.out k (HGH.out k (.inl hk)).2.1⟩) (by unfold maxLen; omega) (by omega) (by exact HB7.out.size) ?_); (intro A8 c8 W8 hO8 hgr hloc; have hb8 := HB7.out.trans (hgr.below (B := W6.heap.size) (Nat.le_refl _) HB7.out.size); have hf8 := fun k hk => hO8.foot (k := k) hk; have HO8 := Lib.hid (Owns.wider SigR.stays hO8 (F' := fun k => G k ∨ fresh wo.heap.size W5.heap.size k) (fun k hk => hk.elim id .inl) (fun k hk => hf8 k (.inl hk))); have HB8 := Lib.hid hb8; clear hO8 hgr hb8 hloc hf8)))
              go_roundg (lo.length - (jj + 1))
              case measure => omega
              case rel =>
                exact ⟨jj + 1, P.length + 1 + 1, c8, A8, P ++ [S, x], true, by omega, by omega, by go_num, rfl, rfl, aside (by simp), aside HS2.out, aside (by have h := HO8.out; rw [hpl1] at h; simpa using h), aside HB8.out⟩
          · have hltzj : ¬ (jj : Int) < (lo.length : Int) := by omega
            obtain rfl : jj = lo.length := by omega
            have hns2 : ∀ (s' : Value) (W' : World) (sl' : List Sig), Below W6.heap.size W6 W' → Owns SigR 3 74 W6.heap.size W' (fun k => G k ∨ fresh wo.heap.size W5.heap.size k) s' sl' → Facing w (W'.setCell ⟨w.heap.size + 1 + 1, 1, none⟩ s') W2.heap.size #[.slice U1 m.uses.length u1, .slice T1 m.types.length e1, .slice (some ⟨bp, offp, none⟩) m.funcs.length e2] E (.slice A5 E.length c5) (fun k => G k ∨ fresh wo.heap.size W5.heap.size k) s' (.slice A2 n2 c2) sl' bd := fun s' W' sl' h1 h2 => HF6.out.replace h1 h2 HGH.out
            have g1 := hfi.bo.free 1
            have HNS := Lib.hid hns2
            clear hns2
            clear hfi
            cases d with
            | true =>
              have he := insTo_end_done (f := Sig.name) (y := S) (l := lo) (by rw [hin.out])
              rw [hin.out] at he
              have hnew : sortBy Sig.name (sigsTo m l (kk + 1)) = P := by rw [HQ2'.out, sortBy_snoc, HLO.out]; exact he.symm
              have hbn : sigBadTo m l (kk + 1) = bd := by rw [HQ3'.out, HBD.out]
              clear he
              have hff := HNS.out _ _ _ BW.out hO.out
              have HNEW := Lib.hid hnew; have HBN := Lib.hid hbn; have HFF := Lib.hid hff
              clear hnew hbn hff
              go_wp2_with fail
              go_roundg (m.funcs.length - (kk + 1))
              case measure => omega
              case rel =>
                exact ⟨kk + 1, P.length, cb, n2, c2, B, A2, _, by omega, by omega, by go_num, rfl, aside (by rw [HNEW.out]), aside (by rw [HBN.out]; exact hn2.out), aside (by rw [HNEW.out, HBN.out]; exact HFF.out)⟩
            | false =>
              have he := insTo_end_not (f := Sig.name) (y := S) (l := lo) (by rw [hin.out])
              rw [hin.out] at he
              have hnew : sortBy Sig.name (sigsTo m l (kk + 1)) = P ++ [S] := by rw [HQ2'.out, sortBy_snoc, HLO.out]; exact he.symm
              have hbn : sigBadTo m l (kk + 1) = bd := by rw [HQ3'.out, HBD.out]
              clear he
              have hBi := HBs.out.later BW.out hns
              have b0 := hBi.at_ 0 _ rfl
              have b1 := hBi.at_ 1 _ rfl
              have b2 := hBi.at_ 2 _ rfl
              have hsq : SigR wi (fresh wo.heap.size W5.heap.size) _ S := SigR.stays.later HS6.out BW.out (fun k hk => (HGH.out k (.inr hk)).2.1)
              have hrow : ∀ k, k < W6.heap.size → some k ≠ (Value.slice B P.length cb).ownBlock := fun k hk e => by have := (hO.out.row e.symm).1; omega
              have hob1 : w.heap.size + 1 + 1 < W6.heap.size := HF6.out.bo.lt
              have hob2 : Box wi (w.heap.size + 1 + 1) 30 #[.slice A5 E.length c5, .slice A lo.length c] := HF6.out.bo.later BW.out hob1
              have HNEW := Lib.hid hnew; have HBN := Lib.hid hbn; have HSQ := Lib.hid hsq; have HROW := Lib.hid hrow; have HOB := Lib.hid hob2
              clear hnew hbn hsq hrow hob2
              clear hBi
              go_wp2_with (at_builtin; go_must ((refine wpList_push SigR.stays (.agg #[.string ⟨#[]⟩, .slice none 0 0, .string ⟨#[]⟩]) [.string S.name, .slice A7 S.params.length c7, .string S.result] S rfl rfl Try.underlying28 (bytes := 56) (by kernel_rfl) hO.out rfl rfl (by decide) rfl rfl HSQ.out sig_one (fun k hk => ⟨Nat.lt_of_lt_of_le (HGH.out k (.inr hk)).2.1 BW.out.size, HROW.out k (HGH.out k (.inr hk)).2.1⟩) (by unfold maxLen; omega) (by omega) (by exact BW.out.size) ?_); (intro A8 c8 W8 hO8 hgr hloc; have hb8 := BW.out.trans (hgr.below (B := W6.heap.size) (Nat.le_refl _) BW.out.size); have hf8 := fun k hk => hO8.foot (k := k) hk; have hob8 := hgr.box HOB.out hob1; clear y1 g1; have y1 := hob8.at_ 1 _ rfl; have g1 := hob8.free 1; have hff := HNS.out _ _ _ hb8 (Owns.wider SigR.stays hO8 (F' := fun k => G k ∨ fresh wo.heap.size W5.heap.size k) (fun k hk => hk.elim id .inr) (fun k hk => hf8 k (.inl hk))); have HFF := Lib.hid hff; clear hO8 hgr hb8 hloc hf8 hob8 hff)))
              go_roundg (m.funcs.length - (kk + 1))
              case measure => omega
              case rel =>
                exact ⟨kk + 1, P.length + 1, c8, n2, c2, A8, A2, _, by omega, by omega, by go_num, rfl, aside (by rw [HNEW.out]; simp), aside (by rw [HBN.out]; exact hn2.out), aside (by rw [HNEW.out, HBN.out]; exact HFF.out)⟩
      · have hCz : (C == 0) = false := by simp [hC]
        have hq0 := HQ0.out hC
        have hq1 := HQ1.out hC
        have m2 := hf6.bm.at_ 2 _ rfl
        have HQ0' := Lib.hid hq0; have HQ1' := Lib.hid hq1; have HF6 := Lib.hid hf6
        clear hq0 hq1 hf6
        clear HQ0 HQ1 HQ2 HQ3 hBs hbs hzs HF5 HS5 hz6 hs6
        go_wp2_with (at_builtin; go_must ((refine wpList_push DiagR.stays (.agg #[.string ⟨#[]⟩, .int .i64 0]) [.string p.name, .int .i64 C] ⟨p.name, C⟩ rfl rfl Try.underlying31 (bytes := 24) (by kernel_rfl) HF6.out.bad rfl rfl (by decide) rfl rfl (show DiagR W6 none_ _ _ from ⟨rfl, HN0.out, HCI.out⟩) (diag_one (d := ⟨p.name, C⟩)) (fun k hk => hk.elim) (by unfold maxLen; have := HB4.out; omega) (by have := HB4.out; omega) (by exact HF6.out.hi) ?_); (intro A10 c10 W7 hO7 hgr hloc; have hf7 := HF6.out.pushBad hO7 hgr hloc; have HF7 := Lib.hid hf7; clear hO7 hgr hloc hf7)))
        go_roundg (m.funcs.length - (kk + 1))
        case measure => omega
        case rel =>
          exact ⟨kk + 1, n, c, (sigBadTo m l kk).length + 1, c10, A, A10, _, by omega, by omega, by go_num, rfl, aside (by rw [HQ0'.out]; exact hn.out), aside (by rw [HQ1'.out]; simp), aside (by rw [HQ0'.out, HQ1'.out]; exact HF7.out)⟩
    · have hltz : ¬ (kk : Int) < (m.funcs.length : Int) := by omega
      obtain rfl : kk = m.funcs.length := by omega
      have hg4 := sigsTo_le (m := m) (l := l) m.funcs.length
      have hb4 := sigBadTo_le (m := m) (l := l) m.funcs.length
      have hdn := hf.done (by rw [sortBy_length]; omega) (by omega)
      have y0 := hf.bo.at_ 0 _ rfl
      have y1 := hf.bo.at_ 1 _ rfl
      have r0 := hf.br.at_ 0 _ rfl
      have r1 := hf.br.at_ 1 _ rfl
      have g0 := hf.br.free 0
      have g1 := hf.br.free 1
      have HDN := Lib.hid hdn
      clear hdn
      clear hf hF
      go_wp2_with fail
      exact bodyPost_ret (v := .tuple #[.agg #[.slice A5 E.length c5, .slice A n c], .slice A2 n2 c2]) (by simp [results, Try.results15, go_sem, r0, r1]) rfl ⟨_, _, rfl, HDN.out.1, HDN.out.2.1, HDN.out.2.2⟩

end Go.Proofs.Ytoejhgbndehaiaa
