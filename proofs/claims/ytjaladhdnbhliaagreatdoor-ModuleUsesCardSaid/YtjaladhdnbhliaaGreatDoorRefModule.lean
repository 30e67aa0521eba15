/- The reference reads a module: ModuleOf. -/
import Derived.Test.YtjaladhdnbhliaaGreatDoorRefLine
import Derived.Test.YtjaladhdnbhliaaGreatDoorTreeRead
import Derived.Test.YtjaladhdnbhliaaGreatDoorTokOf
import Derived.Test.YtjaladhdnbhliaaGreatDoorModErr
namespace Go.Proofs.YtjaladhdnbhliaaGreatDoor
open Go.RowKit Go.Shelf

/-- Where the reading of a text stands: at byte kk, in the line that begins at fr. -/
def Scan (l : List UInt8) (R : Except Int Module) (kk fr : Nat) (m : Module) : Prop :=
  (kk ≤ l.length ∧ fr ≤ kk ∧ R = parseL m (linesOf (l.drop fr)) ∧ ((l.drop fr).take (kk - fr)).all notNl = true) ∨ (kk = l.length + 1 ∧ R = .ok m)
section
variable {l : List UInt8} {R : Except Int Module} {kk fr : Nat} {m m' : Module}
theorem Scan.skip (h : Scan l R kk fr m) (hk : kk < l.length) (hc : l[kk] ≠ 10) : Scan l R (kk + 1) fr m := by
  rcases h with ⟨_, h1, h2, h3⟩ | ⟨h, _⟩
  · refine .inl ⟨hk, by omega, h2, ?_⟩
    rw [show kk + 1 - fr = kk - fr + 1 by omega, List.take_add_one, List.getElem?_drop, show fr + (kk - fr) = kk by omega, List.getElem?_eq_getElem hk, Option.toList_some, List.all_append, h3]
    simp [notNl, hc]
  · omega
theorem Scan.line (h : Scan l R kk fr m) (hk : kk ≤ l.length) (hc : ∀ h : kk < l.length, l[kk] = 10) : fr ≤ kk ∧ ∃ rs, R = parseL m ((l.drop fr).take (kk - fr) :: rs) ∧ (kk = l.length → rs = []) ∧ (kk < l.length → rs = linesOf (l.drop (kk + 1))) := by
  rcases h with ⟨_, h1, h2, h3⟩ | ⟨h, _⟩
  · refine ⟨h1, ?_⟩
    by_cases he : kk = l.length
    · refine ⟨[], ?_, fun _ => rfl, fun h => by omega⟩
      rw [List.take_of_length_le (by rw [List.length_drop]; omega)] at h3 ⊢
      rw [h2, lines_none h3]
    · have hk' : kk < l.length := by omega
      refine ⟨linesOf (l.drop (kk + 1)), ?_, fun h => by omega, fun _ => rfl⟩
      have hs : l.drop fr = (l.drop fr).take (kk - fr) ++ 10 :: l.drop (kk + 1) := by
        conv => lhs; rw [← List.take_append_drop (kk - fr) (l.drop fr), List.drop_drop, show fr + (kk - fr) = kk by omega, List.drop_eq_getElem_cons hk', hc hk']
      rw [h2]
      conv => lhs; rw [hs, lines_split h3]
  · omega
theorem Scan.next (h : Scan l R kk fr m) (hk : kk ≤ l.length) (hc : ∀ h : kk < l.length, l[kk] = 10) (ht : lineT m (lit ((l.drop fr).take (kk - fr))) = .ok m') : Scan l R (kk + 1) (kk + 1) m' := by
  obtain ⟨_, rs, h2, h3, h4⟩ := h.line hk hc
  rw [parseL_ok ht] at h2
  by_cases he : kk = l.length
  · rw [h3 he] at h2; exact .inr ⟨by omega, h2⟩
  · rw [h4 (by omega)] at h2
    exact .inl ⟨by omega, Nat.le_refl _, h2, by simp⟩
theorem Scan.fall (h : Scan l R kk fr m) (hk : kk ≤ l.length) (hc : ∀ h : kk < l.length, l[kk] = 10) {k : Int} (ht : lineT m (lit ((l.drop fr).take (kk - fr))) = .error k) : R = .error k := by
  obtain ⟨_, rs, h2, _⟩ := h.line hk hc
  rw [parseL_no ht] at h2
  exact h2
end
theorem Stay.below {bm B n : Nat} {w w' : World} (h : Stay bm B w w') (h1 : n ≤ bm) (h2 : n ≤ B) : Below n w w' := ⟨h.os, h.tape, h.output, h.size, fun k hk => h.block k (by omega) (by omega)⟩

set_option maxRecDepth 100000 in
set_option maxHeartbeats 8000000 in
theorem moduleOf_any (s : ByteArray) (W0 : World) : Calls Tryz.prog 41 #[.string s] W0 (ReadGave (readR s) W0) := by
  obtain ⟨E, hE⟩ : ∃ E, readR s = E := ⟨_, rfl⟩
  rw [hE]
  by_cases h15 : 1500 < s.size
  · have h15z : (1500 : Int) < (s.size : Int) := by omega
    obtain rfl : E = (noMod, 1) := by rw [← hE, read_long h15]
    clear hE
    go_enter Tryz.func41, Tryz.ntmps41
    go_upto_region 1 with fail
    have hBr := Box.made W0 27 #[.slice none 0 0, .slice none 0 0, .slice none 0 0]
    have hbr : Below W0.heap.size W0 (W0.alloc (.cells #[.slice none 0 0, .slice none 0 0, .slice none 0 0] 27)) := by go_grown
    have hzr : (W0.alloc (.cells #[.slice none 0 0, .slice none 0 0, .slice none 0 0] 27)).heap.size = W0.heap.size + 1 := by simp
    generalize W0.alloc (.cells #[.slice none 0 0, .slice none 0 0, .slice none 0 0] 27) = W1 at hBr hbr hzr ⊢
    have x0 := hBr.at_ 0 _ rfl
    have x1 := hBr.at_ 1 _ rfl
    have x2 := hBr.at_ 2 _ rfl
    have g0 := hBr.free 0
    have g1 := hBr.free 1
    have g2 := hBr.free 2
    have Hb := Lib.hid hbr
    clear hbr
    clear hBr hzr
    go_wp2_with fail
    refine bodyPost_ret (v := .tuple #[.agg #[.slice none 0 0, .slice none 0 0, .slice none 0 0], .int .i64 1]) (by simp [results, Tryz.results41, go_sem, x0, x1, x2]) rfl ?_
    exact ⟨_, _, _, rfl, ((Hb.out.setCell (Nat.le_refl _) _).setCell (Nat.le_refl _) _).setCell (Nat.le_refl _) _, noMod_row _ _⟩
  have h15z : ¬ (1500 : Int) < (s.size : Int) := by omega
  obtain ⟨l, hl⟩ : ∃ l, s.data.toList = l := ⟨_, rfl⟩
  have hsl : l.length = s.size := by rw [← hl, Array.length_toList]; rfl
  obtain ⟨R, hR⟩ : ∃ R, parseL noMod (linesOf l) = R := ⟨_, rfl⟩
  have hxt : ∀ i j, s.extract i j = lit ((l.drop i).take (j - i)) := fun i j => by rw [ext_lit, hl]
  have hgt : ∀ k (h1 : k < s.size) (h2 : k < l.length), s[k] = l[k] := fun k h1 h2 => by subst hl; rfl
  have hbad : ∀ k, R = .error k → E = (noMod, k) := fun k hk => by rw [← hE, read_bad (by omega) (by rw [hl, hR]; exact hk)]
  have hfau : ∀ m, R = .ok m → modErr m ≠ 0 → E = (noMod, modErr m) := fun m hk h => by rw [← hE, read_fault (by omega) (by rw [hl, hR]; exact hk) h]
  have hfin : ∀ m, R = .ok m → modErr m = 0 → E = (m, 0) := fun m hk h => by rw [← hE, read_ok (by omega) (by rw [hl, hR]; exact hk) h]
  have HSL := Lib.hid hsl; have HR := Lib.hid hR; have HXT := Lib.hid hxt; have HGT := Lib.hid hgt; have HBAD := Lib.hid hbad; have HFAU := Lib.hid hfau; have HFIN := Lib.hid hfin
  clear hsl hR hxt hgt hbad hfau hfin
  clear hE hl
  go_enter Tryz.func41, Tryz.ntmps41
  go_upto_region 1 with fail
  have hBr := Box.made W0 27 #[.slice none 0 0, .slice none 0 0, .slice none 0 0]
  have hbr : Below W0.heap.size W0 (W0.alloc (.cells #[.slice none 0 0, .slice none 0 0, .slice none 0 0] 27)) := by go_grown
  have hzr : (W0.alloc (.cells #[.slice none 0 0, .slice none 0 0, .slice none 0 0] 27)).heap.size = W0.heap.size + 1 := by simp
  generalize W0.alloc (.cells #[.slice none 0 0, .slice none 0 0, .slice none 0 0] 27) = W1 at hBr hbr hzr ⊢
  have HB1 := Lib.hid hBr; have Hb := Lib.hid hbr; have HZR := Lib.hid hzr
  clear hBr hbr hzr
  go_upto_region 4 with fail
  have hBm := Box.made W1 27 #[.slice none 0 0, .slice none 0 0, .slice none 0 0]
  have hbm : Below W1.heap.size W1 (W1.alloc (.cells #[.slice none 0 0, .slice none 0 0, .slice none 0 0] 27)) := by go_grown
  have hzm : (W1.alloc (.cells #[.slice none 0 0, .slice none 0 0, .slice none 0 0] 27)).heap.size = W1.heap.size + 1 := by simp
  generalize W1.alloc (.cells #[.slice none 0 0, .slice none 0 0, .slice none 0 0] 27) = W2 at hBm hbm hzm ⊢
  obtain ⟨bm, hbe⟩ : ∃ n, W1.heap.size = n := ⟨_, rfl⟩
  have hB2 := HB1.out.later hbm HB1.out.lt
  have hb2 := Hb.out.trans (hbm.mono Hb.out.size)
  have hbW : W0.heap.size < bm := by have := HZR.out; omega
  have hb22 := hBm.lt
  rw [hbe] at hBm hb22 ⊢
  have hmod2 : ModAt W2 bm (bm + 1) noMod := ⟨_, _, _, _, _, _, _, _, Mods.start hBm (by omega)⟩
  have hz2 : W2.heap.size = bm + 1 := by omega
  have HB2 := Lib.hid hB2; have HBL2 := Lib.hid hb2; have HMOD2 := Lib.hid hmod2
  clear hB2 hb2 hmod2
  clear hbm hzm hbe HB1 Hb HZR hBm
  go_wp2_with fail
  go_loopg [5, 6] (s.size + 1) (fun gg s5 s6 wr => ∃ (kk fr : Nat) (m : Module), kk ≤ s.size + 1 ∧ s.size + 1 - kk ≤ gg ∧ s6 = .int .i64 kk ∧ s5 = .int .i64 fr ∧ tot m ≤ kk ∧ Aside (Scan l R kk fr m) ∧ Aside (ModAt wr bm (bm + 1) m) ∧ Aside (Stay bm (bm + 1) W2 wr))
  case atStart => exact ⟨0, 0, noMod, by omega, by omega, rfl, rfl, Nat.le_refl _, aside (.inl ⟨Nat.zero_le _, Nat.le_refl _, HR.out.symm, rfl⟩), aside HMOD2.out, aside (Stay.refl _ _ _)⟩
  case round =>
    clear HMOD2
    obtain ⟨kk, fr, m, hkk, hg, rfl, rfl, htot, hsc, hmd, hst⟩ := hrel
    obtain ⟨W3, rfl⟩ : ∃ W, W = wr := ⟨_, rfl⟩
    have hsl := HSL.out
    by_cases hle : kk ≤ s.size
    · have hlez : (kk : Int) ≤ (s.size : Int) := by omega
      obtain ⟨z, hz⟩ : ∃ z, (decide (kk < s.size) && !(l[kk]? == some 10)) = z := ⟨_, rfl⟩
      have hzt : z = true → ∃ h : kk < l.length, l[kk] ≠ 10 := fun h => by
        rw [h, Bool.and_eq_true, decide_eq_true_eq] at hz
        refine ⟨by omega, fun e => ?_⟩
        have h2 := hz.2
        rw [List.getElem?_eq_getElem (by omega), e] at h2
        cases h2
      have hzf : z = false → ∀ h : kk < l.length, l[kk] = 10 := fun h hk => by
        rw [h, decide_eq_true (by omega : kk < s.size), Bool.true_and, List.getElem?_eq_getElem hk] at hz
        simpa using hz
      have HZT := Lib.hid hzt; have HZF := Lib.hid hzf
      clear hzt hzf
      go_upto_region 8 with fail
      go_cut [30] (fun t wc => t = .bool z ∧ Aside (wc = W3))
      case first =>
        by_cases hlt : kk < s.size
        · have hltz : (kk : Int) < (s.size : Int) := by omega
          have hgt := HGT.out kk hlt (by omega)
          rw [decide_eq_true hlt, Bool.true_and, List.getElem?_eq_getElem (by omega), ← hgt] at hz
          have hb : (s[kk].toNat : Int) < 256 := by have := s[kk].toNat_lt; omega
          have hcz : (!((s[kk].toNat : Int) == 10)) = z := by
            rw [← hz]
            congr 1
            rw [Bool.eq_iff_iff]
            simp only [beq_iff_eq, Option.some.injEq]
            constructor
            · intro h; exact UInt8.toNat.inj (by show _ = 10; omega)
            · intro h; rw [h]; rfl
          have hcz2 : ((s[kk].toNat : Int) != 10) = z := hcz
          clear hgt hz
          go_wp2_with fail
          go_meet
          exact ⟨by first | rfl | exact congrArg Value.bool hcz2 | (simp only [hcz2]), aside rfl⟩
        · have hltz : ¬ ((kk : Int) < (s.size : Int)) := by omega
          have hltz2 : decide (kk < s.size) = false := decide_eq_false hlt
          rw [hltz2, Bool.false_and] at hz
          subst hz
          go_wp2_with fail
          go_meet
          exact ⟨by first | rfl | simp, aside rfl⟩
      case rest =>
        obtain ⟨rfl, hwc⟩ := hcut
        have hwc := hwc.out
        subst hwc
        obtain ⟨w9, rfl⟩ : ∃ W, W = wc := ⟨_, rfl⟩
        clear hz
        cases z with
        | true =>
          obtain ⟨hk1, hk2⟩ := HZT.out rfl
          have hsc2 := hsc.out.skip hk1 hk2
          have HSC2 := Lib.hid hsc2
          clear hsc2
          clear hk2
          go_wp2_with fail
          go_roundg (s.size + 1 - (kk + 1))
          case measure => omega
          case rel => exact ⟨kk + 1, fr, m, by omega, Nat.le_refl _, by go_num, rfl, by omega, aside HSC2.out, hmd, hst⟩
        | false =>
          have hzf := HZF.out rfl
          obtain ⟨hfr, _⟩ := hsc.out.line (by omega) hzf
          have hx := HXT.out fr kk
          have hfz : (fr : Int) ≤ (kk : Int) := by omega
          have hto := tokensOf_any (s.extract fr kk) w9
          obtain ⟨⟨L, f⟩, hE⟩ : ∃ E, cutR (s.extract fr kk) = E := ⟨_, rfl⟩
          rw [hE] at hto
          have hnext : ∀ m', lineT m (s.extract fr kk) = .ok m' → Scan l R (kk + 1) (kk + 1) m' := fun m' h => hsc.out.next (by omega) hzf (by rw [← hx]; exact h)
          have hfall : ∀ k, lineT m (s.extract fr kk) = .error k → R = .error k := fun k h => hsc.out.fall (by omega) hzf (by rw [← hx]; exact h)
          have hln : lineT m (s.extract fr kk) = if f ≠ 0 then .error f else lineR m L := by unfold lineT; rw [hE]
          have HTO := Lib.hid hto; have HE := Lib.hid hE; have HNEXT := Lib.hid hnext; have HFALL := Lib.hid hfall; have HLN := Lib.hid hln
          clear hto hE hnext hfall hln
          clear hx hzf
          go_wp2_with fail
          refine HTO.out.mono ?_
          rintro en W4 ⟨v, rfl, hb4, hsl4⟩
          have hst4 : Stay bm (bm + 1) W2 W4 := hst.out.trans (Stay.of_below hb4 (by have := hst.out.size; omega))
          have hs4 := hst4.size
          clear hfr
          by_cases hf0 : f = 0
          · subst hf0
            obtain ⟨htl, _, htn⟩ := cut_tokens HE.out
            obtain ⟨A, c, rfl, -⟩ := SliceOf.form hsl4
            obtain ⟨U, T, X, cu, ct, cx, Gt, Gf, hmods⟩ := hmd.out
            have hln0 : lineT m (s.extract fr kk) = lineR m L := by rw [HLN.out, if_neg (by simp)]
            have hto0 : m.uses.length ≤ 4000 ∧ m.types.length ≤ 4000 ∧ m.funcs.length ≤ 4000 := by unfold tot at htot; omega
            have hlo := lineOf_any W4 L hsl4 (fun k hk => hk.2) htn htl (hmods.later hb4) (by omega) hto0.1 hto0.2.1 hto0.2.2
            have HST4 := Lib.hid hst4; have HLN0 := Lib.hid hln0; have HLO := Lib.hid hlo
            clear hst4 hln0 hlo
            clear hsl4 hb4 hst hmd hmods HTO HLN hto0 htl htn
            go_wp2_with fail
            refine HLO.out.mono ?_
            rintro en W5 ⟨m', k, hmd5, hst5, rfl, hk⟩
            have hst5' := HST4.out.trans hst5
            rcases hk with ⟨rfl, hk⟩ | ⟨hk0, hk⟩
            · have hsc2 := HNEXT.out m' (HLN0.out.trans hk)
              have htt := line_tot hk
              have HSC2 := Lib.hid hsc2; have HMD5 := Lib.hid hmd5; have HST5 := Lib.hid hst5'
              clear hsc2 hmd5 hst5'
              clear hk hst5 HNEXT HFALL HLO
              go_wp2_with fail
              go_roundg (s.size + 1 - (kk + 1))
              case measure => omega
              case rel => exact ⟨kk + 1, kk + 1, m', by omega, Nat.le_refl _, by go_num, by go_num, by omega, aside HSC2.out, aside HMD5.out, aside HST5.out⟩
            · have hx : E = (noMod, k) := HBAD.out k (HFALL.out k (HLN0.out.trans hk))
              have hk1 : (k == 0) = false := by simp [hk0]
              have hk2 : (k != 0) = true := by simp [hk0]
              have hB5 := hst5'.box HB2.out (by omega) (by omega)
              have hbw := HBL2.out.trans ((hst5'.below (n := W0.heap.size) (by omega) (by omega)).mono (Nat.le_refl _))
              subst hx
              have r0 := hB5.at_ 0 _ rfl
              have r1 := hB5.at_ 1 _ rfl
              have r2 := hB5.at_ 2 _ rfl
              have g0 := hB5.free 0
              have g1 := hB5.free 1
              have g2 := hB5.free 2
              have HBW := Lib.hid hbw
              clear hbw
              clear hk hk0 hst5 hst5' hmd5 hB5 HNEXT HFALL HLO HLN0
              go_wp2_with fail
              refine bodyPost_ret (v := .tuple #[.agg #[.slice none 0 0, .slice none 0 0, .slice none 0 0], .int .i64 k]) (by simp [results, Tryz.results41, go_sem, r0, r1, r2]) rfl ?_
              exact ⟨_, _, _, rfl, ((HBW.out.setCell (Nat.le_refl _) _).setCell (Nat.le_refl _) _).setCell (Nat.le_refl _) _, noMod_row _ _⟩
          · have hx : E = (noMod, f) := HBAD.out f (HFALL.out f (by rw [HLN.out, if_pos hf0]))
            have hf1 : (f == 0) = false := by simp [hf0]
            have hf2 : (f != 0) = true := by simp [hf0]
            have hB5 := hst4.box HB2.out (by omega) (by omega)
            have hbw := HBL2.out.trans ((hst4.below (n := W0.heap.size) (by omega) (by omega)).mono (Nat.le_refl _))
            subst hx
            have r0 := hB5.at_ 0 _ rfl
            have r1 := hB5.at_ 1 _ rfl
            have r2 := hB5.at_ 2 _ rfl
            have g0 := hB5.free 0
            have g1 := hB5.free 1
            have g2 := hB5.free 2
            have HBW := Lib.hid hbw
            clear hbw
            clear hst4 hB5 HNEXT HFALL HLN HTO HE hb4 hsl4 hf0
            go_wp2_with fail
            refine bodyPost_ret (v := .tuple #[.agg #[.slice none 0 0, .slice none 0 0, .slice none 0 0], .int .i64 f]) (by simp [results, Tryz.results41, go_sem, r0, r1, r2]) rfl ?_
            exact ⟨_, _, _, rfl, ((HBW.out.setCell (Nat.le_refl _) _).setCell (Nat.le_refl _) _).setCell (Nat.le_refl _) _, noMod_row _ _⟩
    · have hlez : ¬ ((kk : Int) ≤ (s.size : Int)) := by omega
      have hlez2 : decide (kk ≤ s.size) = false := decide_eq_false hle
      have hok : R = .ok m := by
        rcases hsc.out with ⟨h, _⟩ | ⟨_, h⟩
        · omega
        · exact h
      have htt : tot m ≤ 1501 := by omega
      obtain ⟨U, T, X, cu, ct, cx, Gt, Gf, hmods⟩ := hmd.out
      unfold tot at htt
      have hM : ModuleR W3 (fresh (bm + 1) W3.heap.size) [.slice U m.uses.length cu, .slice T m.types.length ct, .slice X m.funcs.length cx] m :=
        ⟨_, _, _, rfl, hmods.us.slice StrR.stays (fun k hk => hk.elim) (fun k h1 h2 => ⟨h1, h2⟩) (by omega) (by omega), hmods.ts.slice FieldR.stays (fun k hk => ⟨hmods.lo k (.inl hk), (hmods.ts.foot hk).1⟩) (fun k h1 h2 => ⟨h1, h2⟩) (by omega) (by omega), hmods.fs.slice FuncR.stays (fun k hk => ⟨hmods.lo k (.inr hk), (hmods.fs.foot hk).1⟩) (fun k h1 h2 => ⟨h1, h2⟩) (by omega) (by omega)⟩
      have hmf := moduleFault_any m [.slice U m.uses.length cu, .slice T m.types.length ct, .slice X m.funcs.length cx] (fresh (bm + 1) W3.heap.size) W3 (fun k hk => hk.2) hM
      obtain ⟨z, hz⟩ : ∃ z, modErr m = z := ⟨_, rfl⟩
      rw [hz] at hmf
      have hB3 := hst.out.box HB2.out (by omega) (by omega)
      have hbw3 := HBL2.out.trans ((hst.out.below (n := W0.heap.size) (by omega) (by omega)).mono (Nat.le_refl _))
      have hbx := hmods.box
      have hm3 := hmods.box.lt
      have hs3 := hst.out.size
      have x0 := hbx.at_ 0 _ rfl
      have x1 := hbx.at_ 1 _ rfl
      have x2 := hbx.at_ 2 _ rfl
      have HMF := Lib.hid hmf; have HM3 := Lib.hid hM; have HOK := Lib.hid hok; have HZ := Lib.hid hz; have HB3 := Lib.hid hB3; have HBW3 := Lib.hid hbw3; have HBX := Lib.hid hbx
      clear hmf hM hok hz hB3 hbw3 hbx
      clear hmods hst hmd hsc htt
      go_wp2_with fail
      refine HMF.out.mono ?_
      rintro en W4 ⟨rfl, hb4⟩
      have hB4 := HB3.out.later hb4 HB3.out.lt
      have hbx4 := HBX.out.later hb4 HBX.out.lt
      have hM4 := ModuleR.stays.later HM3.out hb4 (fun k hk => hk.2)
      have hbw4 := HBW3.out.trans (hb4.mono HBW3.out.size)
      have hs4 := hb4.size
      clear x0 x1 x2
      have x0 := hbx4.at_ 0 _ rfl
      have x1 := hbx4.at_ 1 _ rfl
      have x2 := hbx4.at_ 2 _ rfl
      have r0 := hB4.at_ 0 _ rfl
      have r1 := hB4.at_ 1 _ rfl
      have r2 := hB4.at_ 2 _ rfl
      have g0 := hB4.free 0
      have g1 := hB4.free 1
      have g2 := hB4.free 2
      have HBW := Lib.hid hbw4; have HM4 := Lib.hid hM4
      clear hbw4 hM4
      clear hb4 hB4 hbx4 HB3 HBX HM3 HMF HBW3
      by_cases hz0 : z = 0
      · subst hz0
        have hx : E = (m, 0) := HFIN.out m HOK.out HZ.out
        subst hx
        go_wp2_with fail
        refine bodyPost_ret (v := .tuple #[.agg #[.slice U m.uses.length cu, .slice T m.types.length ct, .slice X m.funcs.length cx], .int .i64 0]) (by simp [results, Tryz.results41, go_sem, r0, r1, r2]) rfl ?_
        refine ⟨_, _, _, rfl, ((HBW.out.setCell (Nat.le_refl _) _).setCell (Nat.le_refl _) _).setCell (Nat.le_refl _) _, ?_⟩
        have hnr : ¬ fresh (bm + 1) W3.heap.size W0.heap.size := fun h => by have := h.1; omega
        refine ModuleR.stays _ _ _ _ _ _ HM4.out ?_ ((((Keeps.refl _ _).setCell hnr _).setCell hnr _).setCell hnr _)
        simp only [size_set]
        exact fresh_up (by omega) (by omega)
      · have hz1 : (z == 0) = false := by simp [hz0]
        have hz2 : (z != 0) = true := by simp [hz0]
        have hx : E = (noMod, z) := by
          have := HFAU.out m HOK.out (by rw [HZ.out]; exact hz0)
          rw [HZ.out] at this; exact this
        subst hx
        clear hz0
        go_wp2_with fail
        refine bodyPost_ret (v := .tuple #[.agg #[.slice none 0 0, .slice none 0 0, .slice none 0 0], .int .i64 z]) (by simp [results, Tryz.results41, go_sem, r0, r1, r2]) rfl ?_
        exact ⟨_, _, _, rfl, ((HBW.out.setCell (Nat.le_refl _) _).setCell (Nat.le_refl _) _).setCell (Nat.le_refl _) _, noMod_row _ _⟩

end Go.Proofs.YtjaladhdnbhliaaGreatDoor
