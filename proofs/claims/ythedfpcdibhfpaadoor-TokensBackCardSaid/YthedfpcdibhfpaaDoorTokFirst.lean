/- The first token of a line: token.first. -/
import Derived.Test.YthedfpcdibhfpaaDoorCutPlain
import Derived.Deep.RegionLaw
import Derived.Deep.CutBlock
import Derived.Handy
namespace Go.Proofs.YthedfpcdibhfpaaDoor
open Go.RowKit Go.Shelf

theorem while_of {p : UInt8 → Bool} {l : List UInt8} {k : Nat} (hk : k ≤ l.length) (hp : ∀ j, j < k → ∀ x, l[j]? = some x → p x = true) (he : k = l.length ∨ ∃ x, l[k]? = some x ∧ p x = false) : l.takeWhile p = l.take k ∧ l.dropWhile p = l.drop k := by
  induction l generalizing k with
  | nil => simp
  | cons a r ih =>
    cases k with
    | zero =>
      rcases he with h | ⟨x, h1, h2⟩
      · cases h
      · simp only [List.getElem?_cons_zero, Option.some.injEq] at h1
        subst h1
        rw [List.takeWhile_cons_of_neg (by simp [h2]), List.dropWhile_cons_of_neg (by simp [h2])]
        exact ⟨rfl, rfl⟩
    | succ k =>
      have ha : p a = true := hp 0 (by omega) a rfl
      obtain ⟨h1, h2⟩ := ih (k := k) (by simpa using hk) (fun j hj x hx => hp (j + 1) (by omega) x (by simpa using hx)) (by
        rcases he with h | ⟨x, h1, h2⟩
        · left; simpa using h
        · right; exact ⟨x, by simpa using h1, h2⟩)
      rw [List.takeWhile_cons_of_pos ha, List.dropWhile_cons_of_pos ha, h1, h2]
      exact ⟨rfl, rfl⟩

theorem cutOne_any (s : ByteArray) (w : World) (mx : Int) (hs : s.size ≤ 1500) (hM : w.cell? ⟨1, 0, none⟩ = some (.int .i64 mx)) :
    Calls Tryd.prog 118 #[.string s, .string ⟨#[34]⟩] w fun e w' => e = .returned (.tuple #[.string (lit (s.data.toList.takeWhile notQ)), .string (lit ((s.data.toList.dropWhile notQ).drop 1)), .bool (!(s.data.toList.dropWhile notQ).isEmpty)]) ∧ Below w.heap.size w w' :=
  (Tryd.strings_Cut s ⟨#[34]⟩ mx w (by omega) hM).mono fun e w' ⟨he, n, hw⟩ => ⟨by
    rw [he, show (⟨#[34]⟩ : ByteArray).data.toList = [34] from rfl, cut_quote]; rfl, by subst hw; exact below_drewN (Below.refl _ _) n⟩

set_option maxRecDepth 100000 in
set_option maxHeartbeats 4000000 in
theorem tokFirst_any (s : ByteArray) (c : UInt8) (r : List UInt8) (w : World) (mx : Int) (hs : s.size ≤ 1500) (hl : s.data.toList = c :: r) (hT : Tabs w mx) :
    Calls Tryd.prog 60 #[.string s] w fun e w' => e = .returned (.tuple #[.agg #[.int .i64 (tokFirst (c :: r)).1.kind, .string (tokFirst (c :: r)).1.text], .string (lit (tokFirst (c :: r)).2.1), .bool (tokFirst (c :: r)).2.2]) ∧ Below w.heap.size w w' := by
  have hsz : s.size = r.length + 1 := by rw [ba_size, hl]; rfl
  have h0 : 0 < s.size := by omega
  have h0z : (0 : Int) < (s.size : Int) := by omega
  have h1z : (1 : Int) ≤ (s.size : Int) := by omega
  have hcx : s[0] = c := by
    have h := str_at? s 0 h0
    rw [hl] at h
    injection h with h
    exact h.symm
  have hb : (s[0].toNat : Int) < 256 := by have := s[0].toNat_lt; omega
  have hx1 : s.extract 1 s.size = lit r := by rw [ext_lit, hl]; show lit (r.take (s.size - 1)) = _; rw [List.take_of_length_le (by omega)]
  have hx0 : s.extract 0 1 = lit [c] := by rw [ext_lit, hl]; rfl
  obtain ⟨E, hE⟩ : ∃ z, tokFirst (c :: r) = z := ⟨_, rfl⟩
  rw [hE]
  obtain ⟨⟨K, TX⟩, RL, OK⟩ := E
  dsimp only
  have hsml : ∀ U : World, Calls Tryd.prog 119 #[.int .u8 s[0].toNat] U fun e w' => e = .returned (.bool (smallB c)) ∧ U = w' := fun U => by have h := small_any s[0] U; rw [hcx] at h ⊢; exact h
  have HE := Lib.hid hE; have HL := Lib.hid hl; have HCX := Lib.hid hcx; have HSZ := Lib.hid hsz; have HX1 := Lib.hid hx1; have HX0 := Lib.hid hx0; have HT := Lib.hid hT; have HSML := Lib.hid hsml
  clear hE hl hcx hsz hx1 hx0 hT hsml
  go_enter Tryd.func60, Tryd.ntmps60
  go_upto_region 1 with fail
  have hBb := Box.made w 68 #[.int .i64 0, .string ⟨#[]⟩]
  have hbb : Below w.heap.size w (w.alloc (.cells #[.int .i64 0, .string ⟨#[]⟩] 68)) := by go_grown
  have hzb : (w.alloc (.cells #[.int .i64 0, .string ⟨#[]⟩] 68)).heap.size = w.heap.size + 1 := by simp
  generalize w.alloc (.cells #[.int .i64 0, .string ⟨#[]⟩] 68) = W1 at hBb hbb hzb ⊢
  have hT1 := HT.out.later hbb
  have HB := Lib.hid hBb; have Hb := Lib.hid hbb; have HT1 := Lib.hid hT1
  clear hBb hbb hT1
  clear hzb
  by_cases hq : c = 34
  · subst hq
    have hez := HE.out.symm.trans (first_quote r)
    have hq1 : ((s[0].toNat : Int) == 34) = true := by rw [HCX.out]; rfl
    have hcut := cutOne_any (lit r) W1 mx (by rw [lit_size]; have := HSZ.out; omega) HT1.out.max
    rw [lit_list, ← HX1.out] at hcut
    have hqs := fun U => quotable_any (lit (r.takeWhile notQ)) U (by rw [lit_size]; have h1 := (List.takeWhile_sublist notQ (l := r)).length_le; have := HSZ.out; omega)
    obtain ⟨B, hB⟩ : ∃ z, lit (r.takeWhile notQ) = z := ⟨_, rfl⟩
    rw [hB] at hcut hez hqs
    obtain ⟨RQ, hRQ⟩ : ∃ z, (r.dropWhile notQ).drop 1 = z := ⟨_, rfl⟩
    rw [hRQ] at hcut hez
    obtain ⟨zq, hzq⟩ : ∃ z, quoteOk B = z := ⟨_, rfl⟩
    rw [hzq] at hez hqs
    obtain ⟨z, hz⟩ : ∃ z, (!(r.dropWhile notQ).isEmpty) = z := ⟨_, rfl⟩
    rw [hz] at hcut hez
    simp only [Prod.mk.injEq, Token.mk.injEq] at hez
    obtain ⟨⟨rfl, rfl⟩, rfl, rfl⟩ := hez
    have HCUT := Lib.hid hcut; have HQS := Lib.hid hqs
    clear hcut hqs
    clear hB hRQ hzq hz
    go_wp2_with fail
    refine HCUT.out.mono ?_
    rintro e W2 ⟨rfl, hb2⟩
    have hB2 := HB.out.later hb2 HB.out.lt
    have hbw := below_step Hb.out hb2
    have HB2 := Lib.hid hB2; have HBW := Lib.hid hbw
    clear hB2 hbw
    clear hb2
    cases z with
    | false =>
      have hB3 := HB2.out
      have hlt := hB3.lt
      have x0 := hB3.at_ 0 _ rfl
      have x1 := hB3.at_ 1 _ rfl
      have f0 := hB3.free 0
      have f1 := hB3.free 1
      clear hB3
      go_wp2_with fail
      exact bodyPost_ret (v := .tuple #[.agg #[.int .i64 3, .string TX], .string (lit RL), .bool false]) (by simp [results, Tryd.results60, go_sem, x0, x1]) rfl ⟨rfl, (HBW.out.setCell (p := ⟨w.heap.size, 0, none⟩) (Nat.le_refl _) _).setCell (p := ⟨w.heap.size, 1, none⟩) (Nat.le_refl _) _⟩
    | true =>
      go_wp2_with fail
      refine (HQS.out _).mono ?_
      rintro e W3 ⟨rfl, hb3⟩
      have hB3 := HB2.out.later hb3 HB2.out.lt
      have hbw := below_step HBW.out hb3
      have hlt := hB3.lt
      have x0 := hB3.at_ 0 _ rfl
      have x1 := hB3.at_ 1 _ rfl
      have f0 := hB3.free 0
      have f1 := hB3.free 1
      have HBW3 := Lib.hid hbw
      clear hbw
      clear hB3 hb3
      go_wp2_with fail
      exact bodyPost_ret (v := .tuple #[.agg #[.int .i64 3, .string TX], .string (lit RL), .bool zq]) (by simp [results, Tryd.results60, go_sem, x0, x1]) rfl ⟨by simp, (HBW3.out.setCell (p := ⟨w.heap.size, 0, none⟩) (Nat.le_refl _) _).setCell (p := ⟨w.heap.size, 1, none⟩) (Nat.le_refl _) _⟩
  · have hq1 : ((s[0].toNat : Int) == 34) = false := by
      rw [HCX.out, beq_eq_false_iff_ne]
      intro e
      exact hq (UInt8.toNat_inj.1 (by have h2 : (34 : UInt8).toNat = 34 := rfl; omega))
    go_upto_block 0 with fail
    go_cut [8] (fun s8 wc => ∃ kk : Nat, kk ≤ s.size ∧ s8 = .int .i64 kk ∧ wc = W1 ∧ Aside ((c :: r).takeWhile wdB = (c :: r).take kk ∧ (c :: r).dropWhile wdB = (c :: r).drop kk) ∧ Aside (kk = 0 → wdB c = false) ∧ Aside (0 < kk → wdB c = true))
    case first =>
      go_wp2_with fail
      go_loopg [8] s.size (fun gg s8 wr => ∃ kk : Nat, kk ≤ s.size ∧ s.size - kk ≤ gg ∧ s8 = .int .i64 kk ∧ wr = W1 ∧ Aside (∀ j, j < kk → ∀ x, (c :: r)[j]? = some x → wdB x = true))
      case atStart => exact ⟨0, Nat.zero_le _, by omega, rfl, rfl, aside (fun j hj => absurd hj (Nat.not_lt_zero _))⟩
      case round =>
        obtain ⟨kk, hkk, hg, rfl, rfl, A1⟩ := hrel
        by_cases hlt : kk < s.size
        · have hltz : (kk : Int) < (s.size : Int) := by omega
          have hb' : (s[kk].toNat : Int) < 256 := by have := s[kk].toNat_lt; omega
          have hx := str_at? s kk hlt
          rw [HL.out] at hx
          have hsm := fun U => small_any s[kk] U
          have hdg := fun U => digit_any s[kk] U
          obtain ⟨zs, hzs⟩ : ∃ z, smallB s[kk] = z := ⟨_, rfl⟩
          obtain ⟨zd, hzd⟩ : ∃ z, digitB s[kk] = z := ⟨_, rfl⟩
          have hwd : wdB s[kk] = (zs || zd) := by unfold wdB; rw [hzs, hzd]
          rw [hzs] at hsm
          rw [hzd] at hdg
          have HX := Lib.hid hx; have HSM := Lib.hid hsm; have HDG := Lib.hid hdg; have HWD := Lib.hid hwd
          clear hx hsm hdg hwd
          clear hzs hzd
          by_cases hzz : (zs || zd) = true
          · have hgo : ∀ j, j < kk + 1 → ∀ x, (c :: r)[j]? = some x → wdB x = true := by
              intro j hj x hx
              by_cases e : j = kk
              · subst e; rw [HX.out] at hx; injection hx with hx; rw [← hx, HWD.out]; exact hzz
              · exact A1.out j (by omega) x hx
            have HGO := Lib.hid hgo
            clear hgo
            cases zs with
            | true =>
              clear hzz
              go_wp2_with (first
                | (go_at_call 119; (with_reducible refine (HSM.out _).mono ?_); rintro e w' ⟨rfl, rfl⟩)
                | (go_at_call 120; (with_reducible refine (HDG.out _).mono ?_); rintro e w' ⟨rfl, rfl⟩))
              go_roundg (s.size - (kk + 1))
              case measure => omega
              case rel => exact ⟨kk + 1, by omega, by omega, by go_num, rfl, aside HGO.out⟩
            | false =>
              cases zd with
              | false => cases hzz
              | true =>
                clear hzz
                go_wp2_with (first
                  | (go_at_call 119; (with_reducible refine (HSM.out _).mono ?_); rintro e w' ⟨rfl, rfl⟩)
                  | (go_at_call 120; (with_reducible refine (HDG.out _).mono ?_); rintro e w' ⟨rfl, rfl⟩))
                go_roundg (s.size - (kk + 1))
                case measure => omega
                case rel => exact ⟨kk + 1, by omega, by omega, by go_num, rfl, aside HGO.out⟩
          · obtain ⟨rfl, rfl⟩ : zs = false ∧ zd = false := by simpa using hzz
            have hw := while_of (p := wdB) (l := c :: r) (k := kk) (by rw [List.length_cons]; have := HSZ.out; omega) A1.out (.inr ⟨_, HX.out, HWD.out⟩)
            have hw0 : kk = 0 → wdB c = false := fun e => by subst e; have h := HWD.out; rw [HCX.out] at h; exact h
            have hw1 : 0 < kk → wdB c = true := fun e => A1.out 0 e c rfl
            have HW := Lib.hid hw; have HW0 := Lib.hid hw0; have HW1 := Lib.hid hw1
            clear hw hw0 hw1
            clear hzz
            go_wp2_with (first
                | (go_at_call 119; (with_reducible refine (HSM.out _).mono ?_); rintro e w' ⟨rfl, rfl⟩)
                | (go_at_call 120; (with_reducible refine (HDG.out _).mono ?_); rintro e w' ⟨rfl, rfl⟩))
            go_meet
            exact ⟨kk, hkk, rfl, rfl, aside HW.out, aside HW0.out, aside HW1.out⟩
        · have hltz : ¬ (kk : Int) < (s.size : Int) := by omega
          obtain rfl : kk = s.size := by omega
          have hw := while_of (p := wdB) (l := c :: r) (k := s.size) (by rw [List.length_cons]; have := HSZ.out; omega) A1.out (.inl (by rw [List.length_cons]; exact HSZ.out))
          have hw0 : s.size = 0 → wdB c = false := fun e => by omega
          have hw1 : 0 < s.size → wdB c = true := fun e => A1.out 0 e c rfl
          have HW := Lib.hid hw; have HW0 := Lib.hid hw0; have HW1 := Lib.hid hw1
          clear hw hw0 hw1
          go_wp2_with fail
          go_meet
          exact ⟨s.size, hkk, rfl, rfl, aside HW.out, aside HW0.out, aside HW1.out⟩
    case rest =>
    obtain ⟨kk, hkk, rfl, rfl, HW, HW0, HW1⟩ := hcut
    have hkkz : (kk : Int) ≤ (s.size : Int) := by omega
    obtain ⟨zs, hzs⟩ : ∃ z, smallB c = z := ⟨_, rfl⟩
    obtain ⟨zd, hzd⟩ : ∃ z, digitB c = z := ⟨_, rfl⟩
    have hwd : wdB c = (zs || zd) := by unfold wdB; rw [hzs, hzd]
    have hsml := HSML.out
    rw [hzs] at hsml
    have HSM := Lib.hid hsml; have HZS := Lib.hid hzs; have HZD := Lib.hid hzd
    clear hsml hzs hzd
    clear HSML
    by_cases hk0 : kk = 0
    · subst hk0
      have hw0 := HW0.out (by first | rfl | trivial)
      rw [hwd] at hw0
      obtain ⟨rfl, rfl⟩ : zs = false ∧ zd = false := by simpa using hw0
      have hez := HE.out.symm.trans (first_sign r hq HZS.out HZD.out)
      have hcs := fun U => containsSign_any c U
      rw [show (⟨#[c]⟩ : ByteArray) = lit [c] from rfl, ← HX0.out] at hcs
      rw [← HX0.out] at hez
      obtain ⟨zq, hzq⟩ : ∃ z, signOk (s.extract 0 1) = z := ⟨_, rfl⟩
      rw [hzq] at hez hcs
      simp only [Prod.mk.injEq, Token.mk.injEq] at hez
      obtain ⟨⟨rfl, rfl⟩, rfl, rfl⟩ := hez
      have HCS := Lib.hid hcs
      clear hcs
      clear hw0 hzq hwd
      go_wp2_with fail
      have hB1 := HB.out
      have hlt := hB1.lt
      have x0 := hB1.at_ 0 _ rfl
      have x1 := hB1.at_ 1 _ rfl
      have f0 := hB1.free 0
      have f1 := hB1.free 1
      clear hB1
      go_region_law ((go_simp; go_at_call 90; (with_reducible refine (HCS.out _).mono ?_); rintro e w7 ⟨rfl, rfl⟩))
      all_goals
        (try go_wp2_with fail)
        exact bodyPost_ret (v := .tuple #[.agg #[.int .i64 4, .string (s.extract 0 1)], .string (lit RL), .bool OK]) (by simp [results, Tryd.results60, go_sem, x0, x1, HX1.out]) rfl ⟨rfl, by
          first
          | exact (Hb.out.setCell (p := ⟨w.heap.size, 0, none⟩) (Nat.le_refl _) _).setCell (p := ⟨w.heap.size, 1, none⟩) (Nat.le_refl _) _
          | exact (Hb.out.drew.setCell (p := ⟨w.heap.size, 0, none⟩) (Nat.le_refl _) _).setCell (p := ⟨w.heap.size, 1, none⟩) (Nat.le_refl _) _⟩
    have hkp : 0 < kk := by omega
    have hkpz : (0 : Int) < (kk : Int) := by omega
    have hk0z : ((kk : Int) == 0) = false := by simp; omega
    cases zs with
    | true =>
      have hez := HE.out.symm.trans (first_small r hq HZS.out)
      rw [HW.out.1, HW.out.2] at hez
      have hx2 : s.extract 0 kk = lit ((c :: r).take kk) := by rw [ext_lit, HL.out]; rfl
      have hx3 : s.extract kk s.size = lit ((c :: r).drop kk) := by rw [ext_lit, HL.out, List.take_of_length_le (by rw [List.length_drop, List.length_cons]; have := HSZ.out; omega)]
      have hwo := fun U (hU : Below w.heap.size w U) => word_any (lit ((c :: r).take kk)) U (by rw [lit_size, List.length_take, List.length_cons]; have := HSZ.out; omega)
      rw [← hx2] at hez hwo
      obtain ⟨zq, hzq⟩ : ∃ z, wordOk (s.extract 0 kk) = z := ⟨_, rfl⟩
      rw [hzq] at hez hwo
      simp only [Prod.mk.injEq, Token.mk.injEq] at hez
      obtain ⟨⟨rfl, rfl⟩, rfl, rfl⟩ := hez
      have HX3 := Lib.hid hx3
      have HWO := Lib.hid hwo
      clear hwo
      clear hx2 hx3 hzq
      go_wp2_with (go_at_call 119; (with_reducible refine (HSM.out _).mono ?_); rintro e w' ⟨rfl, rfl⟩)
      have hB1 := HB.out
      have hlt := hB1.lt
      have x0 := hB1.at_ 0 _ rfl
      have x1 := hB1.at_ 1 _ rfl
      have f0 := hB1.free 0
      have f1 := hB1.free 1
      clear hB1
      go_region_law ((go_simp; go_at_call 87; (with_reducible refine (HWO.out _ (by first | exact Hb.out | exact Hb.out.drew)).mono ?_); rintro e w7 ⟨rfl, hb7⟩; have hB7 := Box.later (B := wc.heap.size) HB.out (by first | exact hb7 | (exact Below.trans (by go_grown) hb7)) HB.out.lt; clear x0 x1 f0 f1; have x0 := hB7.at_ 0 _ rfl; have x1 := hB7.at_ 1 _ rfl; have f0 := hB7.free 0; have f1 := hB7.free 1; have hlt7 := hB7.lt; have hb8 := Hb.out.trans (by first | exact hb7.mono Hb.out.size | exact (Below.trans (by go_grown) hb7).mono Hb.out.size : Below w.heap.size wc w7); have HB8 := Lib.hid hb8; clear hb7 hB7 hb8))
      all_goals
        (try go_wp2_with fail)
        exact bodyPost_ret (v := .tuple #[.agg #[.int .i64 1, .string (s.extract 0 kk)], .string (lit ((c :: r).drop kk)), .bool OK]) (by simp [results, Tryd.results60, go_sem, x0, x1, HX3.out]) rfl ⟨rfl, (HB8.out.setCell (p := ⟨w.heap.size, 0, none⟩) (Nat.le_refl _) _).setCell (p := ⟨w.heap.size, 1, none⟩) (Nat.le_refl _) _⟩
    | false =>
      have hw1 := HW1.out hkp
      rw [hwd] at hw1
      obtain rfl : zd = true := by simpa using hw1
      clear hw1
      have hez := HE.out.symm.trans (first_digit r hq HZS.out HZD.out)
      rw [HW.out.1, HW.out.2] at hez
      have hx2 : s.extract 0 kk = lit ((c :: r).take kk) := by rw [ext_lit, HL.out]; rfl
      have hx3 : s.extract kk s.size = lit ((c :: r).drop kk) := by rw [ext_lit, HL.out, List.take_of_length_le (by rw [List.length_drop, List.length_cons]; have := HSZ.out; omega)]
      have hwo := fun U (hU : Below w.heap.size w U) => number_any (lit ((c :: r).take kk)) U mx (by rw [lit_size, List.length_take, List.length_cons]; have := HSZ.out; omega) (HT.out.later hU)
      rw [← hx2] at hez hwo
      obtain ⟨zq, hzq⟩ : ∃ z, numOk (s.extract 0 kk) = z := ⟨_, rfl⟩
      rw [hzq] at hez hwo
      simp only [Prod.mk.injEq, Token.mk.injEq] at hez
      obtain ⟨⟨rfl, rfl⟩, rfl, rfl⟩ := hez
      have HX3 := Lib.hid hx3
      have HWO := Lib.hid hwo
      clear hwo
      clear hx2 hx3 hzq
      go_wp2_with (go_at_call 119; (with_reducible refine (HSM.out _).mono ?_); rintro e w' ⟨rfl, rfl⟩)
      have hB1 := HB.out
      have hlt := hB1.lt
      have x0 := hB1.at_ 0 _ rfl
      have x1 := hB1.at_ 1 _ rfl
      have f0 := hB1.free 0
      have f1 := hB1.free 1
      clear hB1
      go_region_law ((go_simp; go_at_call 88; (with_reducible refine (HWO.out _ (by first | exact Hb.out | exact Hb.out.drew)).mono ?_); rintro e w7 ⟨rfl, hb7⟩; have hB7 := Box.later (B := wc.heap.size) HB.out (by first | exact hb7 | (exact Below.trans (by go_grown) hb7)) HB.out.lt; clear x0 x1 f0 f1; have x0 := hB7.at_ 0 _ rfl; have x1 := hB7.at_ 1 _ rfl; have f0 := hB7.free 0; have f1 := hB7.free 1; have hlt7 := hB7.lt; have hb8 := Hb.out.trans (by first | exact hb7.mono Hb.out.size | exact (Below.trans (by go_grown) hb7).mono Hb.out.size : Below w.heap.size wc w7); have HB8 := Lib.hid hb8; clear hb7 hB7 hb8))
      all_goals
        (try go_wp2_with fail)
        exact bodyPost_ret (v := .tuple #[.agg #[.int .i64 2, .string (s.extract 0 kk)], .string (lit ((c :: r).drop kk)), .bool OK]) (by simp [results, Tryd.results60, go_sem, x0, x1, HX3.out]) rfl ⟨rfl, (HB8.out.setCell (p := ⟨w.heap.size, 0, none⟩) (Nat.le_refl _) _).setCell (p := ⟨w.heap.size, 1, none⟩) (Nat.le_refl _) _⟩

end Go.Proofs.YthedfpcdibhfpaaDoor
