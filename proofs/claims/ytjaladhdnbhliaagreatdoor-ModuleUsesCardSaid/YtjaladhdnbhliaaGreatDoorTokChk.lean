/- Tokens that must be right: token.Check, and the reference's digitsMay, signMay, TokensFault. -/
import Derived.Test.YtjaladhdnbhliaaGreatDoorTokNum
import Derived.Test.YtjaladhdnbhliaaGreatDoorTreeErr
import Derived.Test.YtjaladhdnbhliaaGreatDoorKindForm
import Derived.Handy
namespace Go.Proofs.YtjaladhdnbhliaaGreatDoor
open Go.RowKit Go.Shelf

theorem tokErr_kind {t : Token} (h : t.kind < 1 ∨ 4 < t.kind) : tokErr t = 3 := by unfold tokErr; rw [if_pos h]
theorem tokErr_ok {t : Token} (h1 : 1 ≤ t.kind) (h2 : t.kind ≤ 4) (h : tokOk t = true) : tokErr t = 0 := by unfold tokErr; rw [if_neg (by omega), if_pos h]
theorem tokErr_no {t : Token} (h1 : 1 ≤ t.kind) (h2 : t.kind ≤ 4) (h : tokOk t = false) : tokErr t = 4 := by unfold tokErr; rw [if_neg (by omega), if_neg (by simp [h])]
theorem toks_each {l : List Token} {E : Int} (h : l.length ≤ 200) (he : eachErr tokErr l = E) : toksErr l = E := by unfold toksErr; rw [if_neg (by omega), he]
theorem toks_size {l : List Token} (h : 200 < l.length) : toksErr l = 1 := by unfold toksErr; rw [if_pos h]

set_option maxRecDepth 100000 in
set_option maxHeartbeats 1000000 in
theorem digitsMay_any (s : ByteArray) (w : World) (hs : s.size ≤ 140737488355328) : Calls Tryz.prog 204 #[.string s] w fun e w' => e = .returned (.bool (numOk s)) ∧ w = w' := by
  obtain ⟨E, hE⟩ : ∃ z, numOk s = z := ⟨_, rfl⟩
  rw [hE]
  have HE := Lib.hid hE
  clear hE
  go_enter Tryz.func204, Tryz.ntmps204
  go_wp2
  go_loopg [3] s.size (fun gg s3 wr => ∃ kk : Nat, kk ≤ s.size ∧ s.size - kk ≤ gg ∧ s3 = .int .i64 kk ∧ wr = w ∧ Aside (∀ j, j < kk → ∀ x, s.data.toList[j]? = some x → digitB x = true))
  case atStart => exact ⟨0, Nat.zero_le _, by omega, rfl, rfl, aside (fun j hj => absurd hj (Nat.not_lt_zero _))⟩
  case round =>
    obtain ⟨kk, hkk, hg, rfl, rfl, A1⟩ := hrel
    by_cases hlt : kk < s.size
    · have hltz : (kk : Int) < (s.size : Int) := by omega
      have hb : (s[kk].toNat : Int) < 256 := by have := s[kk].toNat_lt; omega
      have hx := str_at? s kk hlt
      obtain ⟨z, hz⟩ : ∃ z, digitB s[kk] = z := ⟨_, rfl⟩
      have hin : inB (s[kk].toNat : Int) 48 57 = z := by rw [← hz]; unfold inB digitB; rw [Bool.eq_iff_iff]; simp; omega
      have hin2 := fun U : World => in_any (s[kk].toNat : Int) 48 57 U
      rw [hin] at hin2
      have HX := Lib.hid hx; have HZ := Lib.hid hz; have HIN := Lib.hid hin2
      clear hx hz hin2
      clear hin
      cases z with
      | false =>
        go_wp2_with (go_at_call 139; refine (HIN.out _).mono ?_; rintro e w' ⟨rfl, rfl⟩)
        go_ret
        refine ⟨ret_bool ?_, rfl⟩
        rw [← HE.out]
        symm
        rw [Bool.eq_false_iff]
        intro h
        unfold numOk at h
        rw [Bool.and_eq_true] at h
        have h1 := (numL_digits h.2).1
        rw [List.all_eq_true] at h1
        have h2 := h1 _ (List.mem_of_getElem? HX.out)
        rw [HZ.out] at h2; cases h2
      | true =>
        go_wp2_with (go_at_call 139; refine (HIN.out _).mono ?_; rintro e w' ⟨rfl, rfl⟩)
        go_roundg (s.size - (kk + 1))
        case measure => omega
        case rel =>
          refine ⟨kk + 1, by omega, by omega, by go_num, rfl, aside ?_⟩
          intro j hj x hx
          by_cases e : j = kk
          · subst e; rw [HX.out] at hx; injection hx with hx; rw [← hx]; exact HZ.out
          · exact A1.out j (by omega) x hx
    · have hltz : ¬ (kk : Int) < (s.size : Int) := by omega
      obtain rfl : kk = s.size := by omega
      have hall : s.data.toList.all digitB = true := by
        rw [List.all_eq_true]
        intro x hx
        obtain ⟨j, hj, rfl⟩ := List.mem_iff_getElem.1 hx
        exact A1.out j hj _ (List.getElem?_eq_getElem hj)
      by_cases h6 : 1 ≤ s.size ∧ s.size ≤ 6
      · have hin : inB (s.size : Int) 1 6 = true := by unfold inB; simp; omega
        have hin2 := fun U : World => in_any (s.size : Int) 1 6 U
        rw [hin] at hin2
        have h0 : 0 < s.size := by omega
        have hx := str_at? s 0 h0
        have hb : (s[0].toNat : Int) < 256 := by have := s[0].toNat_lt; omega
        have hnn : numOk s = (decide (s.size = 1) || !decide (s[0].toNat = 48)) := by
          unfold numOk
          rw [decide_eq_true h6.2, Bool.true_and]
          cases hl : s.data.toList with
          | nil => rw [hl] at hx; cases hx
          | cons c r =>
            rw [hl] at hx hall
            injection hx with hx
            rw [numL_cons, hall, Bool.true_and, ← hx]
            have hlen : s.size = r.length + 1 := by rw [ba_size, hl]; rfl
            congr 1
            rw [hlen, Bool.eq_iff_iff, List.isEmpty_iff, decide_eq_true_eq]
            exact ⟨fun h => by rw [h]; rfl, fun h => List.length_eq_zero_iff.1 (by omega)⟩
        rw [HE.out] at hnn
        have h0z : (0 : Int) < (s.size : Int) := by omega
        have HIN := Lib.hid hin2
        clear hin2
        clear hin hx A1 hall
        by_cases h1 : s.size = 1
        · have h1z : ((s.size : Int) == 1) = true := by simp; omega
          rw [decide_eq_true h1, Bool.true_or] at hnn
          subst hnn
          have H1 := Lib.hid h1
          clear h1
          go_wp2_with (go_at_call 139; refine (HIN.out _).mono ?_; rintro e w' ⟨rfl, rfl⟩)
          all_goals (go_ret; exact ⟨ret_bool (by simp), rfl⟩)
        · have h1z : ((s.size : Int) == 1) = false := by simp; omega
          rw [decide_eq_false h1, Bool.false_or] at hnn
          have HNN := Lib.hid hnn
          clear hnn
          have H1 := Lib.hid h1
          clear h1
          go_wp2_with (go_at_call 139; refine (HIN.out _).mono ?_; rintro e w' ⟨rfl, rfl⟩)
          all_goals (go_ret; refine ⟨ret_bool ?_, rfl⟩; rw [HNN.out, Bool.eq_iff_iff]; simp; try omega)
      · have hin : inB (s.size : Int) 1 6 = false := by unfold inB; rw [Bool.eq_false_iff]; simp; omega
        have hin2 := fun U : World => in_any (s.size : Int) 1 6 U
        rw [hin] at hin2
        have hnn : numOk s = false := by
          unfold numOk
          by_cases h7 : s.size ≤ 6
          · have h0 : s.data.toList = [] := List.length_eq_zero_iff.1 (show s.size = 0 by omega)
            rw [h0, show numL [] = false from rfl, Bool.and_false]
          · rw [decide_eq_false h7, Bool.false_and]
        rw [HE.out] at hnn
        subst hnn
        have HIN := Lib.hid hin2
        clear hin2
        clear hin A1 hall
        go_wp2_with (go_at_call 139; refine (HIN.out _).mono ?_; rintro e w' ⟨rfl, rfl⟩)
        go_ret
        exact ⟨rfl, rfl⟩

set_option maxRecDepth 100000 in
set_option maxHeartbeats 1000000 in
theorem signMay_any (s : ByteArray) (w : World) : Calls Tryz.prog 206 #[.string s] w fun e w' => e = .returned (.bool (signOk s)) ∧ w = w' := by
  obtain ⟨E, hE⟩ : ∃ z, signOk s = z := ⟨_, rfl⟩
  rw [hE]
  have HE := Lib.hid hE
  clear hE
  go_enter Tryz.func206, Tryz.ntmps206
  go_wp2
  go_loopg [4] 11 (fun gg s4 wr => ∃ kk : Nat, kk ≤ 11 ∧ 11 - kk ≤ gg ∧ s4 = .int .i64 kk ∧ wr = w ∧ Aside (∀ j, j < kk → ∀ c, signsL[j]? = some c → s ≠ ⟨#[c]⟩))
  case atStart => exact ⟨0, Nat.zero_le _, by omega, rfl, rfl, aside (fun j hj => absurd hj (Nat.not_lt_zero _))⟩
  case round =>
    obtain ⟨kk, hkk, hg, rfl, rfl, A1⟩ := hrel
    by_cases hlt : kk < 11
    · have hltz : (kk : Int) < 11 := by omega
      have hx : signsL[kk]? = some (signsL[kk]'hlt) := List.getElem?_eq_getElem hlt
      generalize signsL[kk]'hlt = c at hx
      have hex : (ByteArray.mk #[61, 40, 41, 91, 93, 44, 43, 46, 58, 60, 62]).extract kk (kk + 1) = ⟨#[c]⟩ := by
        apply ba_ext
        rw [ba_extract, show kk + 1 - kk = 1 by omega]
        show (signsL.drop kk).take 1 = [c]
        rw [List.drop_eq_getElem_cons (by exact hlt)]
        rw [List.getElem?_eq_getElem hlt] at hx
        injection hx with hx
        rw [hx]; rfl
      obtain ⟨z, hz⟩ : ∃ z, (s.toList == (ByteArray.mk #[61, 40, 41, 91, 93, 44, 43, 46, 58, 60, 62] |>.extract kk (kk + 1)).toList) = z := ⟨_, rfl⟩
      have hzz : z = decide (s = ⟨#[c]⟩) := by rw [← hz, hex, str_eq]
      have HX := Lib.hid hx; have HZZ := Lib.hid hzz
      clear hx hzz
      clear hex
      cases z with
      | true =>
        have hs : s = ⟨#[c]⟩ := by have := HZZ.out; simpa using this.symm
        obtain rfl : E = true := by
          rw [← HE.out, hs, signOk_one]
          exact List.contains_iff_mem.2 (List.mem_of_getElem? HX.out)
        clear hs
        go_wp2_with fail
        go_ret
        exact ⟨rfl, rfl⟩
      | false =>
        have hs : s ≠ ⟨#[c]⟩ := by have := HZZ.out; simpa using this.symm
        have HS := Lib.hid hs
        clear hs
        go_wp2_with fail
        go_roundg (11 - (kk + 1))
        case measure => omega
        case rel =>
          refine ⟨kk + 1, by omega, by omega, by go_num, rfl, aside ?_⟩
          intro j hj x hx
          by_cases e : j = kk
          · subst e; rw [HX.out] at hx; injection hx with hx; rw [← hx]; exact HS.out
          · exact A1.out j (by omega) x hx
    · have hltz : ¬ (kk : Int) < 11 := by omega
      obtain rfl : kk = 11 := by omega
      obtain rfl : E = false := by
        rw [← HE.out, Bool.eq_false_iff]
        intro h
        by_cases h1 : s.size = 1
        · obtain ⟨c, rfl⟩ := one_byte h1
          rw [signOk_one] at h
          obtain ⟨j, hj, hc⟩ := List.mem_iff_getElem.1 (List.contains_iff_mem.1 h)
          exact A1.out j hj c (by rw [List.getElem?_eq_getElem hj, hc]) rfl
        · rw [signOk_many h1] at h; cases h
      clear A1
      go_wp2_with fail
      go_ret
      exact ⟨rfl, rfl⟩

set_option maxRecDepth 100000 in
set_option maxHeartbeats 2000000 in
theorem toksFault_any (l : List Token) (v : Value) (F : Foot) (w : World) (hF : ∀ k, F k → k < w.heap.size) (hl : SliceOf TokenR 2 24 w F v l) :
    Calls Tryz.prog 140 #[v] w fun e w' => e = .returned (.int .i64 (toksErr l)) ∧ Below w.heap.size w w' := by
  obtain ⟨A, cap, rfl, hlc, hcm, hl2, hl3⟩ := hl.form
  unfold maxLen at hcm
  obtain ⟨E, hE⟩ : ∃ z, toksErr l = z := ⟨_, rfl⟩
  rw [hE]
  have HE := Lib.hid hE; have HL := Lib.hid hl
  clear hE hl
  go_enter Tryz.func140, Tryz.ntmps140
  by_cases h2 : 200 < l.length
  · have h2z : (200 : Int) < (l.length : Int) := by omega
    obtain rfl : E = 1 := by rw [← HE.out, toks_size h2]
    go_wp2_with fail
    go_ret
    exact ⟨rfl, Below.refl _ _⟩
  · have h2z : ¬ (200 : Int) < (l.length : Int) := by omega
    go_wp2_with fail
    go_loopg [3, 4] l.length (fun gg s3 _ wr => ∃ kk : Nat, kk ≤ l.length ∧ l.length - kk ≤ gg ∧ s3 = .int .i64 kk ∧ Aside (Below w.heap.size w wr) ∧ Aside (∀ j, j < kk → ∀ y, l[j]? = some y → tokErr y = 0))
    case atStart => exact ⟨0, Nat.zero_le _, by omega, rfl, aside (Below.refl _ _), aside (fun j hj => absurd hj (Nat.not_lt_zero _))⟩
    case round =>
      obtain ⟨kk, hkk, hg, rfl, BW, Al⟩ := hrel
      by_cases hlt : kk < l.length
      · have hltz : (kk : Int) < (l.length : Int) := by omega
        obtain ⟨b1, off, cs, rfl, hbF, hcs, ⟨rfl, hki, htx⟩, hcell⟩ := (HL.out.up TokenR.stays hF BW.out).at_ hlt
        have hc0 := hcell 0 _ rfl
        have hc1 := hcell 1 _ rfl
        simp only [Nat.add_zero] at hc0
        have hy := List.getElem?_eq_getElem hlt
        generalize l[kk] = t at *
        obtain ⟨k, s⟩ := t
        dsimp only at hki htx hc0 hc1
        have hs : s.size ≤ 140737488355328 := htx
        have hbl := foot_up hF BW.out _ hbF
        have hi1 := hki.1
        have hi2 := hki.2
        have hin := fun U : World => in_any k 1 4 U
        have hw := fun U : World => wordMay_any s U hs
        have hn := fun U : World => digitsMay_any s U hs
        have hq := fun U : World => quoteMay_any s U hs
        have hg := fun U : World => signMay_any s U
        obtain ⟨zi, hzi⟩ : ∃ z, inB k 1 4 = z := ⟨_, rfl⟩
        have hie : zi = (decide (1 ≤ k) && decide (k ≤ 4)) := hzi.symm
        rw [hzi] at hin
        have HY := Lib.hid hy; have HIN := Lib.hid hin; have HW := Lib.hid hw; have HN := Lib.hid hn; have HQ := Lib.hid hq; have HG := Lib.hid hg
        clear hy hin hw hn hq hg
        clear hcell hcs hzi
        go_upto_region 7 with fail
        have hBb := Box.made wr 182 #[.int .i64 k, .string s]
        have hbb : Below wr.heap.size wr (wr.alloc (.cells #[.int .i64 k, .string s] 182)) := by go_grown
        have hzb : (wr.alloc (.cells #[.int .i64 k, .string s] 182)).heap.size = wr.heap.size + 1 := by simp
        generalize wr.alloc (.cells #[.int .i64 k, .string s] 182) = W1 at hBb hbb hzb ⊢
        have x0 := hBb.at_ 0 _ rfl
        have x1 := hBb.at_ 1 _ rfl
        have hb1 := below_step BW.out hbb
        have HB1 := Lib.hid hb1
        clear hb1
        clear hbb hBb hzb hc0 hc1
        have hgood : tokErr ⟨k, s⟩ = 0 → ∀ j, j < kk + 1 → ∀ y, l[j]? = some y → tokErr y = 0 := fun h => good_succ HY.out h Al.out
        have hbad : ∀ z, z ≠ 0 → tokErr ⟨k, s⟩ = z → E = z := fun z h0 h => by rw [← HE.out]; exact toks_each (by omega) (eachErr_hit HY.out h h0 Al.out)
        by_cases hk : 1 ≤ k ∧ k ≤ 4
        case neg =>
          have hez := hbad 3 (by decide) (tokErr_kind (t := ⟨k, s⟩) (by dsimp only; omega))
          subst hez
          obtain rfl : zi = false := by rw [hie]; simp; omega
          clear hgood hie
          go_wp2_with (go_at_call 139; refine (HIN.out _).mono ?_; rintro e w' ⟨rfl, rfl⟩)
          go_ret
          exact ⟨rfl, HB1.out⟩
        case pos =>
        obtain rfl : zi = true := by rw [hie]; simp; omega
        have hok := tokErr_ok (t := ⟨k, s⟩) hk.1 hk.2
        have hno := tokErr_no (t := ⟨k, s⟩) hk.1 hk.2
        have hcase : k = 1 ∨ k = 2 ∨ k = 3 ∨ k = 4 := by omega
        clear hie hk
        rcases hcase with rfl | rfl | rfl | rfl
        · obtain ⟨z, hz⟩ : ∃ z, wordOk s = z := ⟨_, rfl⟩
          have hcl := HW.out
          rw [show tokOk ⟨1, s⟩ = wordOk s from rfl, hz] at hok hno
          rw [hz] at hcl
          have HCL := Lib.hid hcl
          clear hcl
          clear hz HW HN HQ HG
          cases z with
          | false =>
            have hez := hbad 4 (by decide) (hno rfl)
            subst hez
            clear hgood hok hno
            go_wp2_with (first
              | (go_at_call 139; (with_reducible refine (HIN.out _).mono ?_); rintro e w' ⟨rfl, rfl⟩)
              | (go_at_call 164; (with_reducible refine (HCL.out _).mono ?_); rintro e w' ⟨rfl, rfl⟩))
            go_ret
            exact ⟨rfl, HB1.out⟩
          | true =>
            have hgd := hgood (hok rfl)
            have HGD := Lib.hid hgd
            clear hgd
            clear hgood hok hno hbad
            go_wp2_with (first
              | (go_at_call 139; (with_reducible refine (HIN.out _).mono ?_); rintro e w' ⟨rfl, rfl⟩)
              | (go_at_call 164; (with_reducible refine (HCL.out _).mono ?_); rintro e w' ⟨rfl, rfl⟩))
            go_roundg (l.length - (kk + 1))
            case measure => omega
            case rel => exact ⟨kk + 1, by omega, by omega, by go_num, aside HB1.out, aside HGD.out⟩
        · obtain ⟨z, hz⟩ : ∃ z, numOk s = z := ⟨_, rfl⟩
          have hcl := HN.out
          rw [show tokOk ⟨2, s⟩ = numOk s from rfl, hz] at hok hno
          rw [hz] at hcl
          have HCL := Lib.hid hcl
          clear hcl
          clear hz HW HN HQ HG
          cases z with
          | false =>
            have hez := hbad 4 (by decide) (hno rfl)
            subst hez
            clear hgood hok hno
            go_wp2_with (first
              | (go_at_call 139; (with_reducible refine (HIN.out _).mono ?_); rintro e w' ⟨rfl, rfl⟩)
              | (go_at_call 204; (with_reducible refine (HCL.out _).mono ?_); rintro e w' ⟨rfl, rfl⟩))
            go_ret
            exact ⟨rfl, HB1.out⟩
          | true =>
            have hgd := hgood (hok rfl)
            have HGD := Lib.hid hgd
            clear hgd
            clear hgood hok hno hbad
            go_wp2_with (first
              | (go_at_call 139; (with_reducible refine (HIN.out _).mono ?_); rintro e w' ⟨rfl, rfl⟩)
              | (go_at_call 204; (with_reducible refine (HCL.out _).mono ?_); rintro e w' ⟨rfl, rfl⟩))
            go_roundg (l.length - (kk + 1))
            case measure => omega
            case rel => exact ⟨kk + 1, by omega, by omega, by go_num, aside HB1.out, aside HGD.out⟩
        · obtain ⟨z, hz⟩ : ∃ z, quoteOk s = z := ⟨_, rfl⟩
          have hcl := HQ.out
          rw [show tokOk ⟨3, s⟩ = quoteOk s from rfl, hz] at hok hno
          rw [hz] at hcl
          have HCL := Lib.hid hcl
          clear hcl
          clear hz HW HN HQ HG
          cases z with
          | false =>
            have hez := hbad 4 (by decide) (hno rfl)
            subst hez
            clear hgood hok hno
            go_wp2_with (first
              | (go_at_call 139; (with_reducible refine (HIN.out _).mono ?_); rintro e w' ⟨rfl, rfl⟩)
              | (go_at_call 205; (with_reducible refine (HCL.out _).mono ?_); rintro e w' ⟨rfl, rfl⟩))
            go_ret
            exact ⟨rfl, HB1.out⟩
          | true =>
            have hgd := hgood (hok rfl)
            have HGD := Lib.hid hgd
            clear hgd
            clear hgood hok hno hbad
            go_wp2_with (first
              | (go_at_call 139; (with_reducible refine (HIN.out _).mono ?_); rintro e w' ⟨rfl, rfl⟩)
              | (go_at_call 205; (with_reducible refine (HCL.out _).mono ?_); rintro e w' ⟨rfl, rfl⟩))
            go_roundg (l.length - (kk + 1))
            case measure => omega
            case rel => exact ⟨kk + 1, by omega, by omega, by go_num, aside HB1.out, aside HGD.out⟩
        · obtain ⟨z, hz⟩ : ∃ z, signOk s = z := ⟨_, rfl⟩
          have hcl := HG.out
          rw [show tokOk ⟨4, s⟩ = signOk s from rfl, hz] at hok hno
          rw [hz] at hcl
          have HCL := Lib.hid hcl
          clear hcl
          clear hz HW HN HQ HG
          cases z with
          | false =>
            have hez := hbad 4 (by decide) (hno rfl)
            subst hez
            clear hgood hok hno
            go_wp2_with (first
              | (go_at_call 139; (with_reducible refine (HIN.out _).mono ?_); rintro e w' ⟨rfl, rfl⟩)
              | (go_at_call 206; (with_reducible refine (HCL.out _).mono ?_); rintro e w' ⟨rfl, rfl⟩))
            go_ret
            exact ⟨rfl, HB1.out⟩
          | true =>
            have hgd := hgood (hok rfl)
            have HGD := Lib.hid hgd
            clear hgd
            clear hgood hok hno hbad
            go_wp2_with (first
              | (go_at_call 139; (with_reducible refine (HIN.out _).mono ?_); rintro e w' ⟨rfl, rfl⟩)
              | (go_at_call 206; (with_reducible refine (HCL.out _).mono ?_); rintro e w' ⟨rfl, rfl⟩))
            go_roundg (l.length - (kk + 1))
            case measure => omega
            case rel => exact ⟨kk + 1, by omega, by omega, by go_num, aside HB1.out, aside HGD.out⟩
      · have hltz : ¬ (kk : Int) < (l.length : Int) := by omega
        obtain rfl : kk = l.length := by omega
        obtain rfl : E = 0 := by rw [← HE.out]; exact toks_each (by omega) (eachErr_none Al.out)
        go_wp2_with fail
        go_ret
        exact ⟨rfl, BW.out⟩

end Go.Proofs.YtjaladhdnbhliaaGreatDoor
