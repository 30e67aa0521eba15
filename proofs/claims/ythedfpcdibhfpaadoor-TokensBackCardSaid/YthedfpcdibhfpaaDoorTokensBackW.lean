/- The law TokensBack: its walk. -/
import Derived.Test.YthedfpcdibhfpaaDoorBackPlain
import Derived.Test.YthedfpcdibhfpaaDoorPicked
import Derived.Test.YthedfpcdibhfpaaDoorTokShow
import Derived.Test.YthedfpcdibhfpaaDoorTokEq
namespace Go.Proofs.YthedfpcdibhfpaaDoor
open Go.ChangeShapes Go.WideShapes Go.ChangeAt Go.RowKit

theorem repeat_any (c : UInt8) (k : Nat) (w : World) (hk : k ≤ 140737488355328) : Calls Tryd.prog 31 #[.string ⟨#[c]⟩, .int .i64 k] w fun e w' => e = .returned (.string (lit (List.replicate k c))) ∧ Below w.heap.size w w' :=
  (Tryd.strings_Repeat ⟨#[c]⟩ k w (by omega) (by show 1 * k ≤ _; omega)).mono fun e w' ⟨he, hw⟩ => ⟨by rw [he, show (⟨#[c]⟩ : ByteArray).data.toList = [c] from rfl, repeat_one]; rfl, hw⟩
theorem three_code : (cutR ⟨#[97, 44, 32, 98]⟩).2 = 0 ∧ (cutR ⟨#[97, 44, 32, 98]⟩).1.length = 3 := by decide +kernel

set_option maxRecDepth 100000 in
set_option maxHeartbeats 8000000 in
theorem tokensBack_calls (s : ByteArray) (n : Int) (mx : Int) (w : World) (hs : s.size ≤ 140737488355328) (hn : I64 n) (hT : Tabs w mx) :
    Calls Tryd.prog 9 #[.string s, .int .i64 n] w fun e w' => e = .returned (.bool true) ∧ Below w.heap.size w w' := by
  have hp : ∀ U, Calls Tryd.prog 32 #[.int .i64 n, .int .i64 9] U fun e w' => e = .returned (.int .i64 (pickN n 9)) ∧ U = w' := fun U => picked_any n 9 (by decide) hn U
  have hp1 := pickN_lt n (many := 9) (by decide)
  generalize pickN n 9 = p at hp hp1
  have hcut := fun (x : ByteArray) U (hU : Below w.heap.size w U) => tokCut_any x U mx (hT.later hU)
  have hsh := fun (l : List Token) (v : Value) U (hU : Below w.heap.size w U) (hl : SliceOf TokenR 2 24 U (old U.heap.size) v l) => tokShow_any l v _ U mx old_lt hl (hT.later hU)
  have hck := fun (l : List Token) (v : Value) U (hU : Below w.heap.size w U) (hl : SliceOf TokenR 2 24 U (old U.heap.size) v l) => tokCheck_any l v _ U mx old_lt hl (hT.later hU)
  have hc1 := hcut s w (Below.refl _ _)
  have hbad := cutR_bad (s := s)
  obtain ⟨⟨L, z⟩, hE⟩ : ∃ E, cutR s = E := ⟨_, rfl⟩
  rw [hE] at hc1 hbad
  dsimp only at hbad
  have HP := Lib.hid hp; have HCUT := Lib.hid hcut; have HSH := Lib.hid hsh; have HCK := Lib.hid hck; have HC1 := Lib.hid hc1; have HBAD := Lib.hid hbad; have HE := Lib.hid hE
  clear hp hcut hsh hck hc1 hbad hE
  clear hT
  go_enter Tryd.func9, Tryd.ntmps9
  go_wp2_with fail
  refine HC1.out.mono ?_
  rintro e W1 ⟨v1, rfl, hb1, hs1⟩
  dsimp only at hs1
  obtain ⟨A1, c1, rfl, _, _, hl1, _⟩ := hs1.form
  have hs1 := hs1.stays TokenR.stays (F' := old W1.heap.size) (fun k hk => hk.2) (Keeps.refl _ _)
  dsimp only
  by_cases hz : z = 0
  case neg =>
    have hzb : (z == 0) = false := by simp [hz]
    have hL := HBAD.out hz
    subst hL
    have HB1 := Lib.hid hb1
    clear hb1
    clear hs1
    go_wp2_with fail
    go_ret
    exact ⟨rfl, HB1.out⟩
  case pos =>
  subst hz
  have hss := cutR_some HE.out
  have hsh := HSH.out L _ W1 hb1 hs1
  rw [toksR_fine (cutR_toks HE.out)] at hsh
  dsimp only at hsh
  obtain ⟨T, hTT⟩ : ∃ z, spaced (L.map tokTxt) = z := ⟨_, rfl⟩
  have hTs := toksTxt_small (cutR_toks HE.out) L.length
  rw [List.take_of_length_le (by simp), hTT] at hTs
  rw [hTT] at hsh
  have HSH1 := Lib.hid hsh; have HB1 := Lib.hid hb1; have HS1 := Lib.hid hs1; have HTT := Lib.hid hTT; have HSS := Lib.hid hss
  clear hsh hb1 hs1 hTT hss
  clear HSH
  go_wp2_with fail
  refine HSH1.out.mono ?_
  rintro e W2 ⟨rfl, hb2⟩
  have hs2 := now_lup TokenR.stays HS1.out hb2
  have hbw2 := below_step HB1.out hb2
  have hc2 := HCUT.out T W2 hbw2
  have HB2 := Lib.hid hbw2; have HS2 := Lib.hid hs2; have HC2 := Lib.hid hc2
  clear hbw2 hs2 hc2
  clear hb2
  go_wp2_with fail
  refine HC2.out.mono ?_
  rintro e W3 ⟨v3, rfl, hb3, hs3⟩
  obtain ⟨A3, c3, rfl, _⟩ := hs3.form
  have hs3 := hs3.stays TokenR.stays (F' := old W3.heap.size) (fun k hk => hk.2) (Keeps.refl _ _)
  have hs13 := now_lup TokenR.stays HS2.out hb3
  have hbw3 := below_step HB2.out hb3
  have hrp := fun U => repeat_any 32 p U (by omega)
  obtain ⟨B, hB⟩ : ∃ z, lit (List.replicate p 32) = z := ⟨_, rfl⟩
  have hBs : B.size ≤ 8 := by rw [← hB, lit_size, List.length_replicate]; omega
  rw [hB] at hrp
  have s1 : ¬ 9223372036854775807 < B.size + s.size := by omega
  have s2 : ¬ 140737488355328 < B.size + s.size := by have := HSS.out.1; omega
  have hc4 := fun U (hU : Below w.heap.size w U) => HCUT.out (B ++ s) U hU
  have HB3 := Lib.hid hbw3; have HS3 := Lib.hid hs3; have HS13 := Lib.hid hs13; have HRP := Lib.hid hrp; have HC4 := Lib.hid hc4; have HBB := Lib.hid hB
  clear hbw3 hs3 hs13 hrp hc4 hB
  clear hb3
  go_wp2_with (first
    | (go_at_call 32; (with_reducible refine (HP.out _).mono ?_); rintro e w' ⟨rfl, rfl⟩)
    | (go_at_call 31; (with_reducible refine (HRP.out _).mono ?_); rintro e W4 ⟨rfl, hb4⟩; have hs14 := now_lup TokenR.stays HS13.out hb4; have hs34 := now_lup TokenR.stays HS3.out hb4; have hb4 := below_step HB3.out hb4; have HB4 := Lib.hid hb4; have HS14 := Lib.hid hs14; have HS34 := Lib.hid hs34; clear hb4 hs14 hs34))
  refine (HC4.out _ HB4.out).mono ?_
  rintro e W5 ⟨v5, rfl, hb5, hs5⟩
  obtain ⟨A5, c5, rfl, _⟩ := hs5.form
  have hs5 := hs5.stays TokenR.stays (F' := old W5.heap.size) (fun k hk => hk.2) (Keeps.refl _ _)
  have hs15 := now_lup TokenR.stays HS14.out hb5
  have hs35 := now_lup TokenR.stays HS34.out hb5
  have hbw5 := below_step HB4.out hb5
  have hsz0 : (0 : Int) ≤ (s.size : Int) := by omega
  by_cases h15 : 1500 < s.size + 8
  · have h15z : (1500 : Int) < (s.size : Int) + 8 := by omega
    have HB5 := Lib.hid hbw5
    clear hbw5
    clear hs5 hs15 hs35 hb5
    go_wp2_with fail
    go_ret
    exact ⟨rfl, HB5.out⟩
  have h15z : ¬ (1500 : Int) < (s.size : Int) + 8 := by omega
  by_cases hT15 : 1500 < T.size
  · have hTz : (1500 : Int) < (T.size : Int) := by omega
    have HB5 := Lib.hid hbw5
    clear hbw5
    clear hs5 hs15 hs35 hb5
    go_wp2_with fail
    go_ret
    exact ⟨rfl, HB5.out⟩
  have hTz : ¬ (1500 : Int) < (T.size : Int) := by omega
  have e3 : cutR T = (L, 0) := by rw [← HTT.out]; exact cutR_back HE.out (by rw [HTT.out]; omega)
  have e5 : cutR (B ++ s) = (L, 0) := cutR_wide (k := p) HE.out (by rw [ba_app, ← HBB.out, lit_list]) (by rw [ba_app_size]; omega)
  rw [e3] at hs35
  rw [e5] at hs5
  rw [e3, e5]
  dsimp only at hs35 hs5
  dsimp only
  have hc6 := HCUT.out ⟨#[97, 44, 32, 98]⟩ W5 hbw5
  obtain ⟨h30, h33⟩ := three_code
  obtain ⟨⟨L3, z3⟩, hE3⟩ : ∃ E, cutR ⟨#[97, 44, 32, 98]⟩ = E := ⟨_, rfl⟩
  rw [hE3] at hc6 h30 h33
  dsimp only at h30 h33
  subst h30
  have HB5 := Lib.hid hbw5; have HS5 := Lib.hid hs5; have HS15 := Lib.hid hs15; have HS35 := Lib.hid hs35; have HC6 := Lib.hid hc6; have H33 := Lib.hid h33
  clear hbw5 hs5 hs15 hs35 hc6 h33
  clear hb5 e3 e5 hE3
  go_wp2_with fail
  refine HC6.out.mono ?_
  rintro e W6 ⟨v6, rfl, hb6, hs6⟩
  obtain ⟨A6, c6, rfl, _⟩ := hs6.form
  have hs16 := now_lup TokenR.stays HS15.out hb6
  have hs36 := now_lup TokenR.stays HS35.out hb6
  have hs56 := now_lup TokenR.stays HS5.out hb6
  have hbw6 := below_step HB5.out hb6
  have h3z : ((L3.length : Int) == 3) = true := by have := H33.out; simp; omega
  have heq1 := equal_tokens _ _ L L (old W6.heap.size) (old W6.heap.size) W6 old_lt old_lt hs16 hs36
  have heq2 := fun U (hU : Below W6.heap.size W6 U) => equal_tokens _ _ L L (old U.heap.size) (old U.heap.size) U old_lt old_lt (now_lup TokenR.stays hs16 hU) (now_lup TokenR.stays hs56 hU)
  have hck := fun U (hU : Below W6.heap.size W6 U) => HCK.out L _ U (below_step hbw6 hU) (now_lup TokenR.stays hs16 hU)
  rw [listEq_refl tokEq_refl L] at heq1 heq2
  rw [cutR_toks HE.out] at hck
  dsimp only
  have HEQ1 := Lib.hid heq1; have HEQ2 := Lib.hid heq2; have HCK6 := Lib.hid hck; have HB6 := Lib.hid hbw6
  clear heq1 heq2 hck hbw6
  clear hs6 hs16 hs36 hs56 hb6
  go_wp2_with fail
  refine HEQ1.out.mono ?_
  rintro e W7 ⟨rfl, hb7⟩
  have HB7 := Lib.hid hb7
  clear hb7
  go_wp2_with fail
  refine (HEQ2.out _ HB7.out).mono ?_
  rintro e W8 ⟨rfl, hb8⟩
  have hb8 := below_step HB7.out hb8
  have HB8 := Lib.hid hb8
  clear hb8
  go_wp2_with fail
  refine (HCK6.out _ HB8.out).mono ?_
  rintro e W9 ⟨rfl, hb9⟩
  have hb9 := below_step HB6.out (below_step HB8.out hb9)
  have HB9 := Lib.hid hb9
  clear hb9
  go_wp2_with fail
  go_ret
  exact ⟨rfl, HB9.out⟩

end Go.Proofs.YthedfpcdibhfpaaDoor
