/- Tokens as texts: token.Show, and the reference's TokensText. -/
import Derived.Test.YthedfpcdibhfpaaDoorTokTxt
import Derived.Handy
namespace Go.Proofs.YthedfpcdibhfpaaDoor
open Go.RowKit Go.Shelf

theorem spaces_any (v : Value) (l : List ByteArray) (F : Foot) (w : World) (hF : ∀ k, F k → k < w.heap.size) (hv : SliceOf StrR 1 16 w F v l) (hl : (spaced l).size ≤ 140737488355328) :
    Calls Tryd.prog 49 #[v, .string ⟨#[32]⟩] w fun e w' => e = .returned (.string (spaced l)) ∧ Below w.heap.size w w' := by
  obtain ⟨A, cap, rfl, h1, h2, h3, h3', h4⟩ := hv
  cases l with
  | nil => exact (Tryd.strings_Join_none A cap ⟨#[32]⟩ w).mono fun e w' ⟨he, hw⟩ => ⟨he, hw ▸ Below.refl _ _⟩
  | cons x r =>
    obtain ⟨b, off, rfl, hb, hx⟩ := h4 (by simp)
    refine (Tryd.strings_Join b off cap (x :: r) ⟨#[32]⟩ w (fun j y hj => ?_) (hF _ hb) h3' h1 ?_).mono fun e w' ⟨he, hw⟩ => ⟨he, hw⟩
    · obtain ⟨cs, hc, ⟨rfl, _⟩, hcell⟩ := hx j y hj
      have := hcell 0 _ rfl
      simpa using this
    · rw [ba_size, spaced, ba_of] at hl; exact hl

theorem toksR_bad {l : List Token} {z : Int} (h : toksErr l = z) (h0 : z ≠ 0) : toksR l = (⟨#[]⟩, z) := by subst h; unfold toksR; rw [if_neg h0]
theorem toksR_fine {l : List Token} (h : toksErr l = 0) : toksR l = (spaced (l.map tokTxt), 0) := by unfold toksR; rw [if_pos h]
theorem tokTxt_quote {t : Token} (h : t.kind = 3) : tokTxt t = ⟨#[34]⟩ ++ t.text ++ ⟨#[34]⟩ := by unfold tokTxt; rw [if_pos h]
theorem tokTxt_other {t : Token} (h : t.kind ≠ 3) : tokTxt t = t.text := by unfold tokTxt; rw [if_neg h]

set_option maxRecDepth 100000 in
set_option maxHeartbeats 4000000 in
theorem tokShow_any (l : List Token) (v : Value) (F : Foot) (w : World) (mx : Int) (hF : ∀ k, F k → k < w.heap.size) (hl : SliceOf TokenR 2 24 w F v l) (hT : Tabs w mx) :
    Calls Tryd.prog 16 #[v] w fun e w' => e = .returned (.tuple #[.string (toksR l).1, .int .i64 (toksR l).2]) ∧ Below w.heap.size w w' := by
  have hck := tokCheck_any l v F w mx hF hl hT
  obtain ⟨A, cap, rfl, hlc, hcm, hl2, hl3⟩ := hl.form
  unfold maxLen at hcm
  obtain ⟨z, hz⟩ : ∃ z, toksErr l = z := ⟨_, rfl⟩
  rw [hz] at hck
  obtain ⟨E, hE⟩ : ∃ z, toksR l = z := ⟨_, rfl⟩
  rw [hE]
  have HL := Lib.hid hl; have HC := Lib.hid hck; have HZ := Lib.hid hz; have HE := Lib.hid hE
  clear hl hck hz hE
  clear hT
  go_enter Tryd.func16, Tryd.ntmps16
  go_wp2_with fail
  refine HC.out.mono ?_
  rintro e W2 ⟨rfl, hb2⟩
  have HB := Lib.hid hb2
  clear hb2
  by_cases h0 : z = 0
  case neg =>
    have hzb : (z == 0) = false := by simp [h0]
    have hzn : (z != 0) = true := by simp [h0]
    obtain rfl : E = (⟨#[]⟩, z) := by rw [← HE.out]; exact toksR_bad HZ.out h0
    go_wp2_with fail
    go_ret2
    exact ⟨rfl, HB.out⟩
  case pos =>
  subst h0
  obtain ⟨h200, hall⟩ := toks_fine HZ.out
  have hjs := toksTxt_small HZ.out l.length
  rw [List.take_of_length_le (by simp)] at hjs
  obtain ⟨J, hJ⟩ : ∃ z, spaced (l.map tokTxt) = z := ⟨_, rfl⟩
  rw [hJ] at hjs
  obtain rfl : E = (J, 0) := by rw [← HE.out, ← hJ]; exact toksR_fine HZ.out
  have HALL := Lib.hid hall; have HJ := Lib.hid hJ
  clear hall hJ
  go_wp2_with fail
  go_loopg [5, 7, 8, 16] l.length (fun gg s5 s7 s8 s16 wr => ∃ (kk c : Nat) (B : Option Addr) (L : List ByteArray), kk ≤ l.length ∧ l.length - kk ≤ gg ∧ s16 = .int .i64 kk ∧ s5 = .slice B L.length c ∧ Aside (L = (l.map tokTxt).take kk) ∧
    Aside (Owns StrR 1 9 W2.heap.size wr none_ (.slice B L.length c) L) ∧ Aside (Below W2.heap.size W2 wr))
  case atStart => exact ⟨0, 0, none, [], Nat.zero_le _, by omega, rfl, rfl, aside rfl, aside Owns.nil_, aside (Below.refl _ _)⟩
  case round =>
    obtain ⟨kk, c, B, L, hkk, hg, rfl, rfl, hL, hO, BW⟩ := hrel
    have hbw := below_step HB.out BW.out
    have hLl : L.length = kk := by rw [hL.out]; simp; omega
    by_cases hlt : kk < l.length
    · have hltz : (kk : Int) < (l.length : Int) := by omega
      obtain ⟨b1, off, cs, rfl, hbF, hcs, ⟨rfl, hki, htx⟩, hcell⟩ := (HL.out.up TokenR.stays hF hbw).at_ hlt
      have hc0 := hcell 0 _ rfl
      have hc1 := hcell 1 _ rfl
      simp only [Nat.add_zero] at hc0
      have hy := List.getElem?_eq_getElem hlt
      have hye := HALL.out _ (List.getElem_mem hlt)
      generalize l[kk] = t at *
      have hmx2 : (l.map tokTxt)[kk]? = some (tokTxt t) := by rw [List.getElem?_map, hy]; rfl
      have hts := tok_small hye
      have htt := tokTxt_small hye
      have htk := take_snoc hmx2
      have hbl := foot_up hF hbw _ hbF
      have hq := fun h => tokTxt_quote (t := t) h
      have hn := fun h => tokTxt_other (t := t) h
      obtain ⟨T, hT⟩ : ∃ z, tokTxt t = z := ⟨_, rfl⟩
      rw [hT] at htt htk hq hn
      have hoT : okS T := by unfold okS; omega
      have HLl := Lib.hid hLl; have HTK := Lib.hid htk; have HQ := Lib.hid hq; have HN := Lib.hid hn
      clear hLl htk hq hn
      clear hy hye hcell hcs hbw hmx2 hT
      go_upto_region 8 with fail
      have hBb := Box.made wr 68 #[.int .i64 t.kind, .string t.text]
      have hbb : Below wr.heap.size wr (wr.alloc (.cells #[.int .i64 t.kind, .string t.text] 68)) := by go_grown
      have hzb : (wr.alloc (.cells #[.int .i64 t.kind, .string t.text] 68)).heap.size = wr.heap.size + 1 := by simp
      generalize wr.alloc (.cells #[.int .i64 t.kind, .string t.text] 68) = W3 at hBb hbb hzb ⊢
      have x0 := hBb.at_ 0 _ rfl
      have x1 := hBb.at_ 1 _ rfl
      have hO3 := hO.out.below StrR.stays hbb
      have hb3 := BW.out.trans (hbb.mono BW.out.size)
      have HO3 := Lib.hid hO3; have HB3 := Lib.hid hb3
      clear hO3 hb3
      clear hBb hbb hzb hc0 hc1
      have s1 : ¬ 9223372036854775807 < 1 + t.text.size := by omega
      have s2 : ¬ 9223372036854775807 < 1 + t.text.size + 1 := by omega
      by_cases hk3 : t.kind = 3
      · have hTq := HQ.out hk3
        have hkz : (t.kind == 3) = true := by simp [hk3]
        subst hTq
        clear hk3
        go_wp2_with (at_builtin; go_must ((refine wpList_push StrR.stays (.string ⟨#[]⟩) [.string ((⟨#[34]⟩ : ByteArray) ++ t.text ++ (⟨#[34]⟩ : ByteArray))] ((⟨#[34]⟩ : ByteArray) ++ t.text ++ (⟨#[34]⟩ : ByteArray)) rfl rfl Tryd.underlying22 (bytes := 16) (by kernel_rfl) HO3.out rfl rfl (by decide) rfl rfl (show StrR W3 none_ _ _ from ⟨rfl, hoT⟩) (StrR.one (w := W3) (F := none_) _ _ ⟨rfl, hoT⟩) (fun k hk => hk.elim) (by unfold maxLen; have := HLl.out; omega) (by have := HLl.out; omega) HB3.out.size ?_); (intro A6 c6 W7 hO6 hgr _; have hb6 := HB3.out.trans (hgr.below (B := W2.heap.size) (Nat.le_refl _) HB3.out.size); have HO6 := Lib.hid hO6; have HB6 := Lib.hid hb6; clear hO6 hgr hb6)))
        go_roundg (l.length - (kk + 1))
        case measure => omega
        case rel =>
          refine ⟨kk + 1, c6, A6, L ++ [⟨#[34]⟩ ++ t.text ++ ⟨#[34]⟩], by omega, by omega, by go_num, by simp, aside (by rw [HTK.out, hL.out]), aside ?_, aside HB6.out⟩
          have h := Owns.wider StrR.stays HO6.out (F' := none_) (fun k hk => hk.elim id id) (fun k hk => hk.elim)
          simpa using h
      · have hTn := HN.out hk3
        have hkz : (t.kind == 3) = false := by simp [hk3]
        subst hTn
        go_wp2_with (at_builtin; go_must ((refine wpList_push StrR.stays (.string ⟨#[]⟩) [.string t.text] t.text rfl rfl Tryd.underlying22 (bytes := 16) (by kernel_rfl) HO3.out rfl rfl (by decide) rfl rfl (show StrR W3 none_ _ _ from ⟨rfl, hoT⟩) (StrR.one (w := W3) (F := none_) _ _ ⟨rfl, hoT⟩) (fun k hk => hk.elim) (by unfold maxLen; have := HLl.out; omega) (by have := HLl.out; omega) HB3.out.size ?_); (intro A6 c6 W7 hO6 hgr _; have hb6 := HB3.out.trans (hgr.below (B := W2.heap.size) (Nat.le_refl _) HB3.out.size); have HO6 := Lib.hid hO6; have HB6 := Lib.hid hb6; clear hO6 hgr hb6)))
        go_roundg (l.length - (kk + 1))
        case measure => omega
        case rel =>
          refine ⟨kk + 1, c6, A6, L ++ [t.text], by omega, by omega, by go_num, by simp, aside (by rw [HTK.out, hL.out]), aside ?_, aside HB6.out⟩
          have h := Owns.wider StrR.stays HO6.out (F' := none_) (fun k hk => hk.elim id id) (fun k hk => hk.elim)
          simpa using h
    · have hltz : ¬ (kk : Int) < (l.length : Int) := by omega
      obtain rfl : kk = l.length := by omega
      obtain ⟨W7, rfl⟩ : ∃ W, W = wr := ⟨_, rfl⟩
      have hsl := hO.out.slice StrR.stays (by_ := 16) (F' := old W7.heap.size) (fun k hk => hk.elim) (fun k h1 h2 => h2) (by omega) (by omega)
      have hLJ : spaced L = J := by rw [hL.out, List.take_of_length_le (by simp)]; exact HJ.out
      have hjo := spaces_any _ L _ W7 old_lt hsl (by rw [hLJ]; omega)
      rw [hLJ] at hjo
      have HJO := Lib.hid hjo; have HBW := Lib.hid hbw; have HLl := Lib.hid hLl
      clear hjo hbw hLl
      clear hsl hLJ hO hL
      go_wp2_with fail
      refine HJO.out.mono ?_
      rintro e W8 ⟨rfl, hb8⟩
      have hbx := below_step HBW.out hb8
      have HBX := Lib.hid hbx
      clear hbx
      clear hb8
      go_wp2_with fail
      go_ret2
      exact ⟨rfl, HBX.out⟩

set_option maxRecDepth 100000 in
set_option maxHeartbeats 4000000 in
theorem toksText_any (l : List Token) (v : Value) (F : Foot) (w : World) (hF : ∀ k, F k → k < w.heap.size) (hl : SliceOf TokenR 2 24 w F v l) :
    Calls Tryd.prog 17 #[v] w fun e w' => e = .returned (.tuple #[.string (toksR l).1, .int .i64 (toksR l).2]) ∧ Below w.heap.size w w' := by
  have hck := toksFault_any l v F w hF hl
  obtain ⟨A, cap, rfl, hlc, hcm, hl2, hl3⟩ := hl.form
  unfold maxLen at hcm
  obtain ⟨z, hz⟩ : ∃ z, toksErr l = z := ⟨_, rfl⟩
  rw [hz] at hck
  obtain ⟨E, hE⟩ : ∃ z, toksR l = z := ⟨_, rfl⟩
  rw [hE]
  have HL := Lib.hid hl; have HC := Lib.hid hck; have HZ := Lib.hid hz; have HE := Lib.hid hE
  clear hl hck hz hE
  go_enter Tryd.func17, Tryd.ntmps17
  go_wp2_with fail
  refine HC.out.mono ?_
  rintro e W2 ⟨rfl, hb2⟩
  have HB := Lib.hid hb2
  clear hb2
  by_cases h0 : z = 0
  case neg =>
    have hzb : (z == 0) = false := by simp [h0]
    have hzn : (z != 0) = true := by simp [h0]
    obtain rfl : E = (⟨#[]⟩, z) := by rw [← HE.out]; exact toksR_bad HZ.out h0
    go_wp2_with fail
    go_ret2
    exact ⟨rfl, HB.out⟩
  case pos =>
  subst h0
  obtain ⟨h200, hall⟩ := toks_fine HZ.out
  have hjs := toksTxt_small HZ.out
  obtain ⟨JE, hJE⟩ : ∃ z, spaced (l.map tokTxt) = z := ⟨_, rfl⟩
  obtain rfl : E = (JE, 0) := by rw [← HE.out, ← hJE]; exact toksR_fine HZ.out
  have HALL := Lib.hid hall; have HJS := Lib.hid hjs; have HJE := Lib.hid hJE
  clear hall hjs hJE
  go_wp2_with fail
  go_loopg [5, 6] l.length (fun gg s5 s6 wr => ∃ kk : Nat, kk ≤ l.length ∧ l.length - kk ≤ gg ∧ s6 = .int .i64 kk ∧ s5 = .string (spaced ((l.map tokTxt).take kk)) ∧ wr = W2)
  case atStart => exact ⟨0, Nat.zero_le _, by omega, rfl, rfl, rfl⟩
  case round =>
    obtain ⟨kk, hkk, hg, rfl, rfl, rfl⟩ := hrel
    by_cases hlt : kk < l.length
    · have hltz : (kk : Int) < (l.length : Int) := by omega
      obtain ⟨b1, off, cs, rfl, hbF, hcs, ⟨rfl, hki, htx⟩, hcell⟩ := (HL.out.up TokenR.stays hF HB.out).at_ hlt
      have hc0 := hcell 0 _ rfl
      have hc1 := hcell 1 _ rfl
      simp only [Nat.add_zero] at hc0
      have hy := List.getElem?_eq_getElem hlt
      have hye := HALL.out _ (List.getElem_mem hlt)
      generalize l[kk] = t at *
      have hmx2 : (l.map tokTxt)[kk]? = some (tokTxt t) := by rw [List.getElem?_map, hy]; rfl
      have hts := tok_small hye
      have hjk := HJS.out kk
      have hq := fun h => tokTxt_quote (t := t) h
      have hn := fun h => tokTxt_other (t := t) h
      obtain ⟨T, hT⟩ : ∃ z, tokTxt t = z := ⟨_, rfl⟩
      rw [hT] at hmx2 hq hn
      obtain ⟨J, hJ⟩ : ∃ z, spaced ((l.map tokTxt).take kk) = z := ⟨_, rfl⟩
      rw [hJ] at hjk
      rw [hJ]
      have hjf : kk = 0 → J ++ T = spaced ((l.map tokTxt).take (kk + 1)) := fun h => by subst h; rw [← hJ, show spaced ((l.map tokTxt).take 0) = ⟨#[]⟩ from rfl, ba_nil_app, spaced_first hmx2]
      have hjn : 0 < kk → J ++ ⟨#[32]⟩ ++ T = spaced ((l.map tokTxt).take (kk + 1)) := fun h => by rw [spaced_take hmx2 h, hJ]
      obtain ⟨N, hN⟩ : ∃ z, spaced ((l.map tokTxt).take (kk + 1)) = z := ⟨_, rfl⟩
      rw [hN] at hjf hjn
      have HQ := Lib.hid hq; have HN := Lib.hid hn; have HJF := Lib.hid hjf; have HJN := Lib.hid hjn; have HNN := Lib.hid hN
      clear hq hn hjf hjn hN
      clear hy hye hcell hcs hmx2 hT hJ
      have s1 : ¬ 9223372036854775807 < J.size + 1 := by omega
      have s2 : ¬ 9223372036854775807 < J.size + t.text.size := by omega
      have s3 : ¬ 9223372036854775807 < J.size + 1 + t.text.size := by omega
      have s4 : ¬ 9223372036854775807 < J.size + 1 + 1 := by omega
      have s5 : ¬ 9223372036854775807 < J.size + 1 + 1 + t.text.size := by omega
      have s6 : ¬ 9223372036854775807 < J.size + 1 + t.text.size + 1 := by omega
      have s7 : ¬ 9223372036854775807 < J.size + 1 + 1 + t.text.size + 1 := by omega
      by_cases hk3 : t.kind = 3
      · have hTq := HQ.out hk3
        have hkz : (t.kind == 3) = true := by simp [hk3]
        subst hTq
        clear hk3
        by_cases hk0 : kk = 0
        · subst hk0
          have hN2 := HJF.out rfl
          have H2 := Lib.hid hN2
          clear hN2
          simp only [Nat.zero_mul, Nat.add_zero] at hc0
          go_wp2_with fail
          go_roundg (l.length - (0 + 1))
          case measure => omega
          case rel => exact ⟨0 + 1, by omega, by omega, by go_num, by rw [HNN.out, ← H2.out]; simp only [ba_assoc], rfl⟩
        · have hN2 := HJN.out (by omega)
          have h0z : (0 : Int) < (kk : Int) := by omega
          have H2 := Lib.hid hN2
          clear hN2
          go_wp2_with fail
          go_roundg (l.length - (kk + 1))
          case measure => omega
          case rel => exact ⟨kk + 1, by omega, by omega, by go_num, by rw [HNN.out, ← H2.out]; simp only [ba_assoc], rfl⟩
      · have hTn := HN.out hk3
        have hkz : (t.kind == 3) = false := by simp [hk3]
        subst hTn
        by_cases hk0 : kk = 0
        · subst hk0
          have hN2 := HJF.out rfl
          have H2 := Lib.hid hN2
          clear hN2
          simp only [Nat.zero_mul, Nat.add_zero] at hc0 hc1
          go_wp2_with fail
          go_roundg (l.length - (0 + 1))
          case measure => omega
          case rel => exact ⟨0 + 1, by omega, by omega, by go_num, by rw [HNN.out, ← H2.out], rfl⟩
        · have hN2 := HJN.out (by omega)
          have h0z : (0 : Int) < (kk : Int) := by omega
          have H2 := Lib.hid hN2
          clear hN2
          go_wp2_with fail
          go_roundg (l.length - (kk + 1))
          case measure => omega
          case rel => exact ⟨kk + 1, by omega, by omega, by go_num, by rw [HNN.out, ← H2.out], rfl⟩
    · have hltz : ¬ (kk : Int) < (l.length : Int) := by omega
      obtain rfl : kk = l.length := by omega
      rw [List.take_of_length_le (by simp), HJE.out]
      go_wp2_with fail
      go_ret2
      exact ⟨rfl, HB.out⟩

end Go.Proofs.YthedfpcdibhfpaaDoor
