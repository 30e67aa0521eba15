/- The reference's reader of bytes: (*ear).str. -/
import Derived.Test.YtoejhgbndehaiaaEar
namespace Go.Proofs.Ytoejhgbndehaiaa
open Go.RowKit Go.Shelf

theorem num_off {s : ByteArray} {i : Nat} {e : Int} (h : e ≠ 0) : numTells s i e = 0 ∧ numAt s i e = i ∧ numErr s i e = e := by
  refine ⟨?_, ?_, ?_⟩
  · unfold numTells; rw [dif_neg (by simp [h])]
  · unfold numAt; rw [if_neg (by simp [h])]
  · unfold numErr; rw [if_neg (by simp [h])]
theorem num_on {s : ByteArray} {i : Nat} (h : i < s.size) : numTells s i 0 = (s.data[i]'h).toNat ∧ numAt s i 0 = i + 1 ∧ numErr s i 0 = 0 := by
  refine ⟨?_, ?_, ?_⟩
  · unfold numTells; rw [dif_pos ⟨rfl, h⟩]
  · unfold numAt; rw [if_pos ⟨rfl, h⟩]
  · unfold numErr; rw [if_neg (by omega)]

theorem num_off_any (b : Nat) (s : ByteArray) (i : Nat) (e : Int) (w : World) (hs : s.size ≤ 60000) (hi : i ≤ s.size) (he : e ≠ 0) (hB : Ear w b s i e) :
    Calls Try.prog 38 #[.pointer (some ⟨b, 0, none⟩)] w fun en w' => en = .returned (.int .i64 0) ∧ Ear w' b s i e ∧ Grew b w w' (some b) := by
  have h := num_any b s i e w hs hi hB
  obtain ⟨h1, h2, h3⟩ := num_off (s := s) (i := i) he
  rw [h1, h2, h3] at h
  exact h
theorem num_on_any (b : Nat) (s : ByteArray) (i : Nat) (w : World) (hs : s.size ≤ 60000) (hi : i < s.size) (hB : Ear w b s i 0) :
    Calls Try.prog 38 #[.pointer (some ⟨b, 0, none⟩)] w fun en w' => en = .returned (.int .i64 ((s.data[i]'hi).toNat : Nat)) ∧ Ear w' b s (i + 1) 0 ∧ Grew b w w' (some b) := by
  have h := num_any b s i 0 w hs (by omega) hB
  obtain ⟨h1, h2, h3⟩ := num_on hi
  rw [h1, h2, h3] at h
  exact h

set_option maxRecDepth 100000 in
set_option maxHeartbeats 4000000 in
theorem str_any (b : Nat) (s : ByteArray) (i : Nat) (e : Int) (w : World) (hs : s.size ≤ 60000) (hi : i ≤ s.size) (hei : I64 e) (hB : Ear w b s i e) :
    Calls Try.prog 37 #[.pointer (some ⟨b, 0, none⟩)] w fun en w' => ∃ x : ByteArray, okS x ∧ en = .returned (.string x) ∧ EarTo b rdStr s i e x w w' := by
  have x0 := hB.at_ 0 _ rfl
  have x1 := hB.at_ 1 _ rfl
  have x2 := hB.at_ 2 _ rfl
  have g0 := hB.free 0
  have g1 := hB.free 1
  have g2 := hB.free 2
  by_cases he : e = 0
  · subst he
    by_cases h2 : s.size < i + 2
    · have hn := fun U hU => num_off_any b s i 5 U hs hi (by decide) hU
      have hz : (i : Int) + 2 > (s.size : Int) := by omega
      have hz2 : (s.size : Int) < (i : Int) + 2 := by omega
      have hB5 : Box (w.setCell ⟨b, 2, none⟩ (.int .i64 5)) b 90 #[.string s, .int .i64 i, .int .i64 5] := by simpa using hB.put 2 (.int .i64 5)
      have hR := str_short h2
      have HN := Lib.hid hn; have HB5 := Lib.hid hB5; have HR := Lib.hid hR
      clear hn hB5 hR
      clear h2 hB
      go_enter Try.func37, Try.ntmps37
      go_wp2_with fail
      go_quiet (fail)
      go_wp2_with fail
      refine (HN.out _ ?_).mono ?_
      · exact HB5.out
      rintro en w2 ⟨rfl, hE2, hg2⟩
      have hg2 := ((Grew.cell_ (b := b) (w.drewN _) 2 (.int .i64 5)).drewN_).trans_ hg2
      have HE2 := Lib.hid hE2; have HG2 := Lib.hid hg2
      clear hE2 hg2
      go_wp2_with fail
      refine (HN.out _ HE2.out).mono ?_
      rintro en w3 ⟨rfl, hE3, hg3⟩
      have hg3 := HG2.out.trans_ hg3
      clear x0 x1 x2 g0 g1 g2
      have x0 := hE3.at_ 0 _ rfl
      have x1 := hE3.at_ 1 _ rfl
      have x2 := hE3.at_ 2 _ rfl
      have HE3 := Lib.hid hE3; have HG3 := Lib.hid hg3
      clear hE3 hg3
      go_wp2_with fail
      go_quiet (fail)
      go_wp2_with fail
      go_ret
      exact ⟨⟨#[]⟩, Nat.zero_le _, rfl, i, 5, HE3.out, HG3.out.endN, hi, ⟨by decide, by decide⟩, .inr (.inl ⟨rfl, HR.out, by decide⟩)⟩
    · have hi1 : i < s.size := by omega
      have hi2 : i + 1 < s.size := by omega
      have hn1 := fun U hU => num_on_any b s i U hs hi1 hU
      have hn2 := fun U hU => num_on_any b s (i + 1) U hs hi2 hU
      have hl := fun n hn => str_long (s := s) (i := i) (n := n) (Nat.le_of_not_lt h2) hn
      have hf := fun n hn => str_fine (s := s) (i := i) (n := n) (Nat.le_of_not_lt h2) hn
      have ha := (s.data[i]'hi1).toNat_lt
      have hc := (s.data[i + 1]'hi2).toNat_lt
      generalize (s.data[i]'hi1).toNat = a at *
      generalize (s.data[i + 1]'hi2).toNat = c at *
      obtain ⟨n, hn⟩ : ∃ n, n = a * 256 + c := ⟨_, rfl⟩
      have hlong := hl n hn
      have hfine := hf n hn
      have hz : ¬ (i : Int) + 2 > (s.size : Int) := by omega
      have hz2 : (i : Int) + 2 ≤ (s.size : Int) := by omega
      have HN1 := Lib.hid hn1; have HN2 := Lib.hid hn2; have HL := Lib.hid hlong; have HF := Lib.hid hfine; have HB0 := Lib.hid hB
      clear hn1 hn2 hlong hfine hB
      clear hl hf
      go_enter Try.func37, Try.ntmps37
      go_wp2_with fail
      go_quiet (fail)
      go_wp2_with fail
      refine (HN1.out _ ?_).mono ?_
      · exact HB0.out.drewN _
      rintro en w2 ⟨rfl, hE2, hg2⟩
      have hg2 := hg2.drewN_
      have HE2 := Lib.hid hE2; have HG2 := Lib.hid hg2
      clear hE2 hg2
      go_wp2_with fail
      refine (HN2.out _ HE2.out).mono ?_
      rintro en w3 ⟨rfl, hE3, hg3⟩
      have hg3 := HG2.out.trans_ hg3
      clear x0 x1 x2 g0 g1 g2
      have hnb : n ≤ 65535 := by omega
      obtain ⟨j, hj⟩ : ∃ j, i + 2 = j := ⟨_, rfl⟩
      have hjs : j ≤ s.size := by omega
      rw [show i + 1 + 1 = j from hj] at hE3
      rw [hj] at HL HF
      have x0 := hE3.at_ 0 _ rfl
      have x1 := hE3.at_ 1 _ rfl
      have x2 := hE3.at_ 2 _ rfl
      have g0 := hE3.free 0
      have g1 := hE3.free 1
      have g2 := hE3.free 2
      have HE3 := Lib.hid hE3; have HG3 := Lib.hid hg3; have HNE := Lib.hid hn; have HJ := Lib.hid hj
      clear hE3 hg3 hn hj
      clear hg2 hz hz2 h2 hi1 hi2 hi
      by_cases hl : s.size < j + n
      · have hz : (j : Int) + (256 * (a : Int) + (c : Int)) > (s.size : Int) := by have := HNE.out; omega
        have hz2 : (s.size : Int) < (j : Int) + (256 * (a : Int) + (c : Int)) := by have := HNE.out; omega
        have hB5 : Box (w3.setCell ⟨b, 2, none⟩ (.int .i64 5)) b 90 #[.string s, .int .i64 j, .int .i64 5] := by simpa using HE3.out.put 2 (.int .i64 5)
        have hR := HL.out hl
        have HB5 := Lib.hid hB5; have HR := Lib.hid hR
        clear hB5 hR
        clear hl
        go_wp2_with fail
        go_quiet (fail)
        go_wp2_with fail
        go_ret
        exact ⟨⟨#[]⟩, Nat.zero_le _, rfl, j, 5, HB5.out, (HG3.out.endN).trans_ (Grew.cell_ _ _ _), hjs, ⟨by decide, by decide⟩, .inr (.inl ⟨rfl, HR.out, by decide⟩)⟩
      · have hz : ¬ (j : Int) + (256 * (a : Int) + (c : Int)) > (s.size : Int) := by have := HNE.out; omega
        have hz2 : (j : Int) + (256 * (a : Int) + (c : Int)) ≤ (s.size : Int) := by have := HNE.out; omega
        have hnn : (j : Int) + (n : Int) = (j : Int) + (256 * (a : Int) + (c : Int)) := by have := HNE.out; omega
        have hB5 : Box (w3.setCell ⟨b, 1, none⟩ (.int .i64 ((j : Int) + (256 * (a : Int) + (c : Int))))) b 90 #[.string s, .int .i64 ((j + n : Nat) : Int), .int .i64 0] := by
          rw [← hnn]; simpa using HE3.out.put 1 (.int .i64 ((j : Int) + (n : Int)))
        have hR := HF.out (by omega)
        have hk : (s.extract j (j + n)).size ≤ s.size := by rw [ByteArray.size_extract]; omega
        have HB5 := Lib.hid hB5; have HR := Lib.hid hR; have HK := Lib.hid hk; have HNN := Lib.hid hnn
        clear hB5 hR hk hnn
        go_wp2_with fail
        go_quiet (fail)
        go_wp2_with fail
        go_quiet (fail)
        go_wp2_with fail
        go_ret
        have hne := HNE.out
        exact ⟨s.extract j (j + n), by have := HK.out; unfold okS; omega, ret_str (by rw [show 256 * a + c = n by omega]), j + n, 0, HB5.out, ((HG3.out.endN).trans_ (Grew.cell_ _ _ _)).endN, by omega, hei, .inl ⟨rfl, HR.out, rfl⟩⟩
  · have hn := fun U hU => num_off_any b s i e U hs hi he hU
    have hez : (e == 0) = false := by simp [he]
    have hez2 : (e != 0) = true := by simp [he]
    have HN := Lib.hid hn; have HB0 := Lib.hid hB
    clear hn hB
    go_enter Try.func37, Try.ntmps37
    go_wp2_with fail
    go_quiet (fail)
    go_wp2_with fail
    refine (HN.out _ ?_).mono ?_
    · exact HB0.out.drewN _
    rintro en w2 ⟨rfl, hE2, hg2⟩
    have hg2 := hg2.drewN_
    have HE2 := Lib.hid hE2; have HG2 := Lib.hid hg2
    clear hE2 hg2
    go_wp2_with fail
    refine (HN.out _ HE2.out).mono ?_
    rintro en w3 ⟨rfl, hE3, hg3⟩
    have hg3 := HG2.out.trans_ hg3
    clear x0 x1 x2 g0 g1 g2
    have x0 := hE3.at_ 0 _ rfl
    have x1 := hE3.at_ 1 _ rfl
    have x2 := hE3.at_ 2 _ rfl
    have HE3 := Lib.hid hE3; have HG3 := Lib.hid hg3
    clear hE3 hg3
    go_wp2_with fail
    go_quiet (fail)
    go_wp2_with fail
    go_ret
    exact ⟨⟨#[]⟩, Nat.zero_le _, rfl, i, e, HE3.out, HG3.out.endN, hi, hei, .inr (.inr ⟨he, rfl⟩)⟩

end Go.Proofs.Ytoejhgbndehaiaa
