/- The law Names: its walk. -/
import Derived.Test.YtamkgphamffdcaaInts
import Derived.Handy
namespace Go.Proofs.Ytamkgphamffdcaa
open Go.ChangeShapes Go.WideShapes Go.ChangeAt Go.RowKit
open Go.ChangeMaps (open_string)

def nameErrs : List Int := [0, 1, 2, 3, 4, 5, 6, 7, 8, 9]
def nameA : List Int := [8, 20, 999999, 200, 1500, 24, 10, 600, 8, 10, 60000, 200]
def nameB : List Int := [1, 2, 3, 4, 1, 2, 3, 4, 1, 2, 3, 4, 5, 6, 7]
def nameC : List Int := [1, 2, 3, 4, 5, 6, 7, 8, 1, 2, 3, 4, 5, 6]

set_option maxRecDepth 100000 in
set_option maxHeartbeats 4000000 in
theorem names_calls (W : World) :
    Calls Try.prog 3 #[] W fun e w' => e = .returned (.bool true) ∧ Below W.heap.size W w' := by
  go_enter Try.func3, Try.ntmps3
  go_upto_region 2 with fail
  have hBe := Box.made W 22 #[.int .i64 0, .int .i64 1, .int .i64 2, .int .i64 3, .int .i64 4, .int .i64 5, .int .i64 6, .int .i64 7, .int .i64 8, .int .i64 9]
  have hbe : Below W.heap.size W (W.alloc (.cells #[.int .i64 0, .int .i64 1, .int .i64 2, .int .i64 3, .int .i64 4, .int .i64 5, .int .i64 6, .int .i64 7, .int .i64 8, .int .i64 9] 22)) := by go_grown
  have hze : (W.alloc (.cells #[.int .i64 0, .int .i64 1, .int .i64 2, .int .i64 3, .int .i64 4, .int .i64 5, .int .i64 6, .int .i64 7, .int .i64 8, .int .i64 9] 22)).heap.size = W.heap.size + 1 := by simp
  generalize W.alloc (.cells #[.int .i64 0, .int .i64 1, .int .i64 2, .int .i64 3, .int .i64 4, .int .i64 5, .int .i64 6, .int .i64 7, .int .i64 8, .int .i64 9] 22) = W1 at hBe hbe hze ⊢
  have hE := ints_built (base := W.heap.size) (l := nameErrs) hBe (Nat.le_refl _) (by unfold maxLen; decide)
  have hEs := sliceOf_own (by_ := 8) (F := fun k => k < W1.heap.size) hE rfl (ints_rows W1 _ nameErrs) (fun g hg => (hE.lt g hg).2) (by decide) (by decide)
  have HES := Lib.hid hEs; have HBE := Lib.hid hbe
  clear hEs hbe
  clear hE hBe hze
  go_wp2_with fail
  go_loopg [2] 10 (fun gg s2 wr => ∃ kk : Nat, kk ≤ 10 ∧ 10 - kk ≤ gg ∧ s2 = .int .i64 kk ∧ W1 = wr)
  case atStart => exact ⟨0, Nat.zero_le _, by omega, rfl, rfl⟩
  case round =>
    obtain ⟨kk, hkk, hg, rfl, rfl⟩ := hrel
    by_cases hlt : kk < 10
    · have hltz : (kk : Int) < 10 := by omega
      obtain ⟨b1, off, cs, e1, hbF, hcs, hR, hcell⟩ := HES.out.at_ (k := kk) hlt
      injection e1 with e1
      injection e1 with e1 e2 _
      subst e1; subst e2
      have hR' : cs = [.int .i64 (kk : Int)] := by
        rw [show cs = _ from hR]
        have : ∀ k : Nat, (h : k < 10) → nameErrs[k]'h = (k : Int) := by decide
        rw [this kk hlt]
      subst hR'
      have hc0 := hcell 0 _ rfl
      simp only [Nat.mul_one, Nat.add_zero] at hc0
      simp only [Nat.zero_add] at hc0
      clear hcell hcs hR
      go_wp2_with fail
      go_roundg (10 - (kk + 1))
      case measure => omega
      case rel => exact ⟨kk + 1, by omega, by omega, by go_num, rfl⟩
    · obtain rfl : kk = 10 := by omega
      go_upto_region 9 with fail
      have hBn1 := ((Box.made W1 3 #[.int .i64 8, .int .i64 20, .int .i64 999999, .int .i64 200, .int .i64 1500, .int .i64 24, .int .i64 10, .int .i64 600, .int .i64 8, .int .i64 10, .int .i64 60000, .int .i64 200]).alloc (.cells #[.int .i64 8, .int .i64 20, .int .i64 999999, .int .i64 200, .int .i64 1500, .int .i64 24, .int .i64 10, .int .i64 600, .int .i64 8, .int .i64 10, .int .i64 60000, .int .i64 200] 3))
      have hBn2 := (Box.made (W1.alloc (.cells #[.int .i64 8, .int .i64 20, .int .i64 999999, .int .i64 200, .int .i64 1500, .int .i64 24, .int .i64 10, .int .i64 600, .int .i64 8, .int .i64 10, .int .i64 60000, .int .i64 200] 3)) 3 #[.int .i64 8, .int .i64 20, .int .i64 999999, .int .i64 200, .int .i64 1500, .int .i64 24, .int .i64 10, .int .i64 600, .int .i64 8, .int .i64 10, .int .i64 60000, .int .i64 200])
      rw [show (W1.alloc (.cells #[.int .i64 8, .int .i64 20, .int .i64 999999, .int .i64 200, .int .i64 1500, .int .i64 24, .int .i64 10, .int .i64 600, .int .i64 8, .int .i64 10, .int .i64 60000, .int .i64 200] 3)).heap.size = W1.heap.size + 1 by simp only [World.size_alloc]] at hBn2
      have hbn : Below W1.heap.size W1 ((W1.alloc (.cells #[.int .i64 8, .int .i64 20, .int .i64 999999, .int .i64 200, .int .i64 1500, .int .i64 24, .int .i64 10, .int .i64 600, .int .i64 8, .int .i64 10, .int .i64 60000, .int .i64 200] 3)).alloc (.cells #[.int .i64 8, .int .i64 20, .int .i64 999999, .int .i64 200, .int .i64 1500, .int .i64 24, .int .i64 10, .int .i64 600, .int .i64 8, .int .i64 10, .int .i64 60000, .int .i64 200] 3)) := by go_grown
      have hzn : ((W1.alloc (.cells #[.int .i64 8, .int .i64 20, .int .i64 999999, .int .i64 200, .int .i64 1500, .int .i64 24, .int .i64 10, .int .i64 600, .int .i64 8, .int .i64 10, .int .i64 60000, .int .i64 200] 3)).alloc (.cells #[.int .i64 8, .int .i64 20, .int .i64 999999, .int .i64 200, .int .i64 1500, .int .i64 24, .int .i64 10, .int .i64 600, .int .i64 8, .int .i64 10, .int .i64 60000, .int .i64 200] 3)).heap.size = W1.heap.size + 1 + 1 := by simp only [World.size_alloc]
      generalize (W1.alloc (.cells #[.int .i64 8, .int .i64 20, .int .i64 999999, .int .i64 200, .int .i64 1500, .int .i64 24, .int .i64 10, .int .i64 600, .int .i64 8, .int .i64 10, .int .i64 60000, .int .i64 200] 3)).alloc (.cells #[.int .i64 8, .int .i64 20, .int .i64 999999, .int .i64 200, .int .i64 1500, .int .i64 24, .int .i64 10, .int .i64 600, .int .i64 8, .int .i64 10, .int .i64 60000, .int .i64 200] 3) = W2 at hBn1 hBn2 hbn hzn ⊢
      have hA := ints_built (base := W.heap.size) (l := nameA) hBn1 HBE.out.size (by unfold maxLen; decide)
      have hB := ints_built (base := W.heap.size) (l := nameA) hBn2 (by have := HBE.out.size; omega) (by unfold maxLen; decide)
      have hb2 := HBE.out.trans (hbn.mono HBE.out.size)
      have hab : ∀ k, (Value.slice (some ⟨W1.heap.size + 1, 0, none⟩) 12 12).ownBlock = some k → some k ≠ (Value.slice (some ⟨W1.heap.size, 0, none⟩) 12 12).ownBlock := by
        intro k hk; simp [Value.ownBlock] at hk ⊢; omega
      have HA := Lib.hid hA; have HB := Lib.hid hB; have HB2 := Lib.hid hb2; have HAB := Lib.hid hab
      clear hA hB hb2 hab
      clear hBn1 hBn2 hbn hzn
      go_wp2_with (at_builtin; refine wpList_ints (base := W.heap.size) (e := 3) (bytes := 8) (l := nameA) (m := nameB) 27 rfl rfl rfl Try.underlying24 (by kernel_rfl) HA.out rfl rfl (by decide) (by unfold maxLen; decide) (by decide) HB2.out.size ?_)
      intro A1 c1 w1 hA1 hg1 hl1
      have hB1 := ints_kept HB.out hg1 HAB.out
      have hb3 := HB2.out.trans (hg1.below (Nat.le_refl _) HB2.out.size)
      have hab1 : ∀ k, (Value.slice A1 27 c1).ownBlock = some k → some k ≠ (Value.slice (some ⟨W1.heap.size + 1, 0, none⟩) 12 12).ownBlock := by
        intro k hk
        have h2 := (HB.out.lt (W1.heap.size + 1) rfl).2
        rcases hl1 with hl1 | ⟨g, hl1, hg⟩
        · have : (Value.slice A1 27 c1).ownBlock = _ := hl1
          rw [this] at hk
          intro e
          simp [Value.ownBlock] at hk e
          omega
        · have : (Value.slice A1 27 c1).ownBlock = some g := hl1
          rw [this] at hk
          injection hk with hk
          simp [Value.ownBlock]; omega
      have HA1 := Lib.hid hA1; have HB1 := Lib.hid hB1; have HB3 := Lib.hid hb3; have HAB1 := Lib.hid hab1
      clear hA1 hB1 hb3 hab1
      clear hg1 hl1
      go_wp2_with (at_builtin; refine wpList_ints (base := W.heap.size) (e := 3) (bytes := 8) (l := nameA) (m := nameB) 27 rfl rfl rfl Try.underlying24 (by kernel_rfl) HB1.out rfl rfl (by decide) (by unfold maxLen; decide) (by decide) HB3.out.size ?_)
      intro A2 c2 w2 hB2 hg2 hl2
      have hA2 := ints_kept HA1.out hg2 HAB1.out
      have hb4 := HB3.out.trans (hg2.below (Nat.le_refl _) HB3.out.size)
      have hab2 : ∀ k, (Value.slice A2 27 c2).ownBlock = some k → some k ≠ (Value.slice A1 27 c1).ownBlock := by
        intro k hk e
        have h2 := (HA1.out.lt k e.symm).2
        rcases hl2 with hl2 | ⟨g, hl2, hg⟩
        · have : (Value.slice A2 27 c2).ownBlock = _ := hl2
          rw [this] at hk
          exact HAB1.out k e.symm hk.symm
        · have : (Value.slice A2 27 c2).ownBlock = some g := hl2
          rw [this] at hk
          injection hk with hk
          omega
      have HA2 := Lib.hid hA2; have HB2' := Lib.hid hB2; have HB4 := Lib.hid hb4; have HAB2 := Lib.hid hab2
      clear hA2 hB2 hb4 hab2
      clear hg2 hl2
      go_wp2_with (at_builtin; refine wpList_ints (base := W.heap.size) (e := 3) (bytes := 8) (l := nameA ++ nameB) (m := nameC) 41 rfl rfl rfl Try.underlying24 (by kernel_rfl) HA2.out rfl rfl (by decide) (by unfold maxLen; decide) (by decide) HB4.out.size ?_)
      intro A3 c3 w3 hA3 hg3 hl3
      have hB3 := ints_kept HB2'.out hg3 HAB2.out
      have hb5 := HB4.out.trans (hg3.below (Nat.le_refl _) HB4.out.size)
      have hab3 : ∀ k, (Value.slice A3 41 c3).ownBlock = some k → some k ≠ (Value.slice A2 27 c2).ownBlock := by
        intro k hk e
        have h2 := (HB2'.out.lt k e.symm).2
        rcases hl3 with hl3 | ⟨g, hl3, hg⟩
        · have : (Value.slice A3 41 c3).ownBlock = _ := hl3
          rw [this] at hk
          exact HAB2.out k e.symm hk.symm
        · have : (Value.slice A3 41 c3).ownBlock = some g := hl3
          rw [this] at hk
          injection hk with hk
          omega
      have HA3 := Lib.hid hA3; have HB3' := Lib.hid hB3; have HB5 := Lib.hid hb5; have HAB3 := Lib.hid hab3
      clear hA3 hB3 hb5 hab3
      clear hg3 hl3
      go_wp2_with (at_builtin; refine wpList_ints (base := W.heap.size) (e := 3) (bytes := 8) (l := nameA ++ nameB) (m := nameC) 41 rfl rfl rfl Try.underlying24 (by kernel_rfl) HB3'.out rfl rfl (by decide) (by unfold maxLen; decide) (by decide) HB5.out.size ?_)
      intro A4 c4 w4 hB4 hg4 hl4
      have hA4 := ints_kept HA3.out hg4 HAB3.out
      have hb6 := HB5.out.trans (hg4.below (Nat.le_refl _) HB5.out.size)
      have hSA := sliceOf_own (by_ := 8) (F := fun k => k < w4.heap.size) hA4 (l := nameA ++ nameB ++ nameC) rfl (ints_rows w4 _ _) (fun g hg => (hA4.lt g hg).2) (by decide) (by decide)
      have hSB := sliceOf_own (by_ := 8) (F := fun k => k < w4.heap.size) hB4 (l := nameA ++ nameB ++ nameC) rfl (ints_rows w4 _ _) (fun g hg => (hB4.lt g hg).2) (by decide) (by decide)
      have HSA := Lib.hid hSA; have HSB := Lib.hid hSB; have HB6 := Lib.hid hb6
      clear hSA hSB hb6
      clear hg4 hl4 hA4 hB4
      go_wp2_with fail
      go_loopg [5] 41 (fun gg s5 wr => ∃ kk : Nat, kk ≤ 41 ∧ 41 - kk ≤ gg ∧ s5 = .int .i64 kk ∧ Aside (Below w4.heap.size w4 wr))
      case atStart => exact ⟨0, Nat.zero_le _, by omega, rfl, aside (Below.refl _ _)⟩
      case round =>
        obtain ⟨kk, hkk, hg, rfl, BW⟩ := hrel
        by_cases hlt : kk < 41
        · have hltz : (kk : Int) < 41 := by omega
          obtain ⟨b1, off, cs, rfl, hbF, hcs, hR, hcell⟩ := (HSA.out.stays IntC.stays (fun _ h => h) (Keeps.of_below BW.out (fun _ h => h))).at_ (k := kk) hlt
          obtain ⟨b2, off2, cs2, rfl, hbF2, hcs2, hR2, hcell2⟩ := (HSB.out.stays IntC.stays (fun _ h => h) (Keeps.of_below BW.out (fun _ h => h))).at_ (k := kk) hlt
          have hR' : cs = _ := hR
          have hR2' : cs2 = _ := hR2
          generalize (nameA ++ nameB ++ nameC)[kk] = x at *
          subst hR'; subst hR2'
          have hc0 := hcell 0 _ rfl
          simp only [Nat.mul_one, Nat.add_zero] at hc0
          have hd0 := hcell2 0 _ rfl
          simp only [Nat.mul_one, Nat.add_zero] at hd0
          clear hcell hcell2 hcs hcs2 hR hR2
          go_wp2_with fail
          go_quiet (fail)
          go_wp2_with fail
          go_roundg (41 - (kk + 1))
          case measure => omega
          case rel => exact ⟨kk + 1, by omega, by omega, by go_num, aside (below_drewN BW.out _)⟩
        · obtain rfl : kk = 41 := by omega
          go_wp2_with fail
          go_ret
          exact ⟨rfl, HB6.out.trans (BW.out.mono HB6.out.size)⟩

end Go.Proofs.Ytamkgphamffdcaa
