/- A text is read as a module: tree.Read. -/
import Derived.Test.YtjaladhdnbhliaaGreatDoorParse
import Derived.Test.YtjaladhdnbhliaaGreatDoorTreeChk4
namespace Go.Proofs.YtjaladhdnbhliaaGreatDoor
open Go.RowKit Go.Shelf

/-- What a call that reads a module gives. -/
def ReadGave (E : Module × Int) (w : World) (e : Ending) (w' : World) : Prop := ∃ v1 v2 v3, e = .returned (.tuple #[.agg #[v1, v2, v3], .int .i64 E.2]) ∧ Below w.heap.size w w' ∧ ModuleR w' (fresh w.heap.size w'.heap.size) [v1, v2, v3] E.1
/-- The same, and the names that it uses in a row of its own. -/
def ReadGaveO (E : Module × Int) (w : World) (e : Ending) (w' : World) : Prop := ∃ v1 v2 v3, e = .returned (.tuple #[.agg #[v1, v2, v3], .int .i64 E.2]) ∧ Below w.heap.size w w' ∧ ModuleR w' (fresh w.heap.size w'.heap.size) [v1, v2, v3] E.1 ∧ OwnU w.heap.size w' v1 E.1
theorem noMod_own (w : World) (B : Nat) : OwnU B w (.slice none 0 0) noMod := Owns.nil_
theorem noMod_row (w : World) (F : Foot) : ModuleR w F [.slice none 0 0, .slice none 0 0, .slice none 0 0] noMod := ⟨_, _, _, rfl, SliceOf.nil_, SliceOf.nil_, SliceOf.nil_⟩

set_option maxRecDepth 100000 in
set_option maxHeartbeats 4000000 in
theorem treeReadO_any (s : ByteArray) (W0 : World) (mx : Int) (hT : Tabs W0 mx) : Calls Tryz.prog 12 #[.string s] W0 (ReadGaveO (readR s) W0) := by
  obtain ⟨E, hE⟩ : ∃ E, readR s = E := ⟨_, rfl⟩
  rw [hE]
  by_cases h15 : 1500 < s.size
  · have h15z : (1500 : Int) < (s.size : Int) := by omega
    obtain rfl : E = (noMod, 1) := by rw [← hE, read_long h15]
    clear hE
    go_enter Tryz.func12, Tryz.ntmps12
    go_upto_region 1 with fail
    have hBr := Box.made W0 27 #[.slice none 0 0, .slice none 0 0, .slice none 0 0]
    have hbr : Below W0.heap.size W0 (W0.alloc (.cells #[.slice none 0 0, .slice none 0 0, .slice none 0 0] 27)) := by go_grown
    have hzr : (W0.alloc (.cells #[.slice none 0 0, .slice none 0 0, .slice none 0 0] 27)).heap.size = W0.heap.size + 1 := by simp
    generalize W0.alloc (.cells #[.slice none 0 0, .slice none 0 0, .slice none 0 0] 27) = W1 at hBr hbr hzr ⊢
    have x0 := hBr.at_ 0 _ rfl
    have x1 := hBr.at_ 1 _ rfl
    have x2 := hBr.at_ 2 _ rfl
    have g0 := hBr.free 0
    have g1 := hBr.free 1
    have g2 := hBr.free 2
    have Hb := Lib.hid hbr
    clear hbr
    clear hBr hzr
    go_wp2_with fail
    refine bodyPost_ret (v := .tuple #[.agg #[.slice none 0 0, .slice none 0 0, .slice none 0 0], .int .i64 1]) (by simp [results, Tryz.results12, go_sem, x0, x1, x2]) rfl ?_
    exact ⟨_, _, _, rfl, ((Hb.out.setCell (Nat.le_refl _) _).setCell (Nat.le_refl _) _).setCell (Nat.le_refl _) _, noMod_row _ _, noMod_own _ _⟩
  have h15z : ¬ (1500 : Int) < (s.size : Int) := by omega
  have hpa := fun U (hU : Below W0.heap.size W0 U) => parse_any s U mx (by omega) (hT.later hU)
  have HE := Lib.hid hE; have HPA := Lib.hid hpa; have HS := Lib.hid h15
  clear hE hpa h15
  go_enter Tryz.func12, Tryz.ntmps12
  go_upto_region 1 with fail
  have hBr := Box.made W0 27 #[.slice none 0 0, .slice none 0 0, .slice none 0 0]
  have hbr : Below W0.heap.size W0 (W0.alloc (.cells #[.slice none 0 0, .slice none 0 0, .slice none 0 0] 27)) := by go_grown
  have hzr : (W0.alloc (.cells #[.slice none 0 0, .slice none 0 0, .slice none 0 0] 27)).heap.size = W0.heap.size + 1 := by simp
  generalize W0.alloc (.cells #[.slice none 0 0, .slice none 0 0, .slice none 0 0] 27) = W1 at hBr hbr hzr ⊢
  have HB1 := Lib.hid hBr; have Hb := Lib.hid hbr
  clear hBr hbr
  clear hzr
  go_wp2_with fail
  refine (HPA.out W1 Hb.out).mono ?_
  rintro e W2 ⟨v1, v2, v3, k, rfl, hb2, hc⟩
  have hB2 := HB1.out.later hb2 HB1.out.lt
  have hbw2 := Hb.out.trans (hb2.mono Hb.out.size)
  have hs2 := hb2.size
  have hs1 := Hb.out.size
  have hrl := HB1.out.lt
  rcases hc with ⟨m, hp, rfl, hm, hou⟩ | ⟨hp, hk, U, n, c, T, p, d, X, q, e, rfl, rfl, rfl⟩
  · obtain ⟨U1, u1, T1, e1, T2, e2, hcs, _⟩ := ModuleR.form hm
    simp only [List.cons.injEq, and_true] at hcs
    obtain ⟨rfl, rfl, rfl⟩ := hcs
    have HM := Lib.hid hm; have HP := Lib.hid hp; have HB2 := Lib.hid hB2; have HBW := Lib.hid hbw2; have HOU := Lib.hid hou
    clear hm hp hB2 hbw2 hou
    clear hb2 HPA HB1
    go_upto_region 4 with fail
    have hBm := Box.made W2 27 #[.slice U1 m.uses.length u1, .slice T1 m.types.length e1, .slice T2 m.funcs.length e2]
    have hbm : Below W2.heap.size W2 (W2.alloc (.cells #[.slice U1 m.uses.length u1, .slice T1 m.types.length e1, .slice T2 m.funcs.length e2] 27)) := by go_grown
    have hzm : (W2.alloc (.cells #[.slice U1 m.uses.length u1, .slice T1 m.types.length e1, .slice T2 m.funcs.length e2] 27)).heap.size = W2.heap.size + 1 := by simp
    generalize W2.alloc (.cells #[.slice U1 m.uses.length u1, .slice T1 m.types.length e1, .slice T2 m.funcs.length e2] 27) = W3 at hBm hbm hzm ⊢
    have hbw3 := HBW.out.trans (hbm.mono HBW.out.size)
    have hB3 := HB2.out.later hbm HB2.out.lt
    have hM3 := ModuleR.stays.later HM.out hbm fresh_lt
    have hO3 := Owns.below StrR.stays HOU.out hbm
    have hBl := HB2.out.lt
    have hck := treeCheck_any m _ (fresh W1.heap.size W2.heap.size) W3 (fun k hk => by have := hk.2; have := hbm.size; omega) hM3
    have hs3 := hbm.size
    obtain ⟨z, hz⟩ : ∃ z, modErr m = z := ⟨_, rfl⟩
    rw [hz] at hck
    have x0 := hBm.at_ 0 _ rfl
    have x1 := hBm.at_ 1 _ rfl
    have x2 := hBm.at_ 2 _ rfl
    have hml := hBm.lt
    have hmr : W2.heap.size ≠ W0.heap.size := by omega
    have HB3 := Lib.hid hB3; have HBW3 := Lib.hid hbw3; have HM3 := Lib.hid hM3; have HO3 := Lib.hid hO3; have HCK := Lib.hid hck; have HZ := Lib.hid hz; have HBM := Lib.hid hBm
    clear hB3 hbw3 hM3 hO3 hck hz hBm
    clear hbm hzm HB2 HBW HM
    go_wp2_with fail
    refine HCK.out.mono ?_
    rintro e W4 ⟨rfl, hb4⟩
    have hB4 := HB3.out.later hb4 HB3.out.lt
    have hM4b := HBM.out.later hb4 HBM.out.lt
    have hM4 := ModuleR.stays.later HM3.out hb4 (fun k hk => by have := hk.2; omega)
    have hO4 := Owns.below StrR.stays HO3.out hb4
    have hbw4 := HBW3.out.trans (hb4.mono HBW3.out.size)
    have hs4 := hb4.size
    clear x0 x1 x2
    have x0 := hM4b.at_ 0 _ rfl
    have x1 := hM4b.at_ 1 _ rfl
    have x2 := hM4b.at_ 2 _ rfl
    have r0 := hB4.at_ 0 _ rfl
    have r1 := hB4.at_ 1 _ rfl
    have r2 := hB4.at_ 2 _ rfl
    have g0 := hB4.free 0
    have g1 := hB4.free 1
    have g2 := hB4.free 2
    have HBW4 := Lib.hid hbw4; have HM4 := Lib.hid hM4; have HO4 := Lib.hid hO4
    clear hbw4 hM4 hO4
    clear hb4 hB4 hM4b HB3 HBM HM3 HCK HBW3
    by_cases hz0 : z = 0
    · subst hz0
      have hx : E = (m, 0) := by rw [← HE.out, read_ok (by have := HS.out; omega) HP.out HZ.out]
      subst hx
      go_wp2_with fail
      refine bodyPost_ret (v := .tuple #[.agg #[.slice U1 m.uses.length u1, .slice T1 m.types.length e1, .slice T2 m.funcs.length e2], .int .i64 0]) (by simp [results, Tryz.results12, go_sem, r0, r1, r2]) rfl ?_
      refine ⟨_, _, _, rfl, ((HBW4.out.setCell (Nat.le_refl _) _).setCell (Nat.le_refl _) _).setCell (Nat.le_refl _) _, ?_, ?_⟩
      rotate_left
      · exact (((HO4.out.set StrR.stays (p := ⟨W0.heap.size, 0, none⟩) (show W0.heap.size < _ by omega) (fun k hk => hk.elim) _).set StrR.stays (p := ⟨W0.heap.size, 1, none⟩) (show W0.heap.size < _ by omega) (fun k hk => hk.elim) _).set StrR.stays (p := ⟨W0.heap.size, 2, none⟩) (show W0.heap.size < _ by omega) (fun k hk => hk.elim) _).low (by omega)
      have hnr : ¬ fresh W1.heap.size W2.heap.size W0.heap.size := fun h => by have := h.1; omega
      refine ModuleR.stays _ _ _ _ _ _ HM4.out ?_ ((((Keeps.refl _ _).setCell hnr _).setCell hnr _).setCell hnr _)
      simp only [size_set]
      exact fresh_up (by omega) (by omega)
    · have hz1 : (z == 0) = false := by simp [hz0]
      have hz2 : (z != 0) = true := by simp [hz0]
      have hx : E = (noMod, z) := by rw [← HE.out, read_fault (by have := HS.out; omega) HP.out (by rw [HZ.out]; exact hz0), HZ.out]
      subst hx
      clear hz0
      go_wp2_with fail
      refine bodyPost_ret (v := .tuple #[.agg #[.slice none 0 0, .slice none 0 0, .slice none 0 0], .int .i64 z]) (by simp [results, Tryz.results12, go_sem, r0, r1, r2]) rfl ?_
      exact ⟨_, _, _, rfl, ((HBW4.out.setCell (Nat.le_refl _) _).setCell (Nat.le_refl _) _).setCell (Nat.le_refl _) _, noMod_row _ _, noMod_own _ _⟩
  · have hx : E = (noMod, k) := by rw [← HE.out, read_bad (by have := HS.out; omega) hp]
    have hk1 : (k == 0) = false := by simp [hk]
    have hk2 : (k != 0) = true := by simp [hk]
    subst hx
    have HB2 := Lib.hid hB2; have HBW := Lib.hid hbw2
    clear hB2 hbw2
    clear hb2 HPA HB1 hk hp
    go_upto_region 4 with fail
    have hBm := Box.made W2 27 #[.slice U n c, .slice T p d, .slice X q e]
    have hbm : Below W2.heap.size W2 (W2.alloc (.cells #[.slice U n c, .slice T p d, .slice X q e] 27)) := by go_grown
    have hzm : (W2.alloc (.cells #[.slice U n c, .slice T p d, .slice X q e] 27)).heap.size = W2.heap.size + 1 := by simp
    generalize W2.alloc (.cells #[.slice U n c, .slice T p d, .slice X q e] 27) = W3 at hBm hbm hzm ⊢
    have hbw3 := HBW.out.trans (hbm.mono HBW.out.size)
    have hB3 := HB2.out.later hbm HB2.out.lt
    have r0 := hB3.at_ 0 _ rfl
    have r1 := hB3.at_ 1 _ rfl
    have r2 := hB3.at_ 2 _ rfl
    have g0 := hB3.free 0
    have g1 := hB3.free 1
    have g2 := hB3.free 2
    have HBW3 := Lib.hid hbw3
    clear hbw3
    clear hbm hzm hB3 hBm
    go_wp2_with fail
    refine bodyPost_ret (v := .tuple #[.agg #[.slice none 0 0, .slice none 0 0, .slice none 0 0], .int .i64 k]) (by simp [results, Tryz.results12, go_sem, r0, r1, r2]) rfl ?_
    exact ⟨_, _, _, rfl, ((HBW3.out.setCell (Nat.le_refl _) _).setCell (Nat.le_refl _) _).setCell (Nat.le_refl _) _, noMod_row _ _, noMod_own _ _⟩

theorem treeRead_any (s : ByteArray) (W0 : World) (mx : Int) (hT : Tabs W0 mx) : Calls Tryz.prog 12 #[.string s] W0 (ReadGave (readR s) W0) :=
  (treeReadO_any s W0 mx hT).mono fun _ _ ⟨v1, v2, v3, h1, h2, h3, _⟩ => ⟨v1, v2, v3, h1, h2, h3⟩

end Go.Proofs.YtjaladhdnbhliaaGreatDoor
