/- The law AliasSolves: its walk. -/
import Derived.Test.YtejiaimcgmpliaaSolvedOf
import Derived.Handy
namespace Go.Proofs.Ytejiaimcgmpliaa
open Go.ChangeShapes Go.WideShapes Go.ChangeAt Go.RowKit
open Go.ChangeMaps (open_string)

set_option maxRecDepth 100000 in
set_option maxHeartbeats 8000000 in
theorem aliasSolves_calls (cs : List Value) (m : Module) (v : Value) (l : List Import) (s : ByteArray) (at_ : Int) (W : World) (hm : ModuleR W (old W.heap.size) cs m) (hl : SliceOf ImportR 4 72 W (old W.heap.size) v l) (hs : s.size ≤ 140737488355328) (_hat : I64 at_) :
    Calls Try.prog 4 #[.agg cs.toArray, v, .string s, .int .i64 at_] W fun e w' => e = .returned (.bool true) ∧ Below W.heap.size W w' := by
  have hmy := fun U (hU : Below W.heap.size W U) => may_any m l cs v (old U.heap.size) (old U.heap.size) U old_lt old_lt (now_up ModuleR.stays hm hU) (now_lup ImportR.stays hl hU)
  have hnm := fun U => nameMay_any s U hs
  obtain ⟨U1, u1, T1, e1, T2, e2, rfl, _, hT, _⟩ := ModuleR.form hm
  obtain ⟨L1, l1, rfl, _⟩ := hl.form
  obtain ⟨z, hz⟩ : ∃ z, mayB m l = z := ⟨_, rfl⟩
  rw [hz] at hmy
  obtain ⟨zn, hzn⟩ : ∃ z, nameOk s = z := ⟨_, rfl⟩
  rw [hzn] at hnm
  obtain ⟨q, hq⟩ : ∃ q, decide (z = false ∨ (s.size ≠ 0 ∧ zn = false) ∨ at_ < 0 ∨ (m.types.length : Int) ≤ at_) = q := ⟨_, rfl⟩
  have HMY := Lib.hid hmy; have HNM := Lib.hid hnm; have HZ := Lib.hid hz; have HM := Lib.hid hm; have HL := Lib.hid hl; have HQ := Lib.hid hq; have HT := Lib.hid hT; have HS0 := Lib.hid hs
  clear hmy hnm hz hm hl hq hT hs
  clear hzn
  go_enter Try.func4, Try.ntmps4
  go_upto_region 1 with fail
  have hBm := Box.made W 32 #[.slice U1 m.uses.length u1, .slice T1 m.types.length e1, .slice T2 m.funcs.length e2]
  have hbm : Below W.heap.size W (W.alloc (.cells #[.slice U1 m.uses.length u1, .slice T1 m.types.length e1, .slice T2 m.funcs.length e2] 32)) := by go_grown
  have hzm : (W.alloc (.cells #[.slice U1 m.uses.length u1, .slice T1 m.types.length e1, .slice T2 m.funcs.length e2] 32)).heap.size = W.heap.size + 1 := by simp
  generalize W.alloc (.cells #[.slice U1 m.uses.length u1, .slice T1 m.types.length e1, .slice T2 m.funcs.length e2] 32) = W1 at hBm hbm hzm ⊢
  have m0 := hBm.at_ 0 _ rfl
  have m1 := hBm.at_ 1 _ rfl
  have m2 := hBm.at_ 2 _ rfl
  have hq1 := hBm.lt
  have HB := Lib.hid hbm; have HBm := Lib.hid hBm
  clear hbm hBm
  clear hzm
  go_cut [36] (fun s36 wc => s36 = .bool q ∧ Aside (Below W1.heap.size W1 wc))
  case first =>
    go_wp2_with fail
    refine (HMY.out _ HB.out).mono ?_
    rintro e W2 ⟨rfl, hb2⟩
    have hB2 := HBm.out.later hb2 hq1
    clear m0 m1 m2 hq1
    have m0 := hB2.at_ 0 _ rfl
    have m1 := hB2.at_ 1 _ rfl
    have m2 := hB2.at_ 2 _ rfl
    have HB2 := Lib.hid hb2
    clear hb2
    clear hB2
    cases z with
    | false =>
      go_wp2_with fail
      go_meet
      exact ⟨by rw [← HQ.out]; simp, aside HB2.out⟩
    | true =>
      by_cases hs0 : s.size = 0
      · have hse : s.toList.isEmpty = true := by rw [str_isEmpty]; exact decide_eq_true hs0
        by_cases ha : at_ < 0
        · have ha' : decide (at_ < 0) = true := decide_eq_true ha
          go_wp2_with fail
          go_meet
          exact ⟨by rw [← HQ.out]; simp [ha], aside HB2.out⟩
        · by_cases hb : (m.types.length : Int) ≤ at_
          · go_wp2_with fail
            go_meet
            exact ⟨by rw [← HQ.out]; simp [hb], aside HB2.out⟩
          · go_wp2_with fail
            go_meet
            exact ⟨by rw [← HQ.out]; simp [ha, hb, hs0], aside HB2.out⟩
      · have hse : s.toList.isEmpty = false := by rw [str_isEmpty]; exact decide_eq_false hs0
        cases zn with
        | false =>
          go_wp2_with fail
          refine (HNM.out _).mono ?_
          rintro e w' ⟨rfl, rfl⟩
          go_wp2_with fail
          go_meet
          exact ⟨by rw [← HQ.out]; simp [hs0], aside HB2.out⟩
        | true =>
          go_wp2_with fail
          refine (HNM.out _).mono ?_
          rintro e w' ⟨rfl, rfl⟩
          by_cases ha : at_ < 0
          · have ha' : decide (at_ < 0) = true := decide_eq_true ha
            go_wp2_with fail
            go_meet
            exact ⟨by rw [← HQ.out]; simp [ha], aside HB2.out⟩
          · by_cases hb : (m.types.length : Int) ≤ at_
            · go_wp2_with fail
              go_meet
              exact ⟨by rw [← HQ.out]; simp [hb], aside HB2.out⟩
            · go_wp2_with fail
              go_meet
              exact ⟨by rw [← HQ.out]; simp [ha, hb], aside HB2.out⟩
  case rest =>
  obtain ⟨rfl, hb2⟩ := hcut
  obtain ⟨W2, rfl⟩ : ∃ W, W = wc := ⟨_, rfl⟩
  have hbw := HB.out.trans (hb2.out.mono HB.out.size)
  have hB2 := HBm.out.later hb2.out hq1
  clear m0 m1 m2 hq1
  have hq1 := hB2.lt
  have m0 := hB2.at_ 0 _ rfl
  have m1 := hB2.at_ 1 _ rfl
  have m2 := hB2.at_ 2 _ rfl
  have HBW := Lib.hid hbw; have HB2 := Lib.hid hB2
  clear hbw hB2
  clear hb2
  cases q with
  | true =>
    go_wp2_with fail
    go_ret
    exact ⟨rfl, HBW.out⟩
  | false =>
  obtain ⟨k, rfl⟩ : ∃ k : Nat, at_ = k := ⟨at_.toNat, by have := of_decide_eq_false HQ.out; omega⟩
  have hk : k < m.types.length := by have := of_decide_eq_false HQ.out; omega
  have hkz : (k : Int) < (m.types.length : Int) := by omega
  obtain rfl : z = true := by have h := of_decide_eq_false HQ.out; cases z <;> simp_all
  obtain ⟨hm0, hl0⟩ := may_both HZ.out
  have ht0 := mod_types hm0 m.types[k] (List.getElem_mem hk)
  obtain ⟨bt, off, cs, hT1, hbF, hcs, hfr, hcell⟩ := (now_lup FieldR.stays HT.out HBW.out).at_ (k := k) hk
  obtain ⟨y1, y2, y3, y4, rfl, _, hty⟩ := FieldR.form hfr
  obtain ⟨A2, n2, hf⟩ := TyR.form hty
  simp only [List.cons.injEq, and_true] at hf
  obtain ⟨rfl, rfl, rfl, rfl⟩ := hf
  have hc0 := hcell 0 _ rfl
  have hc1 := hcell 1 _ rfl
  have hc2 := hcell 2 _ rfl
  have hc3 := hcell 3 _ rfl
  have hc4 := hcell 4 _ rfl
  simp only [Nat.add_zero] at hc0
  subst hT1
  have hq3 : bt < W2.heap.size := hbF
  have hca := fun U (hU : Below W2.heap.size W2 U) => aliasSolve_any m l hm0 hl0 10 s m.types[k].is_ _ _ _ U ht0 (Nat.le_refl _) HS0.out (now_up ModuleR.stays HM.out (HBW.out.trans (hU.mono HBW.out.size))) (now_lup ImportR.stays HL.out (HBW.out.trans (hU.mono HBW.out.size))) (now_up TyR.stays hty hU)
  have hda := fun U (hU : Below W2.heap.size W2 U) => solvedOf_any m l hm0 hl0 10 s m.types[k].is_ _ _ _ U ht0 (Nat.le_refl _) (now_up ModuleR.stays HM.out (HBW.out.trans (hU.mono HBW.out.size))) (now_lup ImportR.stays HL.out (HBW.out.trans (hU.mono HBW.out.size))) (now_up TyR.stays hty hU)
  generalize solveOf m l s m.types[k].is_ = r at hca hda
  obtain ⟨S, C⟩ := r
  dsimp only at hca hda
  have hdr : Below W2.heap.size W2 W2.drew := by go_grown
  have HS := Lib.hid (show ∀ w', Below W2.heap.size W2 w' → (w'.cell? ⟨W.heap.size, 0, none⟩ = some (.slice U1 m.uses.length u1) ∧ w'.cell? ⟨W.heap.size, 1, none⟩ = some (.slice (some ⟨bt, off, none⟩) m.types.length e1) ∧ w'.cell? ⟨W.heap.size, 2, none⟩ = some (.slice T2 m.funcs.length e2) ∧ w'.cell? ⟨bt, off + k * 5 + 1, none⟩ = some (.int .i64 m.types[k].is_.kind) ∧ w'.cell? ⟨bt, off + k * 5 + 2, none⟩ = some (.string m.types[k].is_.of_) ∧ w'.cell? ⟨bt, off + k * 5 + 3, none⟩ = some (.string m.types[k].is_.name) ∧ w'.cell? ⟨bt, off + k * 5 + 4, none⟩ = some (.slice A2 m.types[k].is_.args.length n2)) from fun w' h => ⟨(h.cell (p := ⟨W.heap.size, 0, none⟩) hq1).trans m0, (h.cell (p := ⟨W.heap.size, 1, none⟩) hq1).trans m1, (h.cell (p := ⟨W.heap.size, 2, none⟩) hq1).trans m2, (h.cell (p := ⟨bt, off + k * 5 + 1, none⟩) hq3).trans hc1, (h.cell (p := ⟨bt, off + k * 5 + 2, none⟩) hq3).trans hc2, (h.cell (p := ⟨bt, off + k * 5 + 3, none⟩) hq3).trans hc3, (h.cell (p := ⟨bt, off + k * 5 + 4, none⟩) hq3).trans hc4⟩)
  have HCA := Lib.hid hca; have HDA := Lib.hid hda; have HBk := Lib.hid hdr; have HC0 := Lib.hid hc0
  clear hca hda hdr hc0
  clear hfr hcell hbF hcs hty ht0 hm0 hl0
  have HR := Lib.hid (Below.refl W2.heap.size W2)
  go_upto_region 3 with fail
  go_cut [9, 10] (fun s9 s10 wc => s9 = .string S ∧ s10 = .int .i64 C ∧ Aside (Below W2.heap.size W2 wc))
  case first =>
    go_region_held3 (fun w' => w'.cell? ⟨W.heap.size, 0, none⟩ = some (.slice U1 m.uses.length u1) ∧ w'.cell? ⟨W.heap.size, 1, none⟩ = some (.slice (some ⟨bt, off, none⟩) m.types.length e1) ∧ w'.cell? ⟨W.heap.size, 2, none⟩ = some (.slice T2 m.funcs.length e2) ∧ w'.cell? ⟨bt, off + k * 5 + 1, none⟩ = some (.int .i64 m.types[k].is_.kind) ∧ w'.cell? ⟨bt, off + k * 5 + 2, none⟩ = some (.string m.types[k].is_.of_) ∧ w'.cell? ⟨bt, off + k * 5 + 3, none⟩ = some (.string m.types[k].is_.name) ∧ w'.cell? ⟨bt, off + k * 5 + 4, none⟩ = some (.slice A2 m.types[k].is_.args.length n2))
      (exact HS.out _ (by first | exact HBk.out | exact HBk.out.alloc HBk.out.size _ | (go_grown; done) | exact (HBk.out.alloc HBk.out.size _).alloc (HBk.out.alloc HBk.out.size _).size _))
      ((go_at_call 17; (with_reducible refine (HCA.out _ HBk.out).mono ?_); rintro e w7 ⟨rfl, hb7⟩; have hb8 := below_step HBk.out hb7; have HBk := Lib.hid hb8; clear hb7 hb8))
    all_goals
      go_wp2_with fail
      go_meet
      exact ⟨rfl, rfl, aside HBk.out⟩
  case rest =>
  obtain ⟨rfl, rfl, hb5⟩ := hcut
  obtain ⟨W5, rfl⟩ : ∃ W, W = wc := ⟨_, rfl⟩
  obtain ⟨n0, n1, n2', nc1, nc2, nc3, nc4⟩ := HS.out W5 hb5.out
  have hr1 := Nat.lt_of_lt_of_le hq1 hb5.out.size
  have hr3 := Nat.lt_of_lt_of_le hq3 hb5.out.size
  have hdr : Below W5.heap.size W5 W5.drew := by go_grown
  have HT5 := Lib.hid (show ∀ w', Below W5.heap.size W5 w' → (w'.cell? ⟨W.heap.size, 0, none⟩ = some (.slice U1 m.uses.length u1) ∧ w'.cell? ⟨W.heap.size, 1, none⟩ = some (.slice (some ⟨bt, off, none⟩) m.types.length e1) ∧ w'.cell? ⟨W.heap.size, 2, none⟩ = some (.slice T2 m.funcs.length e2) ∧ w'.cell? ⟨bt, off + k * 5 + 1, none⟩ = some (.int .i64 m.types[k].is_.kind) ∧ w'.cell? ⟨bt, off + k * 5 + 2, none⟩ = some (.string m.types[k].is_.of_) ∧ w'.cell? ⟨bt, off + k * 5 + 3, none⟩ = some (.string m.types[k].is_.name) ∧ w'.cell? ⟨bt, off + k * 5 + 4, none⟩ = some (.slice A2 m.types[k].is_.args.length n2)) from fun w' h => ⟨(h.cell (p := ⟨W.heap.size, 0, none⟩) hr1).trans n0, (h.cell (p := ⟨W.heap.size, 1, none⟩) hr1).trans n1, (h.cell (p := ⟨W.heap.size, 2, none⟩) hr1).trans n2', (h.cell (p := ⟨bt, off + k * 5 + 1, none⟩) hr3).trans nc1, (h.cell (p := ⟨bt, off + k * 5 + 2, none⟩) hr3).trans nc2, (h.cell (p := ⟨bt, off + k * 5 + 3, none⟩) hr3).trans nc3, (h.cell (p := ⟨bt, off + k * 5 + 4, none⟩) hr3).trans nc4⟩)
  have hb5' := hb5.out
  have HB5 := Lib.hid hb5'; have HBk := Lib.hid hdr
  clear hb5' hdr
  clear hb5 m0 m1 m2 hc1 hc2 hc3 hc4 hq1 hq3
  go_upto_region 4 with fail
  go_cut [11, 12] (fun s11 s12 wc => s11 = .string S ∧ s12 = .int .i64 C ∧ Aside (Below W5.heap.size W5 wc))
  case first =>
    go_region_held3 (fun w' => w'.cell? ⟨W.heap.size, 0, none⟩ = some (.slice U1 m.uses.length u1) ∧ w'.cell? ⟨W.heap.size, 1, none⟩ = some (.slice (some ⟨bt, off, none⟩) m.types.length e1) ∧ w'.cell? ⟨W.heap.size, 2, none⟩ = some (.slice T2 m.funcs.length e2) ∧ w'.cell? ⟨bt, off + k * 5 + 1, none⟩ = some (.int .i64 m.types[k].is_.kind) ∧ w'.cell? ⟨bt, off + k * 5 + 2, none⟩ = some (.string m.types[k].is_.of_) ∧ w'.cell? ⟨bt, off + k * 5 + 3, none⟩ = some (.string m.types[k].is_.name) ∧ w'.cell? ⟨bt, off + k * 5 + 4, none⟩ = some (.slice A2 m.types[k].is_.args.length n2))
      (exact HT5.out _ (by first | exact HBk.out | exact HBk.out.alloc HBk.out.size _ | (go_grown; done) | exact (HBk.out.alloc HBk.out.size _).alloc (HBk.out.alloc HBk.out.size _).size _))
      ((go_at_call 18; (with_reducible refine (HDA.out _ (HB5.out.trans (HBk.out.mono HB5.out.size))).mono ?_); rintro e w7 ⟨rfl, hb7⟩; have hb8 := below_step HBk.out hb7; have HBk := Lib.hid hb8; clear hb7 hb8))
    all_goals
      go_wp2_with fail
      go_meet
      exact ⟨rfl, rfl, aside HBk.out⟩
  case rest =>
  obtain ⟨rfl, rfl, hb6⟩ := hcut
  have hbw := (HBW.out.trans (HB5.out.mono HBW.out.size)).trans (hb6.out.mono (HBW.out.trans (HB5.out.mono HBW.out.size)).size)
  have HBE := Lib.hid hbw
  clear hbw
  clear hb6
  go_wp2_with fail
  go_ret
  exact ⟨ret_bool (by simp), HBE.out⟩

end Go.Proofs.Ytejiaimcgmpliaa
