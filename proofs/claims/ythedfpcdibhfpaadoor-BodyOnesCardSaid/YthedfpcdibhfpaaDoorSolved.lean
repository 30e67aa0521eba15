/- What a type is: the reference's answer. -/
import Derived.Test.YthedfpcdibhfpaaDoorSolveRef
namespace Go.Proofs.YthedfpcdibhfpaaDoor
open Go.RowKit Go.Shelf

theorem Owns.strs {e : TypeId} {base : Nat} {w : World} {F : Foot} {v : Value} {l : List ByteArray} (h : Owns StrR 1 e base w F v l) : Owns StrR 1 e base w none_ v l := by
  obtain ⟨xs, h1, h2, _⟩ := h
  exact ⟨xs, h1, ⟨h2.1, fun i x hi => h2.2 i x hi⟩, fun _ h => h.elim⟩

/-- What the reference says, with so much room. -/
def SolvedAt (m : Module) (l : List Import) (n : Nat) : Prop := ∀ (f : Nat) (v : ByteArray) (us : List ByteArray) (t : Ty) (U1 T1 T2 L1 S1 : Option Addr) (u1 e1 e2 l1 s1 : Nat) (cs : List Value) (w : World),
  tyErr f t = 0 → f ≤ 10 → f + 11 * freeOf m us ≤ n → us.length + freeOf m us ≤ 24 →
  ModuleR w (old w.heap.size) [.slice U1 m.uses.length u1, .slice T1 m.types.length e1, .slice T2 m.funcs.length e2] m → SliceOf ImportR 4 72 w (old w.heap.size) (.slice L1 l.length l1) l → SliceOf StrR 1 16 w (old w.heap.size) (.slice S1 us.length s1) us →
  TyR w (old w.heap.size) cs t →
  Calls Tryd.prog 135 #[.agg #[.slice U1 m.uses.length u1, .slice T1 m.types.length e1, .slice T2 m.funcs.length e2], .slice L1 l.length l1, .string v, .agg cs.toArray, .slice S1 us.length s1] w fun e w' => e = .returned (.tuple #[.string (solveN m l n v us t).1, .int .i64 (solveN m l n v us t).2]) ∧ Below w.heap.size w w'

set_option maxRecDepth 100000 in
set_option maxHeartbeats 4000000 in
theorem solvedList_any (m : Module) (l : List Import) (hl0 : importsErr l = 0) (n f : Nat) (ih : SolvedAt m l n) (v : ByteArray) (us : List ByteArray) (o nm : ByteArray) (a : Ty) (A : Option Addr) (cap : Nat) (U1 T1 T2 L1 S1 : Option Addr) (u1 e1 e2 l1 s1 : Nat) (w : World)
    (hta : tyErr f a = 0) (hf : f + 1 ≤ 10) (hn : f + 1 + 11 * freeOf m us ≤ n + 1) (hu : us.length + freeOf m us ≤ 24)
    (hm : ModuleR w (old w.heap.size) [.slice U1 m.uses.length u1, .slice T1 m.types.length e1, .slice T2 m.funcs.length e2] m) (hl : SliceOf ImportR 4 72 w (old w.heap.size) (.slice L1 l.length l1) l) (hus : SliceOf StrR 1 16 w (old w.heap.size) (.slice S1 us.length s1) us)
    (hav : SliceOf TyR 4 64 w (old w.heap.size) (.slice A 1 cap) [a]) :
    Calls Tryd.prog 135 #[.agg #[.slice U1 m.uses.length u1, .slice T1 m.types.length e1, .slice T2 m.funcs.length e2], .slice L1 l.length l1, .string v, .agg #[.int .i64 3, .string o, .string nm, .slice A 1 cap], .slice S1 us.length s1] w fun e w' => e = .returned (.tuple #[.string (solveN m l (n + 1) v us (.mk 3 o nm [a])).1, .int .i64 (solveN m l (n + 1) v us (.mk 3 o nm [a])).2]) ∧ Below w.heap.size w w' := by
  rw [solve_list]
  have hst := small_of_err hl0
  obtain ⟨b1, off, cs, rfl, hbF, hcs, hra, hcell⟩ := hav.at_ (k := 0) (by simp)
  obtain ⟨A2, n2, rfl⟩ := TyR.form hra
  have hc0 := hcell 0 _ rfl
  have hc1 := hcell 1 _ rfl
  have hc2 := hcell 2 _ rfl
  have hc3 := hcell 3 _ rfl
  simp only [Nat.add_zero] at hc0
  simp only [Nat.zero_mul, Nat.add_zero] at hc0 hc1 hc2 hc3
  have hlb : b1 < w.heap.size := hbF
  have hca := fun U (hU : Below w.heap.size w U) => ih f v us a U1 T1 T2 L1 S1 u1 e1 e2 l1 s1 _ U hta (by omega) (by omega) hu (now_up ModuleR.stays hm hU) (now_lup ImportR.stays hl hU) (now_lup StrR.stays hus hU) (now_up TyR.stays hra hU)
  have hsm := solve_small (m := m) hst n v us a
  simp only [List.getElem_cons_zero] at *
  generalize solveN m l n v us a = r at *
  obtain ⟨S, C⟩ := r
  dsimp only at hca hsm ⊢
  have hlo := fun W => kindList_any S W (by omega)
  generalize listErr S = X at hlo ⊢
  generalize listTxt S = Y at hlo ⊢
  obtain ⟨E, hE⟩ : ∃ E, (if C ≠ 0 then ((⟨#[]⟩ : ByteArray), C) else if X ≠ 0 then (⟨#[]⟩, 5) else (Y, 0)) = E := ⟨_, rfl⟩
  rw [hE]
  have HCA := Lib.hid hca; have HLO := Lib.hid hlo; have HE := Lib.hid hE
  clear hca hlo hE
  clear hn ih hm hl hus hav hst hcell hra hsm hta hf hu hl0 hbF hcs
  go_enter Tryd.func135, Tryd.ntmps135
  go_upto_region 1 with fail
  have hBm1 := ((Box.made w 26 #[.slice U1 m.uses.length u1, .slice T1 m.types.length e1, .slice T2 m.funcs.length e2]).alloc (.cells #[.int .i64 3, .string o, .string nm, .slice (some ⟨b1, off, none⟩) 1 cap] 85))
  have hBm2 := (Box.made (w.alloc (.cells #[.slice U1 m.uses.length u1, .slice T1 m.types.length e1, .slice T2 m.funcs.length e2] 26)) 85 #[.int .i64 3, .string o, .string nm, .slice (some ⟨b1, off, none⟩) 1 cap])
  rw [show (w.alloc (.cells #[.slice U1 m.uses.length u1, .slice T1 m.types.length e1, .slice T2 m.funcs.length e2] 26)).heap.size = w.heap.size + 1 by simp only [World.size_alloc]] at hBm2
  have hbm : Below w.heap.size w ((w.alloc (.cells #[.slice U1 m.uses.length u1, .slice T1 m.types.length e1, .slice T2 m.funcs.length e2] 26)).alloc (.cells #[.int .i64 3, .string o, .string nm, .slice (some ⟨b1, off, none⟩) 1 cap] 85)) := by go_grown
  have hzm : ((w.alloc (.cells #[.slice U1 m.uses.length u1, .slice T1 m.types.length e1, .slice T2 m.funcs.length e2] 26)).alloc (.cells #[.int .i64 3, .string o, .string nm, .slice (some ⟨b1, off, none⟩) 1 cap] 85)).heap.size = w.heap.size + 1 + 1 := by simp only [World.size_alloc]
  generalize (w.alloc (.cells #[.slice U1 m.uses.length u1, .slice T1 m.types.length e1, .slice T2 m.funcs.length e2] 26)).alloc (.cells #[.int .i64 3, .string o, .string nm, .slice (some ⟨b1, off, none⟩) 1 cap] 85) = W1 at hBm1 hBm2 hbm hzm ⊢
  have m0 := hBm1.at_ 0 _ rfl
  have m1 := hBm1.at_ 1 _ rfl
  have m2 := hBm1.at_ 2 _ rfl
  have t0 := hBm2.at_ 0 _ rfl
  have t1 := hBm2.at_ 1 _ rfl
  have t2 := hBm2.at_ 2 _ rfl
  have t3 := hBm2.at_ 3 _ rfl
  have k0 := (hbm.cell (p := ⟨b1, off, none⟩) hlb).trans hc0
  have k1 := (hbm.cell (p := ⟨b1, off + 1, none⟩) hlb).trans hc1
  have k2 := (hbm.cell (p := ⟨b1, off + 2, none⟩) hlb).trans hc2
  have k3 := (hbm.cell (p := ⟨b1, off + 3, none⟩) hlb).trans hc3
  have hq1 := hBm1.lt
  have hq2 := hBm2.lt
  have hq3 : b1 < W1.heap.size := Nat.lt_of_lt_of_le hlb hbm.size
  have HS := Lib.hid (show ∀ w', Below W1.heap.size W1 w' → (w'.cell? ⟨w.heap.size, 0, none⟩ = some (.slice U1 m.uses.length u1) ∧ w'.cell? ⟨w.heap.size, 1, none⟩ = some (.slice T1 m.types.length e1) ∧ w'.cell? ⟨w.heap.size, 2, none⟩ = some (.slice T2 m.funcs.length e2) ∧ w'.cell? ⟨w.heap.size + 1, 3, none⟩ = some (.slice (some ⟨b1, off, none⟩) 1 cap) ∧ w'.cell? ⟨b1, off, none⟩ = some (.int .i64 a.kind) ∧ w'.cell? ⟨b1, off + 1, none⟩ = some (.string a.of_) ∧ w'.cell? ⟨b1, off + 2, none⟩ = some (.string a.name) ∧ w'.cell? ⟨b1, off + 3, none⟩ = some (.slice A2 a.args.length n2)) from fun w' h => ⟨(h.cell (p := ⟨w.heap.size, 0, none⟩) hq1).trans m0, (h.cell (p := ⟨w.heap.size, 1, none⟩) hq1).trans m1, (h.cell (p := ⟨w.heap.size, 2, none⟩) hq1).trans m2, (h.cell (p := ⟨w.heap.size + 1, 3, none⟩) hq2).trans t3, (h.cell (p := ⟨b1, off, none⟩) hq3).trans k0, (h.cell (p := ⟨b1, off + 1, none⟩) hq3).trans k1, (h.cell (p := ⟨b1, off + 2, none⟩) hq3).trans k2, (h.cell (p := ⟨b1, off + 3, none⟩) hq3).trans k3⟩)
  have hrw : Below W1.heap.size W1 W1.drew := by go_grown
  have HB := Lib.hid hbm; have HBk := Lib.hid hrw
  clear hbm hrw
  clear hzm hBm1 hBm2 hc0 hc1 hc2 hc3 hq1 hq2 hq3
  go_upto_region 6 with fail
  go_cut [12, 13] (fun s12 s13 wc => s12 = .string S ∧ s13 = .int .i64 C ∧ Aside (Below W1.heap.size W1 wc))
  case first =>
    go_region_held3 (fun w' => w'.cell? ⟨w.heap.size, 0, none⟩ = some (.slice U1 m.uses.length u1) ∧ w'.cell? ⟨w.heap.size, 1, none⟩ = some (.slice T1 m.types.length e1) ∧ w'.cell? ⟨w.heap.size, 2, none⟩ = some (.slice T2 m.funcs.length e2) ∧ w'.cell? ⟨w.heap.size + 1, 3, none⟩ = some (.slice (some ⟨b1, off, none⟩) 1 cap) ∧ w'.cell? ⟨b1, off, none⟩ = some (.int .i64 a.kind) ∧ w'.cell? ⟨b1, off + 1, none⟩ = some (.string a.of_) ∧ w'.cell? ⟨b1, off + 2, none⟩ = some (.string a.name) ∧ w'.cell? ⟨b1, off + 3, none⟩ = some (.slice A2 a.args.length n2))
      (exact HS.out _ (by first | exact HBk.out | exact HBk.out.alloc HBk.out.size _ | (go_grown; done) | exact (HBk.out.alloc HBk.out.size _).alloc (HBk.out.alloc HBk.out.size _).size _ | exact HBk.out.setCell (Nat.le_refl _) _ | exact (HBk.out.setCell (Nat.le_refl _) _).setCell (Nat.le_refl _) _))
      ((go_at_call 135; (with_reducible refine (HCA.out _ (HB.out.trans (HBk.out.mono HB.out.size))).mono ?_); rintro e w7 ⟨rfl, hb7⟩; have hb8 := below_step HBk.out hb7; have HBk := Lib.hid hb8; clear hb7 hb8))
    all_goals
      go_wp2_with fail
      go_meet
      exact ⟨rfl, rfl, aside HBk.out⟩
  case rest =>
  obtain ⟨rfl, rfl, hb2⟩ := hcut
  obtain ⟨W2, rfl⟩ : ∃ W, W = wc := ⟨_, rfl⟩
  have hbw : Below w.heap.size w W2 := HB.out.trans (hb2.out.mono HB.out.size)
  have HBW := Lib.hid hbw
  clear hbw
  clear hb2 m0 m1 m2 t0 t1 t2 t3 k0 k1 k2 k3
  by_cases hC : C = 0
  · subst hC
    go_wp2_with fail
    refine (HLO.out _).mono ?_
    rintro e W3 ⟨rfl, rfl⟩
    by_cases hX : X = 0
    · subst hX
      obtain rfl : E = (Y, 0) := by rw [← HE.out, if_neg (by simp), if_neg (by simp)]
      go_wp2_with fail
      go_ret2
      exact ⟨rfl, HBW.out⟩
    · obtain rfl : E = (⟨#[]⟩, 5) := by rw [← HE.out, if_neg (by simp), if_pos hX]
      have hXz : (X == 0) = false := by simp [hX]
      go_wp2_with fail
      go_ret2
      exact ⟨rfl, HBW.out⟩
  · obtain rfl : E = (⟨#[]⟩, C) := by rw [← HE.out, if_pos hC]
    have hCz : (C == 0) = false := by simp [hC]
    go_wp2_with fail
    go_ret2
    exact ⟨rfl, HBW.out⟩

set_option maxRecDepth 100000 in
set_option maxHeartbeats 4000000 in
theorem solvedFrom_any (m : Module) (l : List Import) (n : Nat) (v : ByteArray) (us : List ByteArray) (o nm : ByteArray) (args : List Ty) (A : Option Addr) (cap : Nat) (U1 T1 T2 L1 S1 : Option Addr) (u1 e1 e2 l1 s1 : Nat) (w : World) (ho0 : o.size ≠ 0)
    (hm : ModuleR w (old w.heap.size) [.slice U1 m.uses.length u1, .slice T1 m.types.length e1, .slice T2 m.funcs.length e2] m) (hl : SliceOf ImportR 4 72 w (old w.heap.size) (.slice L1 l.length l1) l) :
    Calls Tryd.prog 135 #[.agg #[.slice U1 m.uses.length u1, .slice T1 m.types.length e1, .slice T2 m.funcs.length e2], .slice L1 l.length l1, .string v, .agg #[.int .i64 4, .string o, .string nm, .slice A args.length cap], .slice S1 us.length s1] w fun e w' => e = .returned (.tuple #[.string (solveN m l (n + 1) v us (.mk 4 o nm args)).1, .int .i64 (solveN m l (n + 1) v us (.mk 4 o nm args)).2]) ∧ Below w.heap.size w w' := by
  rw [solve_of ho0]
  have hoz : (o.toList == []) = false := by
    cases h : o.toList with
    | nil =>
      have h2 := str_isEmpty o
      rw [h] at h2
      exact absurd (of_decide_eq_true h2.symm) ho0
    | cons => rfl
  have hoz2 : o.toList.isEmpty = false := by rw [str_isEmpty]; exact decide_eq_false ho0
  have hfr := fun U (hU : Below w.heap.size w U) => fromOf_any m l o [.slice U1 m.uses.length u1, .slice T1 m.types.length e1, .slice T2 m.funcs.length e2] (.slice L1 l.length l1) (old U.heap.size) (old U.heap.size) U old_lt old_lt (now_up ModuleR.stays hm hU) (now_lup ImportR.stays hl hU)
  have hty := fun U ds F (hF : ∀ k, F k → k < U.heap.size) (h : FaceR U F ds (fromFace m l o)) => typeIn_any (fromFace m l o) nm ds F U hF h
  generalize typeIn (fromFace m l o).types nm = r at hty ⊢
  obtain ⟨S, C⟩ := r
  obtain ⟨zb, hzb⟩ : ∃ z, fromIs m l o = z := ⟨_, rfl⟩
  rw [hzb] at hfr ⊢
  generalize fromFace m l o = Fc at hfr hty ⊢
  dsimp only at hty ⊢
  obtain ⟨E, hE⟩ : ∃ E, (if zb = true ∧ C = 0 then (S, (0 : Int)) else (⟨#[]⟩, 5)) = E := ⟨_, rfl⟩
  rw [hE]
  have HFR := Lib.hid hfr; have HTY := Lib.hid hty; have HE := Lib.hid hE
  clear hfr hty hE
  clear hzb hm hl
  go_enter Tryd.func135, Tryd.ntmps135
  go_upto_region 1 with fail
  have hBm1 := ((Box.made w 26 #[.slice U1 m.uses.length u1, .slice T1 m.types.length e1, .slice T2 m.funcs.length e2]).alloc (.cells #[.int .i64 4, .string o, .string nm, .slice A args.length cap] 85))
  have hBm2 := (Box.made (w.alloc (.cells #[.slice U1 m.uses.length u1, .slice T1 m.types.length e1, .slice T2 m.funcs.length e2] 26)) 85 #[.int .i64 4, .string o, .string nm, .slice A args.length cap])
  rw [show (w.alloc (.cells #[.slice U1 m.uses.length u1, .slice T1 m.types.length e1, .slice T2 m.funcs.length e2] 26)).heap.size = w.heap.size + 1 by simp only [World.size_alloc]] at hBm2
  have hbm : Below w.heap.size w ((w.alloc (.cells #[.slice U1 m.uses.length u1, .slice T1 m.types.length e1, .slice T2 m.funcs.length e2] 26)).alloc (.cells #[.int .i64 4, .string o, .string nm, .slice A args.length cap] 85)) := by go_grown
  have hzm : ((w.alloc (.cells #[.slice U1 m.uses.length u1, .slice T1 m.types.length e1, .slice T2 m.funcs.length e2] 26)).alloc (.cells #[.int .i64 4, .string o, .string nm, .slice A args.length cap] 85)).heap.size = w.heap.size + 1 + 1 := by simp only [World.size_alloc]
  generalize (w.alloc (.cells #[.slice U1 m.uses.length u1, .slice T1 m.types.length e1, .slice T2 m.funcs.length e2] 26)).alloc (.cells #[.int .i64 4, .string o, .string nm, .slice A args.length cap] 85) = W1 at hBm1 hBm2 hbm hzm ⊢
  have m0 := hBm1.at_ 0 _ rfl
  have m1 := hBm1.at_ 1 _ rfl
  have m2 := hBm1.at_ 2 _ rfl
  have t0 := hBm2.at_ 0 _ rfl
  have t1 := hBm2.at_ 1 _ rfl
  have t2 := hBm2.at_ 2 _ rfl
  have t3 := hBm2.at_ 3 _ rfl
  have hlt := hBm2.lt
  have HB := Lib.hid hbm; have HBt := Lib.hid hBm2
  clear hbm hBm2
  clear hzm hBm1
  go_wp2_with fail
  refine (HFR.out _ HB.out).mono ?_
  rintro e W2 ⟨ds, rfl, hb2, hf2⟩
  obtain ⟨T5, e5, T6, e6, rfl⟩ := FaceR.form hf2
  have hbw := HB.out.trans (hb2.mono HB.out.size)
  have hBt2 := HBt.out.later hb2 hlt
  have hcl := HTY.out (W2.alloc (.cells #[.slice T5 Fc.types.length e5, .slice T6 Fc.funcs.length e6] 31)) [.slice T5 Fc.types.length e5, .slice T6 Fc.funcs.length e6] _ old_lt (now_up FaceR.stays (now_of FaceR.stays hf2 (fun k hk => Nat.lt_of_lt_of_le hk hb2.size)) ((Below.refl _ _).alloc (Nat.le_refl _) _))
  clear m0 m1 m2 t0 t1 t2 t3
  have t2 := hBt2.at_ 2 _ rfl
  have hlt2 := hBt2.lt
  have HCL := Lib.hid hcl; have HBW := Lib.hid hbw
  clear hcl hbw
  clear hBt2 hb2 hf2 hlt
  go_wp2_with fail
  refine HCL.out.mono ?_
  rintro e W3 ⟨rfl, hb3⟩
  have hbw3 := (HBW.out.alloc HBW.out.size _).trans (hb3.mono (HBW.out.alloc HBW.out.size _).size)
  have HBW3 := Lib.hid hbw3
  clear hbw3
  clear hb3
  cases zb with
  | false =>
    obtain rfl : E = (⟨#[]⟩, 5) := by rw [← HE.out, if_neg (by simp)]
    go_wp2_with fail
    go_ret2
    exact ⟨rfl, HBW3.out⟩
  | true =>
    by_cases hC : C = 0
    · subst hC
      obtain rfl : E = (S, 0) := by rw [← HE.out, if_pos (by simp)]
      go_wp2_with fail
      go_ret2
      exact ⟨rfl, HBW3.out⟩
    · obtain rfl : E = (⟨#[]⟩, 5) := by rw [← HE.out, if_neg (by simp [hC])]
      have hCz : (C == 0) = false := by simp [hC]
      go_wp2_with fail
      go_ret2
      exact ⟨rfl, HBW3.out⟩

set_option maxRecDepth 100000 in
set_option maxHeartbeats 1000000 in
theorem solvedInt_any (m : Module) (l : List Import) (n : Nat) (v : ByteArray) (us : List ByteArray) (o nm : ByteArray) (args : List Ty) (A : Option Addr) (cap : Nat) (U1 T1 T2 L1 S1 : Option Addr) (u1 e1 e2 l1 s1 : Nat) (w : World) :
    Calls Tryd.prog 135 #[.agg #[.slice U1 m.uses.length u1, .slice T1 m.types.length e1, .slice T2 m.funcs.length e2], .slice L1 l.length l1, .string v, .agg #[.int .i64 1, .string o, .string nm, .slice A args.length cap], .slice S1 us.length s1] w fun e w' => e = .returned (.tuple #[.string (solveN m l (n + 1) v us (.mk 1 o nm args)).1, .int .i64 (solveN m l (n + 1) v us (.mk 1 o nm args)).2]) ∧ Below w.heap.size w w' := by
  rw [solve_int]
  go_enter Tryd.func135, Tryd.ntmps135
  go_wp2_with fail
  go_ret2
  exact ⟨rfl, by go_grown⟩

set_option maxRecDepth 100000 in
set_option maxHeartbeats 1000000 in
theorem solvedText_any (m : Module) (l : List Import) (n : Nat) (v : ByteArray) (us : List ByteArray) (o nm : ByteArray) (args : List Ty) (A : Option Addr) (cap : Nat) (U1 T1 T2 L1 S1 : Option Addr) (u1 e1 e2 l1 s1 : Nat) (w : World) :
    Calls Tryd.prog 135 #[.agg #[.slice U1 m.uses.length u1, .slice T1 m.types.length e1, .slice T2 m.funcs.length e2], .slice L1 l.length l1, .string v, .agg #[.int .i64 2, .string o, .string nm, .slice A args.length cap], .slice S1 us.length s1] w fun e w' => e = .returned (.tuple #[.string (solveN m l (n + 1) v us (.mk 2 o nm args)).1, .int .i64 (solveN m l (n + 1) v us (.mk 2 o nm args)).2]) ∧ Below w.heap.size w w' := by
  rw [solve_text]
  go_enter Tryd.func135, Tryd.ntmps135
  go_wp2_with fail
  go_ret2
  exact ⟨rfl, by go_grown⟩

end Go.Proofs.YthedfpcdibhfpaaDoor
