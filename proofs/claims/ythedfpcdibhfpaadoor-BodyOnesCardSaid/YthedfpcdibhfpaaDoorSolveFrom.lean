/- What a type is: (*alias.solver).solve at a name of another module. -/
import Derived.Test.YthedfpcdibhfpaaDoorSolveAt
namespace Go.Proofs.YthedfpcdibhfpaaDoor
open Go.RowKit Go.Shelf

set_option maxRecDepth 100000 in
set_option maxHeartbeats 8000000 in
theorem solveFrom_any (m : Module) (l : List Import) (hl0 : importsErr l = 0) (n : Nat) (v : ByteArray) (us : List ByteArray) (o nm : ByteArray) (args : List Ty) (A : Option Addr) (cap : Nat) (b : Nat) (U1 T1 T2 L1 S1 : Option Addr) (u1 e1 e2 l1 s1 : Nat) (w : World)
    (ho0 : o.size ≠ 0)
    (hm : ModuleR w (old w.heap.size) [.slice U1 m.uses.length u1, .slice T1 m.types.length e1, .slice T2 m.funcs.length e2] m) (hl : SliceOf ImportR 4 72 w (old w.heap.size) (.slice L1 l.length l1) l)
    (hB : Box w b 184 #[.slice U1 m.uses.length u1, .slice T1 m.types.length e1, .slice T2 m.funcs.length e2, .slice L1 l.length l1, .string v, .slice S1 us.length s1]) :
    Calls Tryd.prog 129 #[.pointer (some ⟨b, 0, none⟩), .agg #[.int .i64 4, .string o, .string nm, .slice A args.length cap]] w fun e w' => e = .returned (.tuple #[.string (solveN m l (n + 1) v us (.mk 4 o nm args)).1, .int .i64 (solveN m l (n + 1) v us (.mk 4 o nm args)).2]) ∧ Below w.heap.size w w' := by
  rw [solve_of ho0]
  have hoz : (o.toList == []) = false := by
    cases h : o.toList with
    | nil =>
      have h2 := str_isEmpty o
      rw [h] at h2
      exact absurd (of_decide_eq_true h2.symm) ho0
    | cons => rfl
  have hfr := fun U (hU : Below w.heap.size w U) => aliasFrom_any m l o [.slice U1 m.uses.length u1, .slice T1 m.types.length e1, .slice T2 m.funcs.length e2] (.slice L1 l.length l1) (old U.heap.size) (old U.heap.size) U old_lt old_lt (now_up ModuleR.stays hm hU) (now_lup ImportR.stays hl hU)
  have hty := fun U ds F (hF : ∀ k, F k → k < U.heap.size) (h : FaceR U F ds (fromFace m l o)) => faceType_any (fromFace m l o) nm ds F U hF h (from_rising hl0 o)
  generalize typeIn (fromFace m l o).types nm = r at hty ⊢
  obtain ⟨S, C⟩ := r
  obtain ⟨zb, hzb⟩ : ∃ z, fromIs m l o = z := ⟨_, rfl⟩
  rw [hzb] at hfr ⊢
  generalize fromFace m l o = Fc at hfr hty ⊢
  dsimp only at hty ⊢
  obtain ⟨E, hE⟩ : ∃ E, (if zb = true ∧ C = 0 then (S, (0 : Int)) else (⟨#[]⟩, 5)) = E := ⟨_, rfl⟩
  rw [hE]
  have HFR := Lib.hid hfr; have HTY := Lib.hid hty; have HE := Lib.hid hE
  clear hfr hty hE
  clear hzb hm hl hl0
  go_enter Tryd.func129, Tryd.ntmps129
  go_upto_region 14 with fail
  have hBt := Box.made w 85 #[.int .i64 4, .string o, .string nm, .slice A args.length cap]
  have hbt : Below w.heap.size w (w.alloc (.cells #[.int .i64 4, .string o, .string nm, .slice A args.length cap] 85)) := by go_grown
  have hzt : (w.alloc (.cells #[.int .i64 4, .string o, .string nm, .slice A args.length cap] 85)).heap.size = w.heap.size + 1 := by simp
  generalize w.alloc (.cells #[.int .i64 4, .string o, .string nm, .slice A args.length cap] 85) = W1 at hBt hbt hzt ⊢
  have hBs := hB.later hbt hB.lt
  have hls := hBs.lt
  have hlt := hBt.lt
  have hS : ∀ w', Below W1.heap.size W1 w' → w'.cell? ⟨b, 0, none⟩ = some (.slice U1 m.uses.length u1) ∧ w'.cell? ⟨b, 1, none⟩ = some (.slice T1 m.types.length e1) ∧ w'.cell? ⟨b, 2, none⟩ = some (.slice T2 m.funcs.length e2) ∧ w'.cell? ⟨b, 3, none⟩ = some (.slice L1 l.length l1) ∧ w'.cell? ⟨w.heap.size, 1, none⟩ = some (.string o) := fun w' h =>
    ⟨(h.cell (p := ⟨b, 0, none⟩) hls).trans (hBs.at_ 0 _ rfl), (h.cell (p := ⟨b, 1, none⟩) hls).trans (hBs.at_ 1 _ rfl), (h.cell (p := ⟨b, 2, none⟩) hls).trans (hBs.at_ 2 _ rfl), (h.cell (p := ⟨b, 3, none⟩) hls).trans (hBs.at_ 3 _ rfl), (h.cell (p := ⟨w.heap.size, 1, none⟩) hlt).trans (hBt.at_ 1 _ rfl)⟩
  have hdr : Below W1.heap.size W1 W1.drew := by go_grown
  have HS := Lib.hid hS; have HBk := Lib.hid hdr; have HBt := Lib.hid hBt; have HBT := Lib.hid hbt
  clear hS hdr hBt hbt
  clear hBs hls hlt hB hzt
  go_cut [10, 11] (fun s10 s11 wc => ∃ (nb : Nat) (T5 T6 : Option Addr) (e5 e6 : Nat), s10 = .pointer (some ⟨nb, 0, none⟩) ∧ s11 = .bool zb ∧ Aside (Box wc nb 31 #[.slice T5 Fc.types.length e5, .slice T6 Fc.funcs.length e6]) ∧ Aside (Below W1.heap.size W1 wc) ∧ Aside (FaceR wc (old wc.heap.size) [.slice T5 Fc.types.length e5, .slice T6 Fc.funcs.length e6] Fc))
  case first =>
    go_region_held3 (fun w' => w'.cell? ⟨b, 0, none⟩ = some (.slice U1 m.uses.length u1) ∧ w'.cell? ⟨b, 1, none⟩ = some (.slice T1 m.types.length e1) ∧ w'.cell? ⟨b, 2, none⟩ = some (.slice T2 m.funcs.length e2) ∧ w'.cell? ⟨b, 3, none⟩ = some (.slice L1 l.length l1) ∧ w'.cell? ⟨w.heap.size, 1, none⟩ = some (.string o))
      (exact HS.out _ (by first | exact HBk.out | exact HBk.out.alloc HBk.out.size _ | (go_grown; done) | exact (HBk.out.setCell (p := ⟨_, _, none⟩) (Nat.le_refl _) _).setCell (p := ⟨_, _, none⟩) (Nat.le_refl _) _))
      ((go_at_call 130; (first | (with_reducible refine (HFR.out _ (HBT.out.trans (HBk.out.mono HBT.out.size))).mono ?_) | (with_reducible refine (HFR.out _ (HBT.out.trans ((show Below W1.heap.size W1 _ from by go_grown).mono HBT.out.size))).mono ?_) | (with_reducible refine (HFR.out _ (HBT.out.trans ((HBk.out.alloc HBk.out.size _).mono HBT.out.size))).mono ?_)); rintro e w7 ⟨ds, rfl, hb7, hf7⟩; obtain ⟨T5, e5, T6, e6, rfl⟩ := FaceR.form hf7; (first | (have hbx : Box w7 W1.heap.size 31 #[.slice none 0 0, .slice none 0 0] := (by first | exact after_alloc hb7 | exact after_allocD hb7); have y0 := hbx.at_ 0 _ rfl; have y1 := hbx.at_ 1 _ rfl; have y2 := hbx.free 0; have y3 := hbx.free 1; have HBX := Lib.hid hbx; clear hbx) | skip); have hb8 := (by first | exact below_step HBk.out hb7 | exact below_stepD hb7 | exact below_stepA HBk.out hb7 : Below W1.heap.size W1 w7); have HBk := Lib.hid hb8; have HF7 := Lib.hid hf7; clear hb7 hb8 hf7))
    · go_wp2_with fail
      go_meet
      exact ⟨_, T5, T6, e5, e6, rfl, rfl, aside (Box.made _ _ _), aside (HBk.out.alloc HBk.out.size _), aside (now_up FaceR.stays (now_of FaceR.stays HF7.out fresh_lt) ((Below.refl _ _).alloc (Nat.le_refl _) _))⟩
    · go_wp2_with fail
      go_meet
      exact ⟨_, T5, T6, e5, e6, rfl, rfl, aside (by simpa using (HBX.out.put 0 (.slice T5 Fc.types.length e5)).put 1 (.slice T6 Fc.funcs.length e6)), aside ((HBk.out.setCell (p := ⟨W1.heap.size, 0, none⟩) (Nat.le_refl _) _).setCell (p := ⟨W1.heap.size, 1, none⟩) (Nat.le_refl _) _),
        aside (now_of FaceR.stays (FaceR.stays.set (p := ⟨W1.heap.size, 1, none⟩) (FaceR.stays.set (p := ⟨W1.heap.size, 0, none⟩) HF7.out (fresh_no (by simp)) _) (fresh_no (by simp)) _) (fun k hk => by rw [size_set, size_set]; exact hk.2))⟩
  case rest =>
  obtain ⟨nb, T5, T6, e5, e6, rfl, rfl, hbx, hb2, hf2⟩ := hcut
  obtain ⟨W2, rfl⟩ : ∃ W, W = wc := ⟨_, rfl⟩
  have hBt2 := HBt.out.later hb2.out HBt.out.lt
  have hbw := HBT.out.trans (hb2.out.mono HBT.out.size)
  have t2 := hBt2.at_ 2 _ rfl
  have f0 := hbx.out.at_ 0 _ rfl
  have f1 := hbx.out.at_ 1 _ rfl
  have hcl := HTY.out W2 _ _ old_lt hf2.out
  have HCL := Lib.hid hcl; have HBW := Lib.hid hbw
  clear hcl hbw
  clear hBt2 hb2 hf2 hbx
  go_wp2_with fail
  refine HCL.out.mono ?_
  rintro e W3 ⟨rfl, hb3⟩
  have hbw3 := HBW.out.trans (hb3.mono HBW.out.size)
  have HBW3 := Lib.hid hbw3
  clear hbw3
  clear hb3
  cases zb with
  | false =>
    obtain rfl : E = (⟨#[]⟩, 5) := by rw [← HE.out, if_neg (by simp)]
    go_wp2_with fail
    go_ret2
    exact ⟨rfl, HBW3.out⟩
  | true =>
    by_cases hC : C = 0
    · subst hC
      obtain rfl : E = (S, 0) := by rw [← HE.out, if_pos (by simp)]
      go_wp2_with fail
      go_ret2
      exact ⟨rfl, HBW3.out⟩
    · obtain rfl : E = (⟨#[]⟩, 5) := by rw [← HE.out, if_neg (by simp [hC])]
      have hCz : (C == 0) = false := by simp [hC]
      go_wp2_with fail
      go_ret2
      exact ⟨rfl, HBW3.out⟩

end Go.Proofs.YthedfpcdibhfpaaDoor
