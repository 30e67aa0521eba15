/- What a type is: alias.Solve, and the reference's answer. -/
import Derived.Test.YthedfpcdibhfpaaDoorAliasSolve
import Derived.Test.YthedfpcdibhfpaaDoorSigPlain
import Derived.Test.YthedfpcdibhfpaaDoorBase
namespace Go.Proofs.YthedfpcdibhfpaaDoor
open Go.RowKit Go.Shelf

set_option maxRecDepth 100000 in
set_option maxHeartbeats 1000000 in
theorem typeAt_any (m : Module) (t : ByteArray) (cs : List Value) (F : Foot) (w : World) (hF : ∀ k, F k → k < w.heap.size) (hm : ModuleR w F cs m) :
    Calls Tryd.prog 174 #[.agg cs.toArray, .string t] w fun e w' => e = .returned (.int .i64 (fidx (fieldIs t) m.types)) ∧ Below w.heap.size w w' := by
  obtain ⟨U1, u1, T1, e1, T2, e2, rfl, _, hT, _⟩ := ModuleR.form hm
  obtain ⟨_, _, _, _, _, hl1, _⟩ := hT.form
  have HT := Lib.hid hT
  clear hm hT
  go_enter Tryd.func174, Tryd.ntmps174
  go_upto_region 1 with fail
  have hBm := Box.made w 26 #[.slice U1 m.uses.length u1, .slice T1 m.types.length e1, .slice T2 m.funcs.length e2]
  have hbm : Below w.heap.size w (w.alloc (.cells #[.slice U1 m.uses.length u1, .slice T1 m.types.length e1, .slice T2 m.funcs.length e2] 26)) := by go_grown
  have hzm : (w.alloc (.cells #[.slice U1 m.uses.length u1, .slice T1 m.types.length e1, .slice T2 m.funcs.length e2] 26)).heap.size = w.heap.size + 1 := by simp
  generalize w.alloc (.cells #[.slice U1 m.uses.length u1, .slice T1 m.types.length e1, .slice T2 m.funcs.length e2] 26) = W1 at hBm hbm hzm ⊢
  have m1 := hBm.at_ 1 _ rfl
  have hT := HT.out.stays FieldR.stays (fun _ h => h) (Keeps.of_below hbm hF)
  have HB := Lib.hid hbm; have HT := Lib.hid hT; have HBm := Lib.hid hBm
  clear hbm hT hBm
  clear hzm
  go_wp2_with fail
  go_loopg [5] m.types.length (fun gg s5 wr => ∃ kk : Nat, kk ≤ m.types.length ∧ m.types.length - kk ≤ gg ∧ s5 = .int .i64 kk ∧ wr = W1 ∧ Aside (∀ j, j < kk → ∀ y, m.types[j]? = some y → fieldIs t y = false))
  case atStart => exact ⟨0, Nat.zero_le _, by omega, rfl, rfl, (show Aside _ from fun j hj => absurd hj (Nat.not_lt_zero _))⟩
  case round =>
    obtain ⟨kk, hkk, hg, rfl, rfl, A1⟩ := hrel
    by_cases hlt : kk < m.types.length
    · have hltz : (kk : Int) < (m.types.length : Int) := by omega
      obtain ⟨b, off, cs, rfl, hb, hcs, hr, hcell⟩ := HT.out.at_ hlt
      obtain ⟨y1, y2, y3, y4, rfl, _, _⟩ := FieldR.form hr
      have hc0 := hcell 0 _ rfl
      simp only [Nat.add_zero] at hc0
      clear hcell hr hb hcs
      have hfi : fieldIs t m.types[kk] = (m.types[kk].name.toList == t.toList) := by
        unfold fieldIs eqB; simp
      cases hq : (m.types[kk].name.toList == t.toList) with
      | true =>
        have HQ := Lib.hid (hfi.trans hq); clear hfi
        go_wp2
        go_ret
        exact ⟨by rw [fidx_hit hlt HQ.out A1.out]; rfl, HB.out⟩
      | false =>
        have HQ := Lib.hid (hfi.trans hq); clear hfi
        go_wp2
        go_roundg (m.types.length - (kk + 1))
        case measure => omega
        case rel => exact ⟨kk + 1, by omega, by omega, by go_num, rfl, (show Aside _ from seen_succ hlt HQ.out A1.out)⟩
    · have hltz : ¬ (kk : Int) < (m.types.length : Int) := by omega
      obtain rfl : kk = m.types.length := by omega
      go_wp2
      go_ret
      exact ⟨by rw [fidx_miss A1.out]; rfl, HB.out⟩

set_option maxRecDepth 100000 in
set_option maxHeartbeats 2000000 in
theorem aliasSolve_any (m : Module) (l : List Import) (hm0 : modErr m = 0) (hl0 : importsErr l = 0) (f : Nat) (v : ByteArray) (t : Ty) (ds cs : List Value) (lv : Value) (w : World) (ht : tyErr f t = 0) (hf : f ≤ 10) (hv : okS v)
    (hm : ModuleR w (old w.heap.size) ds m) (hl : SliceOf ImportR 4 72 w (old w.heap.size) lv l) (htr : TyR w (old w.heap.size) cs t) :
    Calls Tryd.prog 74 #[.agg ds.toArray, lv, .string v, .agg cs.toArray] w fun e w' => e = .returned (.tuple #[.string (solveOf m l v t).1, .int .i64 (solveOf m l v t).2]) ∧ Below w.heap.size w w' := by
  obtain ⟨U1, u1, T1, e1, T2, e2, rfl, _⟩ := ModuleR.form hm
  obtain ⟨L1, l1, rfl, _⟩ := hl.form
  obtain ⟨A2, n2, rfl⟩ := TyR.form htr
  have hfree : freeOf m [] ≤ 24 := by
    have h1 := modErr_small hm0
    have h2 : freeOf m [] ≤ m.types.length := List.countP_le_length
    omega
  have hca := fun nb U (hU : Below w.heap.size w U) (hb : Box U nb 184 #[.slice U1 m.uses.length u1, .slice T1 m.types.length e1, .slice T2 m.funcs.length e2, .slice L1 l.length l1, .string v, .slice none 0 0]) =>
    solve_any m l hm0 hl0 300 f v [] t nb U1 T1 T2 L1 none u1 e1 e2 l1 0 _ U ht hf (by omega) (by simp; omega) hv (now_up ModuleR.stays hm hU) (now_lup ImportR.stays hl hU) SliceOf.nil_ hb (now_up TyR.stays htr hU)
  unfold solveOf
  generalize solveN m l 300 v [] t = r at hca ⊢
  obtain ⟨S, C⟩ := r
  dsimp only at hca ⊢
  have HCA := Lib.hid hca
  clear hca
  clear hm hl htr ht hf hm0 hl0 hfree hv
  go_enter Tryd.func74, Tryd.ntmps74
  go_upto_region 1 with fail
  have hBm1 := ((Box.made w 26 #[.slice U1 m.uses.length u1, .slice T1 m.types.length e1, .slice T2 m.funcs.length e2]).alloc (.cells #[.int .i64 t.kind, .string t.of_, .string t.name, .slice A2 t.args.length n2] 85))
  have hBm2 := (Box.made (w.alloc (.cells #[.slice U1 m.uses.length u1, .slice T1 m.types.length e1, .slice T2 m.funcs.length e2] 26)) 85 #[.int .i64 t.kind, .string t.of_, .string t.name, .slice A2 t.args.length n2])
  rw [show (w.alloc (.cells #[.slice U1 m.uses.length u1, .slice T1 m.types.length e1, .slice T2 m.funcs.length e2] 26)).heap.size = w.heap.size + 1 by simp only [World.size_alloc]] at hBm2
  have hbm : Below w.heap.size w ((w.alloc (.cells #[.slice U1 m.uses.length u1, .slice T1 m.types.length e1, .slice T2 m.funcs.length e2] 26)).alloc (.cells #[.int .i64 t.kind, .string t.of_, .string t.name, .slice A2 t.args.length n2] 85)) := by go_grown
  have hzm : ((w.alloc (.cells #[.slice U1 m.uses.length u1, .slice T1 m.types.length e1, .slice T2 m.funcs.length e2] 26)).alloc (.cells #[.int .i64 t.kind, .string t.of_, .string t.name, .slice A2 t.args.length n2] 85)).heap.size = w.heap.size + 1 + 1 := by simp only [World.size_alloc]
  generalize (w.alloc (.cells #[.slice U1 m.uses.length u1, .slice T1 m.types.length e1, .slice T2 m.funcs.length e2] 26)).alloc (.cells #[.int .i64 t.kind, .string t.of_, .string t.name, .slice A2 t.args.length n2] 85) = W1 at hBm1 hBm2 hbm hzm ⊢
  have m0 := hBm1.at_ 0 _ rfl
  have m1 := hBm1.at_ 1 _ rfl
  have m2 := hBm1.at_ 2 _ rfl
  have t0 := hBm2.at_ 0 _ rfl
  have t1 := hBm2.at_ 1 _ rfl
  have t2 := hBm2.at_ 2 _ rfl
  have t3 := hBm2.at_ 3 _ rfl
  have hlt2 := hBm2.lt
  have HB := Lib.hid hbm
  clear hbm
  clear hzm hBm1 hBm2
  go_wp2_with fail
  refine (HCA.out W1.heap.size _ (HB.out.alloc HB.out.size _) (Box.made _ _ _)).mono ?_
  rintro e W2 ⟨rfl, hb2⟩
  have hbw : Below w.heap.size w W2 := (HB.out.alloc HB.out.size _).trans (hb2.mono (HB.out.alloc HB.out.size _).size)
  have HBW := Lib.hid hbw
  clear hbw
  clear hb2
  go_wp2_with fail
  go_ret2
  exact ⟨rfl, HBW.out⟩

end Go.Proofs.YthedfpcdibhfpaaDoor
