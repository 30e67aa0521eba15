/- What a type is: the reference's answer, whole. -/
import Derived.Test.YthedfpcdibhfpaaDoorSolvedN
namespace Go.Proofs.YthedfpcdibhfpaaDoor
open Go.RowKit Go.Shelf

theorem solved_any (m : Module) (l : List Import) (hm0 : modErr m = 0) (hl0 : importsErr l = 0) : ∀ n, SolvedAt m l n
  | 0 => by
    intro f v us t U1 T1 T2 L1 S1 u1 e1 e2 l1 s1 cs w ht hf hn
    obtain rfl : f = 0 := by omega
    exact absurd ht (by unfold tyErr; decide)
  | n + 1 => by
    have ih := solved_any m l hm0 hl0 n
    intro f v us t U1 T1 T2 L1 S1 u1 e1 e2 l1 s1 cs w ht hf hn hu hm hl hus htr
    cases f with
    | zero => exact absurd ht (by unfold tyErr; decide)
    | succ f =>
    obtain ⟨k, o, nm, args⟩ := t
    obtain ⟨av, rfl, ho, hnm, hav⟩ : ∃ av, cs = [.int .i64 k, .string o, .string nm, av] ∧ okS o ∧ okS nm ∧ SliceOf TyR 4 64 w (old w.heap.size) av args := by
      obtain ⟨d, htr⟩ := htr
      cases d with
      | zero => exact htr.elim
      | succ d =>
        obtain ⟨av, rfl, _, h1, h2, h3⟩ := htr
        exact ⟨av, rfl, h1, h2, h3.mono_R fun _ _ h => ⟨d, h⟩⟩
    clear htr
    obtain ⟨A, cap, rfl, _, _, hlen, _⟩ := hav.form
    rcases tyErr_cases ht with rfl | rfl | ⟨rfl, a, rfl, hta⟩ | ⟨rfl, hno⟩
    · exact solvedInt_any m l n v us o nm args A cap U1 T1 T2 L1 S1 u1 e1 e2 l1 s1 w
    · exact solvedText_any m l n v us o nm args A cap U1 T1 T2 L1 S1 u1 e1 e2 l1 s1 w
    · exact solvedList_any m l hl0 n f ih v us o nm a A cap U1 T1 T2 L1 S1 u1 e1 e2 l1 s1 w hta hf hn hu hm hl hus hav
    · by_cases ho0 : o.size = 0
      · obtain rfl : o = ⟨#[]⟩ := str_nil ho0
        exact solvedName_any m l hm0 n f ih v us nm args A cap U1 T1 T2 L1 S1 u1 e1 e2 l1 s1 w (nameOk_pos hno) hnm hn hu hm hl hus
      · exact solvedFrom_any m l n v us o nm args A cap U1 T1 T2 L1 S1 u1 e1 e2 l1 s1 w ho0 hm hl

set_option maxRecDepth 100000 in
set_option maxHeartbeats 2000000 in
theorem solvedOf_any (m : Module) (l : List Import) (hm0 : modErr m = 0) (hl0 : importsErr l = 0) (f : Nat) (v : ByteArray) (t : Ty) (ds cs : List Value) (lv : Value) (w : World) (ht : tyErr f t = 0) (hf : f ≤ 10)
    (hm : ModuleR w (old w.heap.size) ds m) (hl : SliceOf ImportR 4 72 w (old w.heap.size) lv l) (htr : TyR w (old w.heap.size) cs t) :
    Calls Tryd.prog 82 #[.agg ds.toArray, lv, .string v, .agg cs.toArray] w fun e w' => e = .returned (.tuple #[.string (solveOf m l v t).1, .int .i64 (solveOf m l v t).2]) ∧ Below w.heap.size w w' := by
  obtain ⟨U1, u1, T1, e1, T2, e2, rfl, _⟩ := ModuleR.form hm
  obtain ⟨L1, l1, rfl, _⟩ := hl.form
  obtain ⟨A2, n2, rfl⟩ := TyR.form htr
  have hfree : freeOf m [] ≤ 24 := by
    have h1 := modErr_small hm0
    have h2 : freeOf m [] ≤ m.types.length := List.countP_le_length
    omega
  have hca := fun U (hU : Below w.heap.size w U) =>
    solved_any m l hm0 hl0 300 f v [] t U1 T1 T2 L1 none u1 e1 e2 l1 0 _ U ht hf (by omega) (by simp; omega) (now_up ModuleR.stays hm hU) (now_lup ImportR.stays hl hU) SliceOf.nil_ (now_up TyR.stays htr hU)
  unfold solveOf
  generalize solveN m l 300 v [] t = r at hca ⊢
  obtain ⟨S, C⟩ := r
  dsimp only [List.length_nil] at hca ⊢
  have HCA := Lib.hid hca
  clear hca
  clear hm hl htr ht hf hm0 hl0 hfree
  go_enter Tryd.func82, Tryd.ntmps82
  go_upto_region 1 with fail
  have hBm1 := ((Box.made w 26 #[.slice U1 m.uses.length u1, .slice T1 m.types.length e1, .slice T2 m.funcs.length e2]).alloc (.cells #[.int .i64 t.kind, .string t.of_, .string t.name, .slice A2 t.args.length n2] 85))
  have hBm2 := (Box.made (w.alloc (.cells #[.slice U1 m.uses.length u1, .slice T1 m.types.length e1, .slice T2 m.funcs.length e2] 26)) 85 #[.int .i64 t.kind, .string t.of_, .string t.name, .slice A2 t.args.length n2])
  rw [show (w.alloc (.cells #[.slice U1 m.uses.length u1, .slice T1 m.types.length e1, .slice T2 m.funcs.length e2] 26)).heap.size = w.heap.size + 1 by simp only [World.size_alloc]] at hBm2
  have hbm : Below w.heap.size w ((w.alloc (.cells #[.slice U1 m.uses.length u1, .slice T1 m.types.length e1, .slice T2 m.funcs.length e2] 26)).alloc (.cells #[.int .i64 t.kind, .string t.of_, .string t.name, .slice A2 t.args.length n2] 85)) := by go_grown
  have hzm : ((w.alloc (.cells #[.slice U1 m.uses.length u1, .slice T1 m.types.length e1, .slice T2 m.funcs.length e2] 26)).alloc (.cells #[.int .i64 t.kind, .string t.of_, .string t.name, .slice A2 t.args.length n2] 85)).heap.size = w.heap.size + 1 + 1 := by simp only [World.size_alloc]
  generalize (w.alloc (.cells #[.slice U1 m.uses.length u1, .slice T1 m.types.length e1, .slice T2 m.funcs.length e2] 26)).alloc (.cells #[.int .i64 t.kind, .string t.of_, .string t.name, .slice A2 t.args.length n2] 85) = W1 at hBm1 hBm2 hbm hzm ⊢
  have m0 := hBm1.at_ 0 _ rfl
  have m1 := hBm1.at_ 1 _ rfl
  have m2 := hBm1.at_ 2 _ rfl
  have t0 := hBm2.at_ 0 _ rfl
  have t1 := hBm2.at_ 1 _ rfl
  have t2 := hBm2.at_ 2 _ rfl
  have t3 := hBm2.at_ 3 _ rfl
  have HB := Lib.hid hbm
  clear hbm
  clear hzm hBm1 hBm2
  go_wp2_with fail
  refine (HCA.out _ HB.out).mono ?_
  rintro e W2 ⟨rfl, hb2⟩
  have hbw : Below w.heap.size w W2 := HB.out.trans (hb2.mono HB.out.size)
  have HBW := Lib.hid hbw
  clear hbw
  clear hb2
  go_wp2_with fail
  go_ret2
  exact ⟨rfl, HBW.out⟩

end Go.Proofs.YthedfpcdibhfpaaDoor
