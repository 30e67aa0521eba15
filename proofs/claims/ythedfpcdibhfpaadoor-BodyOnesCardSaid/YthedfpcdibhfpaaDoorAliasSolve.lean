/- What a type is: (*alias.solver).solve. -/
import Derived.Test.YthedfpcdibhfpaaDoorSolveName
import Derived.Test.YthedfpcdibhfpaaDoorSolveFrom
namespace Go.Proofs.YthedfpcdibhfpaaDoor
open Go.RowKit Go.Shelf

set_option maxRecDepth 100000 in
set_option maxHeartbeats 8000000 in
theorem solve_any (m : Module) (l : List Import) (hm0 : modErr m = 0) (hl0 : importsErr l = 0) : ∀ n, SolveAt m l n
  | 0 => by
    intro f v us t b U1 T1 T2 L1 S1 u1 e1 e2 l1 s1 cs w ht hf hn
    obtain rfl : f = 0 := by omega
    exact absurd ht (by unfold tyErr; decide)
  | n + 1 => by
    have ih := solve_any m l hm0 hl0 n
    intro f v us t b U1 T1 T2 L1 S1 u1 e1 e2 l1 s1 cs w ht hf hn hu hv hm hl hus hB htr
    cases f with
    | zero => exact absurd ht (by unfold tyErr; decide)
    | succ f =>
    obtain ⟨k, o, nm, args⟩ := t
    obtain ⟨av, rfl, ho, hnm, hav⟩ : ∃ av, cs = [.int .i64 k, .string o, .string nm, av] ∧ okS o ∧ okS nm ∧ SliceOf TyR 4 64 w (old w.heap.size) av args := by
      obtain ⟨d, htr⟩ := htr
      cases d with
      | zero => exact htr.elim
      | succ d =>
        obtain ⟨av, rfl, _, h1, h2, h3⟩ := htr
        exact ⟨av, rfl, h1, h2, h3.mono_R fun _ _ h => ⟨d, h⟩⟩
    clear htr
    obtain ⟨A, cap, rfl, _, _, hlen, _⟩ := hav.form
    have hB0 := hB.lt
    have hst := small_of_err hl0
    have x0 := hB.at_ 0 _ rfl
    have x1 := hB.at_ 1 _ rfl
    have x2 := hB.at_ 2 _ rfl
    have x3 := hB.at_ 3 _ rfl
    have x4 := hB.at_ 4 _ rfl
    have x5 := hB.at_ 5 _ rfl
    rcases tyErr_cases ht with rfl | rfl | ⟨rfl, a, rfl, hta⟩ | ⟨rfl, hno⟩
    · rw [solve_int]
      clear ht hn ih hm hl hus hav hB hst
      go_enter Tryd.func129, Tryd.ntmps129
      go_wp2_with fail
      go_ret2
      exact ⟨rfl, by go_grown⟩
    · rw [solve_text]
      clear ht hn ih hm hl hus hav hB hst
      go_enter Tryd.func129, Tryd.ntmps129
      go_wp2_with fail
      go_ret2
      exact ⟨rfl, by go_grown⟩
    · rw [solve_list]
      obtain ⟨b1, off, cs, rfl, hbF, hcs, hra, hcell⟩ := hav.at_ (k := 0) (by simp)
      obtain ⟨A2, n2, rfl⟩ := TyR.form hra
      have hc0 := hcell 0 _ rfl
      have hc1 := hcell 1 _ rfl
      have hc2 := hcell 2 _ rfl
      have hc3 := hcell 3 _ rfl
      simp only [Nat.add_zero] at hc0
      simp only [Nat.zero_mul, Nat.add_zero] at hc0 hc1 hc2 hc3
      have hlb : b1 < w.heap.size := hbF
      have hca := fun U (hU : Below w.heap.size w U) => ih f v us a b U1 T1 T2 L1 S1 u1 e1 e2 l1 s1 _ U hta (by omega) (by omega) hu hv (now_up ModuleR.stays hm hU) (now_lup ImportR.stays hl hU) (now_lup StrR.stays hus hU) (hB.later hU hB.lt) (now_up TyR.stays hra hU)
      have hsm := solve_small (m := m) hst n v us a
      simp only [List.getElem_cons_zero] at *
      generalize solveN m l n v us a = r at *
      obtain ⟨S, C⟩ := r
      dsimp only at hca hsm ⊢
      have hlo := fun W => listOf_any S W (by omega)
      generalize listErr S = X at hlo ⊢
      generalize listTxt S = Y at hlo ⊢
      obtain ⟨E, hE⟩ : ∃ E, (if C ≠ 0 then ((⟨#[]⟩ : ByteArray), C) else if X ≠ 0 then (⟨#[]⟩, 5) else (Y, 0)) = E := ⟨_, rfl⟩
      rw [hE]
      have HCA := Lib.hid hca; have HLO := Lib.hid hlo; have HE := Lib.hid hE
      clear hca hlo hE
      clear ht hn ih hm hl hus hav hB hst hcell hra hsm
      go_enter Tryd.func129, Tryd.ntmps129
      go_wp2_with fail
      refine (HCA.out _ (by go_grown)).mono ?_
      rintro e W2 ⟨rfl, hb2⟩
      have hbw : Below w.heap.size w W2 := Below.trans (by go_grown) (hb2.mono (by simp <;> omega))
      have HBW := Lib.hid hbw
      clear hbw
      clear hb2
      by_cases hC : C = 0
      · subst hC
        go_wp2_with fail
        refine (HLO.out _).mono ?_
        rintro e W3 ⟨rfl, rfl⟩
        by_cases hX : X = 0
        · subst hX
          obtain rfl : E = (Y, 0) := by rw [← HE.out, if_neg (by simp), if_neg (by simp)]
          go_wp2_with fail
          go_ret2
          exact ⟨rfl, HBW.out⟩
        · obtain rfl : E = (⟨#[]⟩, 5) := by rw [← HE.out, if_neg (by simp), if_pos hX]
          have hXz : (X == 0) = false := by simp [hX]
          go_wp2_with fail
          go_ret2
          exact ⟨rfl, HBW.out⟩
      · obtain rfl : E = (⟨#[]⟩, C) := by rw [← HE.out, if_pos hC]
        have hCz : (C == 0) = false := by simp [hC]
        go_wp2_with fail
        go_ret2
        exact ⟨rfl, HBW.out⟩
    · have hnp := nameOk_pos hno
      by_cases ho0 : o.size = 0
      · obtain rfl : o = ⟨#[]⟩ := by
          apply data_inj
          have h0 : o.data.toList.length = 0 := by simpa using ho0
          rw [List.length_eq_zero_iff.1 h0]
        by_cases hv0 : nm = v
        · subst hv0
          rw [solve_var rfl rfl]
          have hq : (nm.toList == nm.toList) = true := by simp
          clear ht hn ih hm hl hus hav hst
          go_enter Tryd.func129, Tryd.ntmps129
          go_upto_region 19 with fail
          have hBt := Box.made w 85 #[.int .i64 4, .string ⟨#[]⟩, .string nm, .slice A args.length cap]
          have hbt : Below w.heap.size w (w.alloc (.cells #[.int .i64 4, .string ⟨#[]⟩, .string nm, .slice A args.length cap] 85)) := by go_grown
          have hzt : (w.alloc (.cells #[.int .i64 4, .string ⟨#[]⟩, .string nm, .slice A args.length cap] 85)).heap.size = w.heap.size + 1 := by simp
          generalize w.alloc (.cells #[.int .i64 4, .string ⟨#[]⟩, .string nm, .slice A args.length cap] 85) = W1 at hBt hbt hzt ⊢
          have hBs := hB.later hbt hB.lt
          have s4 := hBs.at_ 4 _ rfl
          have t2 := hBt.at_ 2 _ rfl
          have HBT := Lib.hid hbt
          clear hbt
          clear hBs hBt hzt hB
          go_quiet (fail)
          go_wp2_with fail
          go_ret2
          exact ⟨rfl, below_drewN HBT.out _⟩
        · exact solveNamed_any m l hm0 n f ih v us nm args A cap b U1 T1 T2 L1 S1 u1 e1 e2 l1 s1 w hv0 hnm hn hu hm hl hus hB
      · exact solveFrom_any m l hl0 n v us o nm args A cap b U1 T1 T2 L1 S1 u1 e1 e2 l1 s1 w ho0 hm hl hB

end Go.Proofs.YthedfpcdibhfpaaDoor
