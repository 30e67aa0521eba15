/- What is wrong with expressions, functions, modules: the reference's exprFault, funcFault, ModuleFault. -/
import Derived.Test.YtjaladhdnbhliaaGreatDoorTreeErr
import Derived.Deep.Light
import Derived.Deep.DeepCutAuto
import Derived.Deep.CutBlock
namespace Go.Proofs.YtjaladhdnbhliaaGreatDoor
open Go.RowKit Go.Shelf

/-- An expression's own fault, its arguments left aside. -/
def exOwn5 (k n : Int) (o s : ByteArray) (m : Nat) : Int :=
  if k < 1 ∨ 7 < k then 3
  else if 8 < m then 1
  else if (k ≠ 1 ∧ n ≠ 0) ∨ (k ≠ 4 ∧ o.size ≠ 0) then 4
  else if exOk k o s m = false then 4
  else if k = 1 ∧ (n < 0 ∨ 999999 < n) then 2 else 0
def exOwn (x : Ex) : Int := exOwn5 x.kind x.n x.of_ x.s x.args.length
theorem exErr_step (f : Nat) (x : Ex) : exErr (f + 1) x = if exOwn x = 0 then eachErr (exErr f) x.args else exOwn x := by
  obtain ⟨k, n, o, s, args⟩ := x
  show exErr (f + 1) (.mk k n o s args) = if exOwn5 k n o s args.length = 0 then eachErr (exErr f) args else exOwn5 k n o s args.length
  conv => lhs; unfold exErr
  unfold exOwn5
  by_cases h1 : k < 1 ∨ 7 < k
  · simp only [if_pos h1]; rfl
  · simp only [if_neg h1]
    by_cases h2 : 8 < args.length
    · simp only [if_pos h2]; rfl
    · simp only [if_neg h2]
      by_cases h3 : (k ≠ 1 ∧ n ≠ 0) ∨ (k ≠ 4 ∧ o.size ≠ 0)
      · simp only [if_pos h3]; rfl
      · simp only [if_neg h3]
        by_cases h4 : exOk k o s args.length = false
        · simp only [if_pos h4]; rfl
        · simp only [if_neg h4]
          by_cases h5 : k = 1 ∧ (n < 0 ∨ 999999 < n)
          · simp only [if_pos h5]; rfl
          · simp only [if_neg h5]; rfl
theorem toList_nil {s : ByteArray} : s.toList = [] ↔ s.size = 0 := by
  rw [ByteArray.toList_eq, ← List.length_eq_zero_iff]; rfl
theorem exErr_own {f : Nat} {x : Ex} {e : Int} (h : exOwn x = e) (h0 : e ≠ 0) : exErr (f + 1) x = e := by
  rw [exErr_step, if_neg (by rw [h]; exact h0), h]
theorem exErr_args {f : Nat} {x : Ex} (h : exOwn x = 0) : exErr (f + 1) x = eachErr (exErr f) x.args := by
  rw [exErr_step, if_pos h]

set_option maxRecDepth 100000 in
set_option maxHeartbeats 16000000 in
theorem exprFault_any : ∀ (f : Nat) (x : Ex) (d : Int) (cs : List Value) (F : Foot) (w : World), d + f = 11 → f ≤ 10 → ExR w F cs x → (∀ k, F k → k < w.heap.size) →
    Calls Tryz.prog 210 #[.agg cs.toArray, .int .i64 d] w fun e w' => e = .returned (.int .i64 (exErr f x)) ∧ Below w.heap.size w w' := by
  intro f
  induction f with
  | zero =>
    intro x d cs F w hd _ ht hF
    obtain ⟨n, ht⟩ := ht
    cases n with
    | zero => exact ht.elim
    | succ n =>
      obtain ⟨av, rfl, _, _, _, _, hav⟩ := ht
      obtain ⟨A, cap, rfl, _⟩ := hav.form
      have hdz : 10 < d := by omega
      clear hav hd
      go_enter Tryz.func210, Tryz.ntmps210
      go_wp2_with fail
      go_ret
      exact ⟨rfl, by go_grown⟩
  | succ f ih =>
    intro x d cs F w hd hf ht hF
    obtain ⟨n, ht⟩ := ht
    cases n with
    | zero => exact ht.elim
    | succ n =>
      obtain ⟨av, rfl, hk, hn, ho, hs, hav⟩ := ht
      obtain ⟨E, hE⟩ : ∃ E, exErr (f + 1) x = E := ⟨_, rfl⟩
      rw [hE]
      have hown := fun e (h : exOwn x = e) (h0 : e ≠ 0) => (hE.symm.trans (exErr_own (f := f) h h0) : E = e)
      have hargs := fun (h : exOwn x = 0) => exErr_args (f := f) h
      obtain ⟨k, m, o, s, args⟩ := x
      simp only [Ex.kind, Ex.n, Ex.of_, Ex.s, Ex.args] at *
      obtain ⟨A, cap, rfl, _, _, hl1, _⟩ := hav.form
      have hdz : ¬ 10 < d := by omega
      have hdl : 1 ≤ d := by omega
      obtain ⟨hk1, hk2⟩ := hk
      obtain ⟨hm1, hm2⟩ := hn
      unfold okS at ho hs
      have HD := Lib.hid hd; have HIH := Lib.hid ih; have HE := Lib.hid hE; have HO := Lib.hid hown; have HAR := Lib.hid hargs; have HAV := Lib.hid hav
      clear hd ih hE hown hargs hav
      go_enter Tryz.func210, Tryz.ntmps210
      go_upto_region 1 with fail
      have hB := Box.made w 81 #[.int .i64 k, .int .i64 m, .string o, .string s, .slice A args.length cap]
      have hb0 : Below w.heap.size w (w.alloc (.cells #[.int .i64 k, .int .i64 m, .string o, .string s, .slice A args.length cap] 81)) := by go_grown
      generalize w.alloc (.cells #[.int .i64 k, .int .i64 m, .string o, .string s, .slice A args.length cap] 81) = W1 at hB hb0 ⊢
      have x0 := hB.at_ 0 _ rfl
      have x1 := hB.at_ 1 _ rfl
      have x2 := hB.at_ 2 _ rfl
      have x3 := hB.at_ 3 _ rfl
      have x4 := hB.at_ 4 _ rfl
      have HB := Lib.hid hB; have Hb0 := Lib.hid hb0
      clear hB hb0
      by_cases hr : 1 ≤ k ∧ k ≤ 7
      · have hq : inB k 1 7 = true := by simp [inB]; omega
        by_cases h8 : 8 < args.length
        · have h8z : (8 : Int) < (args.length : Int) := by omega
          have HF := Lib.hid (HO.out 1 (by show exOwn5 k m o s args.length = 1; unfold exOwn5; rw [if_neg (by omega), if_pos h8]) (by decide))
          clear hr
          go_wp2_with (go_at_call 139; refine (in_any _ _ _ _).mono ?_; rintro e w' ⟨rfl, rfl⟩)
          go_ret
          exact ⟨ret_int HF.out.symm, Hb0.out⟩
        · have h8z : ¬ (8 : Int) < (args.length : Int) := by omega
          obtain ⟨hr1, hr2⟩ := hr
          go_upto_region 8 with (go_at_call 139; refine (in_any _ _ _ _).mono ?_; rintro e w' ⟨rfl, rfl⟩)
          go_cut [37] (fun s37 wc => ∃ z : Bool, s37 = .bool z ∧ W1 = wc ∧ Aside (z = true ↔ (k ≠ 1 ∧ m ≠ 0) ∨ (k ≠ 4 ∧ o.size ≠ 0)))
          case first =>
            cases hb1 : (k != 1) <;> cases hb2 : (m != 0) <;> cases hb3 : (k != 4) <;> cases hb4 : o.toList.isEmpty
            all_goals go_wp2_with fail
            all_goals (go_meet; refine ⟨_, rfl, rfl, ?_⟩; show _ ↔ _; rw [str_isEmpty] at hb4; simp only [bne_iff_ne, bne_eq_false_iff_eq, ne_eq, decide_eq_true_eq, decide_eq_false_iff_not] at hb1 hb2 hb3 hb4; (first | exact ⟨(fun _ => (by omega)), (fun _ => rfl)⟩ | exact ⟨(fun h => (by cases h)), (fun h => (by omega))⟩))
          case rest =>
            obtain ⟨z, rfl, rfl, hz⟩ := hcut
            cases z with
            | true =>
              have HF := Lib.hid (HO.out 4 (by show exOwn5 k m o s args.length = 4; unfold exOwn5; rw [if_neg (by omega), if_neg h8, if_pos (hz.out.1 rfl)]) (by decide))
              go_wp2_with fail
              go_ret
              exact ⟨ret_int HF.out.symm, Hb0.out⟩
            | false =>
              have HZ := Lib.hid (show ¬ ((k ≠ 1 ∧ m ≠ 0) ∨ (k ≠ 4 ∧ o.size ≠ 0)) from fun h => by have := hz.out.2 h; cases this)
              clear hz
              go_upto_block 0 with fail
              go_cut [6] (fun s6 wc => ∃ z : Bool, s6 = .bool z ∧ W1 = wc ∧ Aside (z = exOk k o s args.length))
              case first =>
                have hkk : k = 1 ∨ k = 2 ∨ k = 3 ∨ k = 4 ∨ k = 5 ∨ k = 6 ∨ k = 7 := by omega
                rcases hkk with rfl | rfl | rfl | rfl | rfl | rfl | rfl
                all_goals go_wp2_with (first | (go_at_call 98; refine (nameMay_any _ _ (by assumption)).mono ?_; rintro e w' ⟨rfl, rfl⟩) | (go_at_call 205; refine (quoteMay_any _ _ (by assumption)).mono ?_; rintro e w' ⟨rfl, rfl⟩))
                all_goals (go_meet; refine ⟨_, rfl, rfl, ?_⟩; show _ = _; go_light; (try simp only [toList_nil] at *); rw [Bool.eq_iff_iff]; simp_all [exOk, str_isEmpty]; try omega)
              case rest =>
                obtain ⟨z, rfl, rfl, hz⟩ := hcut
                cases z with
                | false =>
                  have HF := Lib.hid (HO.out 4 (by show exOwn5 k m o s args.length = 4; unfold exOwn5; rw [if_neg (by omega), if_neg h8, if_neg HZ.out, if_pos hz.out.symm]) (by decide))
                  go_wp2_with fail
                  go_ret
                  exact ⟨ret_int HF.out.symm, Hb0.out⟩
                | true =>
                  have HZ2 := Lib.hid (show ¬ exOk k o s args.length = false by rw [← hz.out]; decide)
                  clear hz
                  go_upto_region 25 with fail
                  go_cut [108] (fun s108 wc => ∃ z : Bool, s108 = .bool z ∧ W1 = wc ∧ Aside (z = true ↔ k = 1 ∧ (m < 0 ∨ 999999 < m)))
                  case first =>
                    cases hb1 : (k == 1) <;> cases hb2 : inB m 0 999999
                    all_goals go_wp2_with (go_at_call 139; refine (in_any _ _ _ _).mono ?_; rintro e w' ⟨rfl, rfl⟩)
                    all_goals (go_meet; refine ⟨_, rfl, rfl, ?_⟩; show _ ↔ _; simp [inB] at hb1 hb2 ⊢; try omega)
                  case rest =>
                    obtain ⟨z, rfl, rfl, hz⟩ := hcut
                    cases z with
                    | true =>
                      have HF := Lib.hid (HO.out 2 (by show exOwn5 k m o s args.length = 2; unfold exOwn5; rw [if_neg (by omega), if_neg h8, if_neg HZ.out, if_neg HZ2.out, if_pos (hz.out.1 rfl)]) (by decide))
                      go_wp2_with fail
                      go_ret
                      exact ⟨ret_int HF.out.symm, Hb0.out⟩
                    | false =>
                      have HF := Lib.hid (show E = eachErr (exErr f) args from HE.out.symm.trans (HAR.out (by show exOwn5 k m o s args.length = 0; unfold exOwn5; rw [if_neg (by omega), if_neg h8, if_neg HZ.out, if_neg HZ2.out, if_neg (fun h => by have := hz.out.2 h; cases this)])))
                      clear hz
                      go_wp2_with fail
                      go_loopg [7, 8] args.length (fun gg s7 _ wr => ∃ kk : Nat, kk ≤ args.length ∧ args.length - kk ≤ gg ∧ s7 = .int .i64 kk ∧ Aside (Below W1.heap.size W1 wr) ∧ Aside (∀ j, j < kk → ∀ y, args[j]? = some y → exErr f y = 0))
                      case atStart => exact ⟨0, Nat.zero_le _, by omega, rfl, Below.refl _ _, aside (fun j hj => absurd hj (Nat.not_lt_zero _))⟩
                      case round =>
                        obtain ⟨kk, hkk, hg, rfl, BW, Al⟩ := hrel
                        have hB1 := HB.out.later BW.out HB.out.lt
                        have y4 := hB1.at_ 4 _ rfl
                        have hbw := Hb0.out.trans (BW.out.mono Hb0.out.size)
                        clear hB1
                        by_cases hlt : kk < args.length
                        · have hltz : (kk : Int) < (args.length : Int) := by omega
                          obtain ⟨b1, off, cs, rfl, hb, hcs, hr, hcell⟩ := (HAV.out.stays (ExRn.stays n) (fun _ h => h) (Keeps.of_below hbw hF)).at_ hlt
                          obtain ⟨c0, c1, c2, c3, c4, rfl⟩ := five_cells hcs
                          have hc0 := hcell 0 _ rfl
                          have hc1 := hcell 1 _ rfl
                          have hc2 := hcell 2 _ rfl
                          have hc3 := hcell 3 _ rfl
                          have hc4 := hcell 4 _ rfl
                          simp only [Nat.add_zero] at hc0
                          have hx := List.getElem?_eq_getElem hlt
                          generalize args[kk] = y at *
                          have HX := Lib.hid hx
                          have hcl := HIH.out y (d + 1) [c0, c1, c2, c3, c4] F wr (by have := HD.out; omega) (by omega) ⟨n, hr⟩ (foot_up hF hbw)
                          obtain ⟨z, hz⟩ : ∃ z, exErr f y = z := ⟨_, rfl⟩
                          rw [hz] at hcl
                          have HZ3 := Lib.hid hz; have HC := Lib.hid hcl; have HBW := Lib.hid hbw
                          clear hx hcell hcl hz hbw hr hcs
                          by_cases hz0 : z = 0
                          · subst hz0
                            go_wp2_with (go_at_call 210; refine HC.out.mono ?_; rintro e w' ⟨rfl, hb'⟩)
                            go_roundg (args.length - (kk + 1))
                            case measure => omega
                            case rel => exact ⟨kk + 1, by omega, by omega, by go_num, aside (BW.out.trans (hb'.mono BW.out.size)), aside (good_succ HX.out HZ3.out Al.out)⟩
                          · have hzn : (z != 0) = true := by simp [hz0]
                            go_wp2_with (go_at_call 210; refine HC.out.mono ?_; rintro e w' ⟨rfl, hb'⟩)
                            go_ret
                            exact ⟨ret_int (by rw [HF.out]; exact (eachErr_hit HX.out HZ3.out hz0 Al.out).symm), HBW.out.trans (hb'.mono HBW.out.size)⟩
                        · have hltz : ¬ (kk : Int) < (args.length : Int) := by omega
                          obtain rfl : kk = args.length := by omega
                          have HBW := Lib.hid hbw
                          clear hbw
                          go_wp2_with fail
                          go_ret
                          exact ⟨ret_int (by rw [HF.out]; exact (eachErr_none Al.out).symm), HBW.out⟩
      · have hq : inB k 1 7 = false := by simp [inB]; omega
        have HF := Lib.hid (HO.out 3 (by show exOwn5 k m o s args.length = 3; unfold exOwn5; rw [if_pos (by omega)]) (by decide))
        clear hr
        go_wp2_with (go_at_call 139; refine (in_any _ _ _ _).mono ?_; rintro e w' ⟨rfl, rfl⟩)
        go_ret
        exact ⟨ret_int HF.out.symm, Hb0.out⟩

end Go.Proofs.YtjaladhdnbhliaaGreatDoor
