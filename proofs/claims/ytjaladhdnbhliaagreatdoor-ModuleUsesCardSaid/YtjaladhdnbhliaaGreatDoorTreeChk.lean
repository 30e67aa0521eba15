/- Types that must be right: tree.kind. -/
import Derived.Test.YtjaladhdnbhliaaGreatDoorTreeErr2
import Derived.Test.YtjaladhdnbhliaaGreatDoorFault
namespace Go.Proofs.YtjaladhdnbhliaaGreatDoor
open Go.RowKit Go.Shelf

theorem TyR.form {w : World} {F : Foot} {cs : List Value} {t : Ty} (h : TyR w F cs t) : ∃ A c, cs = [.int .i64 t.kind, .string t.of_, .string t.name, .slice A t.args.length c] := by
  obtain ⟨n, h⟩ := h
  cases n with
  | zero => exact h.elim
  | succ n =>
    obtain ⟨av, rfl, _, _, _, hav⟩ := h
    obtain ⟨A, c, rfl, _⟩ := hav.form
    exact ⟨A, c, rfl⟩
theorem tyErr_range {f : Nat} {k : Int} {o nm : ByteArray} {args : List Ty} (h : k < 1 ∨ 4 < k) : tyErr (f + 1) (.mk k o nm args) = 3 := by unfold tyErr; rw [if_pos h]
theorem tyErr_list {f : Nat} {o nm : ByteArray} {a : Ty} (h : nm.size = 0 ∧ o.size = 0) : tyErr (f + 1) (.mk 3 o nm [a]) = tyErr f a := by
  conv => lhs; unfold tyErr
  rw [if_neg (by decide), if_pos rfl]; simp only; rw [if_pos h]
theorem tyErr_list_no {f : Nat} {o nm : ByteArray} {a : Ty} (h : ¬ (nm.size = 0 ∧ o.size = 0)) : tyErr (f + 1) (.mk 3 o nm [a]) = 4 := by
  unfold tyErr
  rw [if_neg (by decide), if_pos rfl]; simp only; rw [if_neg h]
theorem tyErr_list_many {f : Nat} {o nm : ByteArray} {args : List Ty} (h : args.length ≠ 1) : tyErr (f + 1) (.mk 3 o nm args) = 4 := by
  unfold tyErr
  rw [if_neg (by decide), if_pos rfl]
  match args, h with
  | [], _ => rfl
  | [_], h => exact absurd rfl h
  | _ :: _ :: _, _ => rfl
theorem tyErr_args {f : Nat} {k : Int} {o nm : ByteArray} {args : List Ty} (h : ¬ (k < 1 ∨ 4 < k)) (h3 : k ≠ 3) (ha : args.length ≠ 0) : tyErr (f + 1) (.mk k o nm args) = 4 := by unfold tyErr; rw [if_neg h, if_neg h3, if_pos ha]
theorem tyErr_named {f : Nat} {o nm : ByteArray} : tyErr (f + 1) (.mk 4 o nm []) = if nameOk nm = true ∧ (o.size = 0 ∨ nameOk o = true) then 0 else 4 := by
  unfold tyErr; rw [if_neg (by decide), if_neg (by decide), if_neg (by simp), if_pos rfl]
theorem tyErr_plain {f : Nat} {k : Int} {o nm : ByteArray} (h : k = 1 ∨ k = 2) : tyErr (f + 1) (.mk k o nm []) = if nm.size = 0 ∧ o.size = 0 then 0 else 4 := by
  unfold tyErr; rw [if_neg (by omega), if_neg (by omega), if_neg (by simp), if_neg (by omega)]

set_option maxRecDepth 100000 in
set_option maxHeartbeats 2000000 in
theorem kind_any : ∀ (f : Nat) (t : Ty) (d : Int) (cs : List Value) (F : Foot) (w : World), d + f = 11 → f ≤ 10 → TyR w F cs t → (∀ k, F k → k < w.heap.size) →
    Calls Tryz.prog 72 #[.agg cs.toArray, .int .i64 d] w fun e w' => e = faultEnd (tyErr f t) ∧ Below w.heap.size w w' := by
  intro f
  induction f with
  | zero =>
    intro t d cs F w hd _ ht hF
    obtain ⟨n, ht⟩ := ht
    cases n with
    | zero => exact ht.elim
    | succ n =>
      obtain ⟨av, rfl, _, _, _, hav⟩ := ht
      obtain ⟨A, cap, rfl, _⟩ := hav.form
      have hdz : ¬ d ≤ 10 := by omega
      clear hav hd
      go_enter Tryz.func72, Tryz.ntmps72
      go_wp2_with fail
      refine (need_no _ _).mono ?_
      rintro e w' ⟨rfl, rfl⟩
      go_wp2_with fail
      exact ⟨rfl, rfl, by go_grown⟩
  | succ f ih =>
    intro t d cs F w hd hf ht hF
    obtain ⟨n, ht⟩ := ht
    cases n with
    | zero => exact ht.elim
    | succ n =>
      obtain ⟨av, rfl, _, ho, hnm, hav⟩ := ht
      obtain ⟨k, o, nm, args⟩ := t
      dsimp only [Ty.kind, Ty.of_, Ty.name, Ty.args] at *
      obtain ⟨A, cap, rfl, _, _, hlen, _⟩ := hav.form
      have hdz : d ≤ 10 := by omega
      have hdl : 1 ≤ d := by omega
      obtain ⟨E, hE⟩ : ∃ E, tyErr (f + 1) (.mk k o nm args) = E := ⟨_, rfl⟩
      rw [hE]
      have hni := fun W => ident_any nm W hnm
      have hoi := fun W => ident_any o W ho
      obtain ⟨z1, hz1⟩ : ∃ z, nameOk nm = z := ⟨_, rfl⟩
      obtain ⟨z2, hz2⟩ : ∃ z, nameOk o = z := ⟨_, rfl⟩
      rw [hz1] at hni; rw [hz2] at hoi
      have hes := str_isEmpty nm
      have heo := str_isEmpty o
      have HNI := Lib.hid hni; have HOI := Lib.hid hoi; have Z1 := Lib.hid hz1; have Z2 := Lib.hid hz2; have HAV := Lib.hid hav; have HE := Lib.hid hE; have IH := Lib.hid ih; have HES := Lib.hid hes; have HEO := Lib.hid heo; have HD := Lib.hid hd
      clear hni hoi hz1 hz2 hav hE ih hes heo hd
      by_cases hr : k < 1 ∨ 4 < k
      · have hE0 : E = 3 := by rw [← HE.out, tyErr_range hr]
        subst hE0
        by_cases h1 : 1 ≤ k
        · have h2 : decide (k ≤ 4) = false := decide_eq_false (by omega)
          clear hr
          go_enter Tryz.func72, Tryz.ntmps72
          go_wp2_with (first | (go_at_call 71; (with_reducible refine (need_yes _ _).mono ?_); rintro e w' ⟨rfl, rfl⟩) | (go_at_call 71; (with_reducible refine (need_no _ _).mono ?_); rintro e w' ⟨rfl, rfl⟩))
          exact ⟨rfl, rfl, by go_grown⟩
        · clear hr
          go_enter Tryz.func72, Tryz.ntmps72
          go_wp2_with (first | (go_at_call 71; (with_reducible refine (need_yes _ _).mono ?_); rintro e w' ⟨rfl, rfl⟩) | (go_at_call 71; (with_reducible refine (need_no _ _).mono ?_); rintro e w' ⟨rfl, rfl⟩))
          exact ⟨rfl, rfl, by go_grown⟩
      · have hk : k = 1 ∨ k = 2 ∨ k = 3 ∨ k = 4 := by omega
        by_cases h3 : k = 3
        · subst h3
          clear hk hr
          match args, HE, HAV, hlen with
          | [a], HE, HAV, hlen =>
            cases hq1 : nm.toList.isEmpty <;> cases hq2 : o.toList.isEmpty
            case true.true =>
              have hs : nm.size = 0 ∧ o.size = 0 := ⟨size_zero hq1, size_zero hq2⟩
              have hE0 := HE.out
              rw [tyErr_list hs] at hE0
              obtain ⟨b, off, cs, rfl, hb, hcs, hra, hcell⟩ := HAV.out.at_ (k := 0) (by simp)
              obtain ⟨A2, n2, rfl⟩ := TyR.form (⟨n, hra⟩ : TyR w F _ a)
              have hc0 := hcell 0 _ rfl
              have hc1 := hcell 1 _ rfl
              have hc2 := hcell 2 _ rfl
              have hc3 := hcell 3 _ rfl
              simp only [Nat.zero_mul, Nat.add_zero] at hc0 hc1 hc2 hc3
              have hca := fun U (hU : Below w.heap.size w U) => IH.out a (d + 1) [.int .i64 a.kind, .string a.of_, .string a.name, .slice A2 a.args.length n2] F U (by have := HD.out; omega) (by omega) (TyR.stays.later ⟨n, hra⟩ hU hF) (foot_up hF hU)
              rw [hE0] at hca
              have hlt := hF _ hb
              have HCA := Lib.hid hca
              clear hca
              clear hE0 hcell hcs hra hs
              go_enter Tryz.func72, Tryz.ntmps72
              go_wp2_with (first | (go_at_call 71; (with_reducible refine (need_yes _ _).mono ?_); rintro e w' ⟨rfl, rfl⟩) | (go_at_call 71; (with_reducible refine (need_no _ _).mono ?_); rintro e w' ⟨rfl, rfl⟩))
              refine wp_loop_rounds 2 ?_
              rw [rounds_succ]
              go_wp2_with fail
              refine (HCA.out _ (by go_grown)).mono ?_
              rintro e W2 ⟨rfl, hb2⟩
              by_cases hE0 : E = 0
              · subst hE0
                rw [faultEnd_ok]
                go_wp2_with fail
                rw [rounds_succ]
                go_wp2_with fail
                go_end0
                exact ⟨rfl, Below.trans (by go_grown) (hb2.mono (by simp <;> omega))⟩
              · rw [faultEnd_no hE0]
                go_wp2_with fail
                exact ⟨rfl, (faultEnd_no hE0).symm, Below.trans (by go_grown) (hb2.mono (by simp <;> omega))⟩
            all_goals
              have hs : ¬ (nm.size = 0 ∧ o.size = 0) := fun h => by
                have e1 := HES.out; have e2 := HEO.out
                rw [h.1, hq1] at e1; rw [h.2, hq2] at e2
                first | (cases e1; done) | (cases e2; done)
              have hE0 : E = 4 := by rw [← HE.out, tyErr_list_no hs]
              subst hE0
              clear hs
              go_enter Tryz.func72, Tryz.ntmps72
              go_wp2_with (first | (go_at_call 71; (with_reducible refine (need_yes _ _).mono ?_); rintro e w' ⟨rfl, rfl⟩) | (go_at_call 71; (with_reducible refine (need_no _ _).mono ?_); rintro e w' ⟨rfl, rfl⟩))
              exact ⟨rfl, rfl, by go_grown⟩
          | [], HE, HAV, hlen =>
            have hE0 : E = 4 := by rw [← HE.out, tyErr_list_many (by simp)]
            subst hE0
            go_enter Tryz.func72, Tryz.ntmps72
            go_wp2_with (first | (go_at_call 71; (with_reducible refine (need_yes _ _).mono ?_); rintro e w' ⟨rfl, rfl⟩) | (go_at_call 71; (with_reducible refine (need_no _ _).mono ?_); rintro e w' ⟨rfl, rfl⟩))
            exact ⟨rfl, rfl, by go_grown⟩
          | a :: b :: r, HE, HAV, hlen =>
            have hE0 : E = 4 := by rw [← HE.out, tyErr_list_many (by simp)]
            subst hE0
            have hn1 : (((a :: b :: r).length : Int) == 1) = false := by simp; omega
            generalize (a :: b :: r).length = L at *
            go_enter Tryz.func72, Tryz.ntmps72
            go_wp2_with (first | (go_at_call 71; (with_reducible refine (need_yes _ _).mono ?_); rintro e w' ⟨rfl, rfl⟩) | (go_at_call 71; (with_reducible refine (need_no _ _).mono ?_); rintro e w' ⟨rfl, rfl⟩))
            exact ⟨rfl, rfl, by go_grown⟩
        · have hk3 : ((k : Int) == 3) = false := by simp [h3]
          match args, HE, HAV, hlen with
          | [], HE, HAV, hlen =>
            by_cases h4 : k = 4
            · subst h4
              clear hk hr h3 hk3
              have hE0 := HE.out
              rw [tyErr_named, Z1.out, Z2.out] at hE0
              have HE0 := Lib.hid hE0
              clear hE0
              go_enter Tryz.func72, Tryz.ntmps72
              go_wp2_with (first | (go_at_call 71; (with_reducible refine (need_yes _ _).mono ?_); rintro e w' ⟨rfl, rfl⟩) | (go_at_call 71; (with_reducible refine (need_no _ _).mono ?_); rintro e w' ⟨rfl, rfl⟩))
              have hBb := Box.made w 75 #[.int .i64 4, .string o, .string nm, .slice A 0 cap]
              have hbb : Below w.heap.size w (w.alloc (.cells #[.int .i64 4, .string o, .string nm, .slice A 0 cap] 75)) := by go_grown
              have hzb : (w.alloc (.cells #[.int .i64 4, .string o, .string nm, .slice A 0 cap] 75)).heap.size = w.heap.size + 1 := by simp
              generalize w.alloc (.cells #[.int .i64 4, .string o, .string nm, .slice A 0 cap] 75) = W1 at hBb hbb hzb ⊢
              refine (HNI.out _).mono ?_
              rintro e W2 ⟨rfl, hb2⟩
              have hB2 := hBb.later hb2 hBb.lt
              have x1 := hB2.at_ 1 _ rfl
              have x2 := hB2.at_ 2 _ rfl
              have x3 := hB2.at_ 3 _ rfl
              have hbw := hbb.trans (hb2.mono hbb.size)
              have HB2 := Lib.hid hB2; have HBW := Lib.hid hbw
              clear hB2 hbw
              clear hBb hbb hb2 hzb
              cases z1 with
              | false =>
                go_wp2_with (first | (go_at_call 71; (with_reducible refine (need_yes _ _).mono ?_); rintro e w' ⟨rfl, rfl⟩) | (go_at_call 71; (with_reducible refine (need_no _ _).mono ?_); rintro e w' ⟨rfl, rfl⟩))
                exact ⟨rfl, by rw [← HE0.out]; rfl, HBW.out⟩
              | true =>
                cases hq : o.toList.isEmpty with
                | true =>
                  go_wp2_with (first | (go_at_call 71; (with_reducible refine (need_yes _ _).mono ?_); rintro e w' ⟨rfl, rfl⟩) | (go_at_call 71; (with_reducible refine (need_no _ _).mono ?_); rintro e w' ⟨rfl, rfl⟩))
                  refine wp_loop_rounds 1 ?_
                  rw [rounds_succ]
                  go_wp2_with fail
                  go_end0
                  exact ⟨by rw [← HE0.out, if_pos ⟨trivial, .inl (size_zero hq)⟩]; rfl, HBW.out⟩
                | false =>
                  go_wp2_with (first | (go_at_call 71; (with_reducible refine (need_yes _ _).mono ?_); rintro e w' ⟨rfl, rfl⟩) | (go_at_call 71; (with_reducible refine (need_no _ _).mono ?_); rintro e w' ⟨rfl, rfl⟩))
                  refine (HOI.out _).mono ?_
                  rintro e W3 ⟨rfl, hb3⟩
                  have hB3 := HB2.out.later hb3 HB2.out.lt
                  clear x1 x2 x3
                  have y3 := hB3.at_ 3 _ rfl
                  have hbw := HBW.out.trans (hb3.mono HBW.out.size)
                  have HBW3 := Lib.hid hbw
                  clear hbw
                  clear hb3 hB3
                  cases z2 with
                  | false =>
                    go_wp2_with (first | (go_at_call 71; (with_reducible refine (need_yes _ _).mono ?_); rintro e w' ⟨rfl, rfl⟩) | (go_at_call 71; (with_reducible refine (need_no _ _).mono ?_); rintro e w' ⟨rfl, rfl⟩))
                    exact ⟨rfl, by rw [← HE0.out, if_neg (fun h => h.2.elim (size_pos hq) (by simp))]; rfl, HBW3.out⟩
                  | true =>
                    go_wp2_with (first | (go_at_call 71; (with_reducible refine (need_yes _ _).mono ?_); rintro e w' ⟨rfl, rfl⟩) | (go_at_call 71; (with_reducible refine (need_no _ _).mono ?_); rintro e w' ⟨rfl, rfl⟩))
                    refine wp_loop_rounds 1 ?_
                    rw [rounds_succ]
                    go_wp2_with fail
                    go_end0
                    exact ⟨by rw [← HE0.out, if_pos ⟨trivial, .inr trivial⟩]; rfl, HBW3.out⟩
            · have hk12 : k = 1 ∨ k = 2 := by omega
              have hE0 := HE.out
              rw [tyErr_plain hk12] at hE0
              have HE0 := Lib.hid hE0
              clear hE0
              clear hk hr h3 hk3 h4
              rcases hk12 with rfl | rfl <;> cases hq1 : nm.toList.isEmpty <;> cases hq2 : o.toList.isEmpty
              case inl.true.true | inr.true.true =>
                have hz : E = 0 := by rw [← HE0.out, if_pos ⟨size_zero hq1, size_zero hq2⟩]
                subst hz
                go_enter Tryz.func72, Tryz.ntmps72
                go_wp2_with (first | (go_at_call 71; (with_reducible refine (need_yes _ _).mono ?_); rintro e w' ⟨rfl, rfl⟩) | (go_at_call 71; (with_reducible refine (need_no _ _).mono ?_); rintro e w' ⟨rfl, rfl⟩))
                refine wp_loop_rounds 1 ?_
                rw [rounds_succ]
                go_wp2_with fail
                go_end0
                exact ⟨rfl, by go_grown⟩
              all_goals
                have hz : E = 4 := by
                  rw [← HE0.out, if_neg]
                  intro h
                  have e1 := HES.out; have e2 := HEO.out
                  rw [h.1, hq1] at e1; rw [h.2, hq2] at e2
                  first | (cases e1; done) | (cases e2; done)
                subst hz
                go_enter Tryz.func72, Tryz.ntmps72
                go_wp2_with (first | (go_at_call 71; (with_reducible refine (need_yes _ _).mono ?_); rintro e w' ⟨rfl, rfl⟩) | (go_at_call 71; (with_reducible refine (need_no _ _).mono ?_); rintro e w' ⟨rfl, rfl⟩))
                exact ⟨rfl, rfl, by go_grown⟩
          | [a], HE, HAV, hlen =>
            have hE0 : E = 4 := by rw [← HE.out, tyErr_args hr h3 (by simp)]
            subst hE0
            clear hr h3
            have h1 : 1 ≤ k := by omega
            have h2 : k ≤ 4 := by omega
            clear hk
            go_enter Tryz.func72, Tryz.ntmps72
            go_wp2_with (first | (go_at_call 71; (with_reducible refine (need_yes _ _).mono ?_); rintro e w' ⟨rfl, rfl⟩) | (go_at_call 71; (with_reducible refine (need_no _ _).mono ?_); rintro e w' ⟨rfl, rfl⟩))
            exact ⟨rfl, rfl, by go_grown⟩
          | a :: b :: r, HE, HAV, hlen =>
            have hE0 : E = 4 := by rw [← HE.out, tyErr_args hr h3 (by simp)]
            subst hE0
            have hn1 : (((a :: b :: r).length : Int) == 1) = false := by simp; omega
            have hn2 : ¬ (((a :: b :: r).length : Int) < 2) := by simp; omega
            have h1 : 1 ≤ k := by omega
            have h2 : k ≤ 4 := by omega
            clear hr h3 hk
            generalize (a :: b :: r).length = L at *
            go_enter Tryz.func72, Tryz.ntmps72
            go_wp2_with (first | (go_at_call 71; (with_reducible refine (need_yes _ _).mono ?_); rintro e w' ⟨rfl, rfl⟩) | (go_at_call 71; (with_reducible refine (need_no _ _).mono ?_); rintro e w' ⟨rfl, rfl⟩))
            exact ⟨rfl, rfl, by go_grown⟩

end Go.Proofs.YtjaladhdnbhliaaGreatDoor
