/- Expressions that must be right: tree.expr. -/
import Derived.Test.YtjaladhdnbhliaaGreatDoorTreeErr2
import Derived.Test.YtjaladhdnbhliaaGreatDoorTreeChk
import Derived.Deep.Light
namespace Go.Proofs.YtjaladhdnbhliaaGreatDoor
open Go.RowKit Go.Shelf

theorem ExR.form {w : World} {F : Foot} {cs : List Value} {t : Ex} (h : ExR w F cs t) : ∃ A c, cs = [.int .i64 t.kind, .int .i64 t.n, .string t.of_, .string t.s, .slice A t.args.length c] := by
  obtain ⟨n, h⟩ := h
  cases n with
  | zero => exact h.elim
  | succ n =>
    obtain ⟨av, rfl, _, _, _, _, hav⟩ := h
    obtain ⟨A, c, rfl, _⟩ := hav.form
    exact ⟨A, c, rfl⟩
theorem ExRn.ofR {w : World} {F : Foot} {cs : List Value} {t : Ex} {n : Nat} (h : ExRn n w F cs t) : ExR w F cs t := ⟨n, h⟩

theorem both_true {p q : Prop} [Decidable p] [Decidable q] (h : p ∧ q) : (decide p && decide q) = true := by simp [h.1, h.2]
theorem both_false {p q : Prop} [Decidable p] [Decidable q] (h : ¬ (p ∧ q)) : (decide p && decide q) = false := by
  cases hp : decide p
  · rfl
  · cases hq : decide q
    · rfl
    · exact absurd ⟨of_decide_eq_true hp, of_decide_eq_true hq⟩ h
theorem exOk_1 (o s : ByteArray) (L : Nat) : exOk 1 o s L = (decide (s.size = 0) && decide (L = 0)) := rfl
theorem exOk_5 (o s : ByteArray) (L : Nat) : exOk 5 o s L = (decide (s.size = 0) && decide (L = 2)) := rfl
theorem exOk_7 (o s : ByteArray) (L : Nat) : exOk 7 o s L = (decide (s.size = 0) && decide (L = 2)) := rfl
theorem exOk_6 (o s : ByteArray) (L : Nat) : exOk 6 o s L = (decide (s.size = 0) && decide (1 ≤ L)) := rfl
theorem exOk_2 (o s : ByteArray) (L : Nat) : exOk 2 o s L = (quoteOk s && decide (L = 0)) := rfl
theorem exOk_3 (o s : ByteArray) (L : Nat) : exOk 3 o s L = (nameOk s && decide (L = 0)) := rfl
theorem exOk_4 (o s : ByteArray) (L : Nat) : exOk 4 o s L = (nameOk s && (decide (o.size = 0) || nameOk o)) := rfl
theorem own_0 {k m : Int} {o s : ByteArray} {L : Nat} (hr : 1 ≤ k ∧ k ≤ 7) (h8 : ¬ 8 < L) (h3 : ¬ ((k ≠ 1 ∧ m ≠ 0) ∨ (k ≠ 4 ∧ o.size ≠ 0))) (he : exOk k o s L = true) (h1 : ¬ (k = 1 ∧ (m < 0 ∨ 999999 < m))) : exOwn5 k m o s L = 0 := by
  unfold exOwn5; rw [if_neg (by omega), if_neg h8, if_neg h3, if_neg (by simp [he]), if_neg h1]
theorem own_2 {k m : Int} {o s : ByteArray} {L : Nat} (_hr : 1 ≤ k ∧ k ≤ 7) (h8 : ¬ 8 < L) (h3 : ¬ ((k ≠ 1 ∧ m ≠ 0) ∨ (k ≠ 4 ∧ o.size ≠ 0))) (he : exOk k o s L = true) (h1 : k = 1 ∧ (m < 0 ∨ 999999 < m)) : exOwn5 k m o s L = 2 := by
  unfold exOwn5; rw [if_neg (by omega), if_neg h8, if_neg h3, if_neg (by simp [he]), if_pos h1]
theorem own_4 {k m : Int} {o s : ByteArray} {L : Nat} (hr : 1 ≤ k ∧ k ≤ 7) (h8 : ¬ 8 < L) (h3 : ¬ ((k ≠ 1 ∧ m ≠ 0) ∨ (k ≠ 4 ∧ o.size ≠ 0))) (he : exOk k o s L = false) : exOwn5 k m o s L = 4 := by
  unfold exOwn5; rw [if_neg (by omega), if_neg h8, if_neg h3, if_pos he]

set_option maxRecDepth 100000 in
set_option maxHeartbeats 4000000 in
theorem expr_any : ∀ (f : Nat) (x : Ex) (d : Int) (cs : List Value) (F : Foot) (w : World), d + f = 11 → f ≤ 10 → ExR w F cs x → (∀ k, F k → k < w.heap.size) →
    Calls Tryz.prog 116 #[.agg cs.toArray, .int .i64 d] w fun e w' => e = faultEnd (exErr f x) ∧ Below w.heap.size w w' := by
  intro f
  induction f with
  | zero =>
    intro x d cs F w hd _ ht hF
    obtain ⟨A, cap, rfl⟩ := ExR.form ht
    have hdz : decide (d ≤ 10) = false := decide_eq_false (by omega)
    clear ht hd
    go_enter Tryz.func116, Tryz.ntmps116
    go_wp2_with (first | (go_at_call 71; (with_reducible refine (need_yes _ _).mono ?_); rintro e w' ⟨rfl, rfl⟩) | (go_at_call 71; (with_reducible refine (need_no _ _).mono ?_); rintro e w' ⟨rfl, rfl⟩))
    exact ⟨rfl, rfl, by go_grown⟩
  | succ f ih =>
    intro x d cs F w hd hf ht hF
    obtain ⟨n, ht⟩ := ht
    cases n with
    | zero => exact ht.elim
    | succ n =>
      obtain ⟨av, rfl, hk, hn, ho, hs, hav⟩ := ht
      obtain ⟨E, hE⟩ : ∃ E, exErr (f + 1) x = E := ⟨_, rfl⟩
      rw [hE]
      have hown := fun e (h : exOwn x = e) (h0 : e ≠ 0) => (hE.symm.trans (exErr_own (f := f) h h0) : E = e)
      have hargs := fun (h : exOwn x = 0) => exErr_args (f := f) h
      obtain ⟨k, m, o, s, args⟩ := x
      simp only [Ex.kind, Ex.n, Ex.of_, Ex.s, Ex.args] at *
      have hown : ∀ e, exOwn5 k m o s args.length = e → e ≠ 0 → E = e := hown
      have hargs : exOwn5 k m o s args.length = 0 → exErr (f + 1) (.mk k m o s args) = eachErr (exErr f) args := hargs
      obtain ⟨A, cap, rfl, _, _, hl1, _⟩ := hav.form
      have hdz : d ≤ 10 := by omega
      have hdl : 1 ≤ d := by omega
      have hqs := fun W => quotable_any s W hs
      have his := fun W => ident_any s W hs
      have hio := fun W => ident_any o W ho
      obtain ⟨hk1, hk2⟩ := hk
      obtain ⟨hm1, hm2⟩ := hn
      have HD := Lib.hid hd; have HIH := Lib.hid ih; have HE := Lib.hid hE; have HO := Lib.hid hown; have HAR := Lib.hid hargs; have HAV := Lib.hid hav; have HQS := Lib.hid hqs; have HIS := Lib.hid his; have HIO := Lib.hid hio; have Hs := Lib.hid hs; have Ho := Lib.hid ho
      clear hd ih hE hown hargs hav hqs his hio hs ho
      by_cases hr : 1 ≤ k ∧ k ≤ 7
      · obtain ⟨hr1, hr2⟩ := hr
        by_cases h8 : 8 < args.length
        · have h8z : ((args.length : Int) ≤ 8) = False := by simp; omega
          have HF := HO.out 1 (by show exOwn5 k m o s args.length = 1; unfold exOwn5; rw [if_neg (by omega), if_pos h8]) (by decide)
          subst HF
          go_enter Tryz.func116, Tryz.ntmps116
          go_wp2_with (first | (go_at_call 71; (with_reducible refine (need_yes _ _).mono ?_); rintro e w' ⟨rfl, rfl⟩) | (go_at_call 71; (with_reducible refine (need_no _ _).mono ?_); rintro e w' ⟨rfl, rfl⟩))
          exact ⟨rfl, rfl, by go_grown⟩
        · have h8z : (args.length : Int) ≤ 8 := by omega
          go_enter Tryz.func116, Tryz.ntmps116
          go_upto_region 5 with (first | (go_at_call 71; (with_reducible refine (need_yes _ _).mono ?_); rintro e w' ⟨rfl, rfl⟩) | (go_at_call 71; (with_reducible refine (need_no _ _).mono ?_); rintro e w' ⟨rfl, rfl⟩))
          have hBb := Box.made w 81 #[.int .i64 k, .int .i64 m, .string o, .string s, .slice A args.length cap]
          have hbb : Below w.heap.size w (w.alloc (.cells #[.int .i64 k, .int .i64 m, .string o, .string s, .slice A args.length cap] 81)) := by go_grown
          have hzb : (w.alloc (.cells #[.int .i64 k, .int .i64 m, .string o, .string s, .slice A args.length cap] 81)).heap.size = w.heap.size + 1 := by simp
          generalize w.alloc (.cells #[.int .i64 k, .int .i64 m, .string o, .string s, .slice A args.length cap] 81) = W1 at hBb hbb hzb ⊢
          have x0 := hBb.at_ 0 _ rfl
          have x1 := hBb.at_ 1 _ rfl
          have x2 := hBb.at_ 2 _ rfl
          have x3 := hBb.at_ 3 _ rfl
          have x4 := hBb.at_ 4 _ rfl
          have HB := Lib.hid hBb; have Hb0 := Lib.hid hbb; have Hz := Lib.hid hzb
          clear hBb hbb hzb
          go_cut [] (fun wc => W1 = wc ∧ Aside (¬ ((k ≠ 1 ∧ m ≠ 0) ∨ (k ≠ 4 ∧ o.size ≠ 0))))
          case first =>
            cases hb1 : (k == 1) <;> cases hb2 : (m == 0) <;> cases hb3 : (k == 4) <;> cases hb4 : o.toList.isEmpty
            all_goals go_wp2_with (first | (go_at_call 71; (with_reducible refine (need_yes _ _).mono ?_); rintro e w' ⟨rfl, rfl⟩) | (go_at_call 71; (with_reducible refine (need_no _ _).mono ?_); rintro e w' ⟨rfl, rfl⟩))
            all_goals
              rw [str_isEmpty] at hb4
              simp only [beq_iff_eq, beq_eq_false_iff_ne, ne_eq, decide_eq_true_eq, decide_eq_false_iff_not] at hb1 hb2 hb3 hb4
              first
                | (go_meet; exact ⟨rfl, aside (by omega)⟩)
                | (refine ⟨rfl, ?_, Hb0.out⟩; rw [HO.out 4 (by show exOwn5 k m o s args.length = 4; unfold exOwn5; rw [if_neg (by omega), if_neg h8, if_pos (by omega)]) (by decide)]; rfl)
          case rest =>
            obtain ⟨rfl, h3⟩ := hcut
            go_upto_block 0 with fail
            go_cut [] (fun wc => Aside (exOwn5 k m o s args.length = 0) ∧ Aside (Below W1.heap.size W1 wc))
            case first =>
              have hkk : k = 1 ∨ k = 5 ∨ k = 6 ∨ k = 7 ∨ k = 2 ∨ k = 3 ∨ k = 4 := by omega
              rcases hkk with rfl | rfl | rfl | rfl | rfl | rfl | rfl
              · cases hb1 : s.toList.isEmpty <;> cases hb2 : ((args.length : Int) == 0) <;> cases hb3 : decide (0 ≤ m) <;> cases hb4 : decide (m ≤ 999999)
                all_goals go_wp2_with (first | (go_at_call 71; (with_reducible refine (need_yes _ _).mono ?_); rintro e w' ⟨rfl, rfl⟩) | (go_at_call 71; (with_reducible refine (need_no _ _).mono ?_); rintro e w' ⟨rfl, rfl⟩))
                all_goals
                  rw [str_isEmpty] at hb1
                  simp only [beq_iff_eq, beq_eq_false_iff_ne, ne_eq, decide_eq_true_eq, decide_eq_false_iff_not] at hb1 hb2 hb3 hb4
                  first
                    | (go_meet; exact ⟨aside (own_0 ⟨hr1, hr2⟩ h8 h3.out (by rw [exOk_1]; exact both_true (by omega)) (by omega)), aside (Below.refl _ _)⟩)
                    | (refine ⟨rfl, ?_, Hb0.out⟩; rw [HO.out 4 (own_4 ⟨hr1, hr2⟩ h8 h3.out (by rw [exOk_1]; exact both_false (by omega))) (by decide)]; rfl)
                    | (refine ⟨rfl, ?_, Hb0.out⟩; rw [HO.out 2 (own_2 ⟨hr1, hr2⟩ h8 h3.out (by rw [exOk_1]; exact both_true (by omega)) (by omega)) (by decide)]; rfl)
              · cases hb1 : s.toList.isEmpty <;> cases hb2 : ((args.length : Int) == 2)
                all_goals go_wp2_with (first | (go_at_call 71; (with_reducible refine (need_yes _ _).mono ?_); rintro e w' ⟨rfl, rfl⟩) | (go_at_call 71; (with_reducible refine (need_no _ _).mono ?_); rintro e w' ⟨rfl, rfl⟩))
                all_goals
                  rw [str_isEmpty] at hb1
                  simp only [beq_iff_eq, beq_eq_false_iff_ne, ne_eq, decide_eq_true_eq, decide_eq_false_iff_not] at hb1 hb2
                  first
                    | (go_meet; exact ⟨aside (own_0 ⟨hr1, hr2⟩ h8 h3.out (by rw [exOk_5]; exact both_true (by omega)) (by omega)), aside (Below.refl _ _)⟩)
                    | (refine ⟨rfl, ?_, Hb0.out⟩; rw [HO.out 4 (own_4 ⟨hr1, hr2⟩ h8 h3.out (by rw [exOk_5]; exact both_false (by omega))) (by decide)]; rfl)
              · cases hb1 : s.toList.isEmpty <;> cases hb2 : decide (0 < args.length)
                all_goals go_wp2_with (first | (go_at_call 71; (with_reducible refine (need_yes _ _).mono ?_); rintro e w' ⟨rfl, rfl⟩) | (go_at_call 71; (with_reducible refine (need_no _ _).mono ?_); rintro e w' ⟨rfl, rfl⟩))
                all_goals
                  rw [str_isEmpty] at hb1
                  simp only [decide_eq_true_eq, decide_eq_false_iff_not] at hb1 hb2
                  first
                    | (go_meet; exact ⟨aside (own_0 ⟨hr1, hr2⟩ h8 h3.out (by rw [exOk_6]; exact both_true (by omega)) (by omega)), aside (Below.refl _ _)⟩)
                    | (refine ⟨rfl, ?_, Hb0.out⟩; rw [HO.out 4 (own_4 ⟨hr1, hr2⟩ h8 h3.out (by rw [exOk_6]; exact both_false (by omega))) (by decide)]; rfl)
              · cases hb1 : s.toList.isEmpty <;> cases hb2 : ((args.length : Int) == 2)
                all_goals go_wp2_with (first | (go_at_call 71; (with_reducible refine (need_yes _ _).mono ?_); rintro e w' ⟨rfl, rfl⟩) | (go_at_call 71; (with_reducible refine (need_no _ _).mono ?_); rintro e w' ⟨rfl, rfl⟩))
                all_goals
                  rw [str_isEmpty] at hb1
                  simp only [beq_iff_eq, beq_eq_false_iff_ne, ne_eq, decide_eq_true_eq, decide_eq_false_iff_not] at hb1 hb2
                  first
                    | (go_meet; exact ⟨aside (own_0 ⟨hr1, hr2⟩ h8 h3.out (by rw [exOk_7]; exact both_true (by omega)) (by omega)), aside (Below.refl _ _)⟩)
                    | (refine ⟨rfl, ?_, Hb0.out⟩; rw [HO.out 4 (own_4 ⟨hr1, hr2⟩ h8 h3.out (by rw [exOk_7]; exact both_false (by omega))) (by decide)]; rfl)
              · have hq := HQS.out
                obtain ⟨z, hz⟩ : ∃ z, quoteOk s = z := ⟨_, rfl⟩
                rw [hz] at hq
                have HQ := Lib.hid hq; have Z := Lib.hid hz
                clear hq hz
                cases z <;> cases hb2 : ((args.length : Int) == 0)
                all_goals go_wp2_with (first | (go_at_call 184; (with_reducible refine (HQ.out _).mono ?_); rintro e W2 ⟨rfl, hb2⟩; have HB2 := Lib.hid hb2; clear hb2) | (go_at_call 71; (with_reducible refine (need_yes _ _).mono ?_); rintro e w' ⟨rfl, rfl⟩) | (go_at_call 71; (with_reducible refine (need_no _ _).mono ?_); rintro e w' ⟨rfl, rfl⟩))
                all_goals
                  have hz := Z.out
                  simp only [beq_iff_eq, beq_eq_false_iff_ne, ne_eq] at hb2
                  first
                    | (go_meet; exact ⟨aside (own_0 ⟨hr1, hr2⟩ h8 h3.out (by rw [exOk_2, hz]; first | (simp; done) | simpa using hb2) (by omega)), aside HB2.out⟩)
                    | (refine ⟨rfl, ?_, Hb0.out.trans (HB2.out.mono Hb0.out.size)⟩; rw [HO.out 4 (own_4 ⟨hr1, hr2⟩ h8 h3.out (by rw [exOk_2, hz]; first | (simp; done) | simpa using hb2)) (by decide)]; rfl)
              · have hq := HIS.out
                obtain ⟨z, hz⟩ : ∃ z, nameOk s = z := ⟨_, rfl⟩
                rw [hz] at hq
                have HQ := Lib.hid hq; have Z := Lib.hid hz
                clear hq hz
                cases z <;> cases hb2 : ((args.length : Int) == 0)
                all_goals go_wp2_with (first | (go_at_call 61; (with_reducible refine (HQ.out _).mono ?_); rintro e W2 ⟨rfl, hb2⟩; have HB2 := Lib.hid hb2; clear hb2) | (go_at_call 71; (with_reducible refine (need_yes _ _).mono ?_); rintro e w' ⟨rfl, rfl⟩) | (go_at_call 71; (with_reducible refine (need_no _ _).mono ?_); rintro e w' ⟨rfl, rfl⟩))
                all_goals
                  have hz := Z.out
                  simp only [beq_iff_eq, beq_eq_false_iff_ne, ne_eq] at hb2
                  first
                    | (go_meet; exact ⟨aside (own_0 ⟨hr1, hr2⟩ h8 h3.out (by rw [exOk_3, hz]; first | (simp; done) | simpa using hb2) (by omega)), aside HB2.out⟩)
                    | (refine ⟨rfl, ?_, Hb0.out.trans (HB2.out.mono Hb0.out.size)⟩; rw [HO.out 4 (own_4 ⟨hr1, hr2⟩ h8 h3.out (by rw [exOk_3, hz]; first | (simp; done) | simpa using hb2)) (by decide)]; rfl)
              · have hq := HIS.out
                obtain ⟨z, hz⟩ : ∃ z, nameOk s = z := ⟨_, rfl⟩
                rw [hz] at hq
                have hq2 := HIO.out
                obtain ⟨z2, hz2⟩ : ∃ z, nameOk o = z := ⟨_, rfl⟩
                rw [hz2] at hq2
                have HQ := Lib.hid hq; have Z := Lib.hid hz; have HQ2 := Lib.hid hq2; have Z2 := Lib.hid hz2
                clear hq hz hq2 hz2
                go_wp2_with fail
                refine (HQ.out _).mono ?_
                rintro e W2 ⟨rfl, hb2⟩
                have hB2 := HB.out.later hb2 HB.out.lt
                clear x0 x1 x2 x3 x4
                have x2 := hB2.at_ 2 _ rfl
                have HB2 := Lib.hid hB2; have HBW := Lib.hid hb2
                clear hB2 hb2
                cases z with
                | false =>
                  go_wp2_with (first | (go_at_call 71; (with_reducible refine (need_yes _ _).mono ?_); rintro e w' ⟨rfl, rfl⟩) | (go_at_call 71; (with_reducible refine (need_no _ _).mono ?_); rintro e w' ⟨rfl, rfl⟩))
                  refine ⟨rfl, ?_, Hb0.out.trans (HBW.out.mono Hb0.out.size)⟩
                  rw [HO.out 4 (own_4 ⟨hr1, hr2⟩ h8 h3.out (by simp [exOk, Z.out])) (by decide)]; rfl
                | true =>
                  cases hb4 : o.toList.isEmpty with
                  | true =>
                    go_wp2_with (first | (go_at_call 71; (with_reducible refine (need_yes _ _).mono ?_); rintro e w' ⟨rfl, rfl⟩) | (go_at_call 71; (with_reducible refine (need_no _ _).mono ?_); rintro e w' ⟨rfl, rfl⟩))
                    rw [str_isEmpty] at hb4
                    go_meet
                    exact ⟨aside (own_0 ⟨hr1, hr2⟩ h8 h3.out (by rw [exOk_4, Z.out, hb4]; rfl) (by omega)), aside HBW.out⟩
                  | false =>
                    go_wp2_with (first | (go_at_call 71; (with_reducible refine (need_yes _ _).mono ?_); rintro e w' ⟨rfl, rfl⟩) | (go_at_call 71; (with_reducible refine (need_no _ _).mono ?_); rintro e w' ⟨rfl, rfl⟩))
                    refine (HQ2.out _).mono ?_
                    rintro e W3 ⟨rfl, hb3⟩
                    have HB3 := Lib.hid (HBW.out.trans (hb3.mono HBW.out.size))
                    clear hb3
                    cases z2 with
                    | false =>
                      go_wp2_with (first | (go_at_call 71; (with_reducible refine (need_yes _ _).mono ?_); rintro e w' ⟨rfl, rfl⟩) | (go_at_call 71; (with_reducible refine (need_no _ _).mono ?_); rintro e w' ⟨rfl, rfl⟩))
                      rw [str_isEmpty] at hb4
                      refine ⟨rfl, ?_, Hb0.out.trans (HB3.out.mono Hb0.out.size)⟩
                      rw [HO.out 4 (own_4 ⟨hr1, hr2⟩ h8 h3.out (by rw [exOk_4, Z.out, hb4, Z2.out]; rfl)) (by decide)]; rfl
                    | true =>
                      go_wp2_with (first | (go_at_call 71; (with_reducible refine (need_yes _ _).mono ?_); rintro e w' ⟨rfl, rfl⟩) | (go_at_call 71; (with_reducible refine (need_no _ _).mono ?_); rintro e w' ⟨rfl, rfl⟩))
                      rw [str_isEmpty] at hb4
                      go_meet
                      exact ⟨aside (own_0 ⟨hr1, hr2⟩ h8 h3.out (by simp [exOk, Z.out, Z2.out]) (by omega)), aside HB3.out⟩
            case rest =>
              obtain ⟨h0, hbc⟩ := hcut
              have HF := Lib.hid (show E = eachErr (exErr f) args from HE.out.symm.trans (HAR.out h0.out))
              obtain ⟨W2, rfl⟩ : ∃ W, W = wc := ⟨_, rfl⟩
              have hB2 := HB.out.later hbc.out HB.out.lt
              clear x0 x1 x2 x3 x4 h0 h3
              have x4 := hB2.at_ 4 _ rfl
              have hbw := Hb0.out.trans (hbc.out.mono Hb0.out.size)
              have HB2 := Lib.hid hB2; have HBW := Lib.hid hbw
              clear hB2 hbw
              go_wp2_with fail
              go_loopg [122] args.length (fun gg s122 wr => ∃ kk : Nat, kk ≤ args.length ∧ args.length - kk ≤ gg ∧ s122 = .int .i64 kk ∧ Aside (Below W2.heap.size W2 wr) ∧ Aside (∀ j, j < kk → ∀ y, args[j]? = some y → exErr f y = 0))
              case atStart => exact ⟨0, Nat.zero_le _, by omega, rfl, Below.refl _ _, aside (fun j hj => absurd hj (Nat.not_lt_zero _))⟩
              case round =>
                obtain ⟨kk, hkk, hg, rfl, BW, Al⟩ := hrel
                have hbw := HBW.out.trans (BW.out.mono HBW.out.size)
                by_cases hlt : kk < args.length
                · have hltz : (kk : Int) < (args.length : Int) := by omega
                  obtain ⟨b1, off, cs, rfl, hb, hcs, hr, hcell⟩ := (HAV.out.stays (ExRn.stays n) (fun _ h => h) (Keeps.of_below hbw hF)).at_ hlt
                  obtain ⟨A2, n2, rfl⟩ := ExR.form (ExRn.ofR hr)
                  have hc0 := hcell 0 _ rfl
                  have hc1 := hcell 1 _ rfl
                  have hc2 := hcell 2 _ rfl
                  have hc3 := hcell 3 _ rfl
                  have hc4 := hcell 4 _ rfl
                  simp only [Nat.add_zero] at hc0
                  have hx := List.getElem?_eq_getElem hlt
                  generalize args[kk] = y at *
                  have hcl := fun U (hU : Below wr.heap.size wr U) => HIH.out y (d + 1) [.int .i64 y.kind, .int .i64 y.n, .string y.of_, .string y.s, .slice A2 y.args.length n2] F U (by have := HD.out; omega) (by omega) (ExR.stays.later (ExRn.ofR hr) hU (foot_up hF hbw)) (foot_up (foot_up hF hbw) hU)
                  obtain ⟨z, hz⟩ : ∃ z, exErr f y = z := ⟨_, rfl⟩
                  rw [hz] at hcl
                  have hbl := foot_up hF hbw _ hb
                  have HX := Lib.hid hx; have HZ3 := Lib.hid hz; have HC := Lib.hid hcl; have HBW3 := Lib.hid hbw
                  clear hx hz hcl hbw
                  clear hcell hr hcs
                  go_wp2_with fail
                  refine (HC.out _ (by go_grown)).mono ?_
                  rintro e W3 ⟨rfl, hb3⟩
                  have hb4 := Below.trans (show Below wr.heap.size wr _ by go_grown) (hb3.mono (by simp))
                  have HB4 := Lib.hid hb4
                  clear hb4
                  clear hb3
                  by_cases hz0 : z = 0
                  · subst hz0
                    rw [faultEnd_ok]
                    go_wp2_with fail
                    go_roundg (args.length - (kk + 1))
                    case measure => omega
                    case rel => exact ⟨kk + 1, by omega, by omega, by go_num, aside (BW.out.trans (HB4.out.mono BW.out.size)), aside (good_succ HX.out HZ3.out Al.out)⟩
                  · rw [faultEnd_no hz0]
                    go_wp2_with fail
                    refine ⟨rfl, ?_, HBW3.out.trans (HB4.out.mono HBW3.out.size)⟩
                    rw [HF.out, eachErr_hit HX.out HZ3.out hz0 Al.out, faultEnd_no hz0]
                · have hltz : ¬ (kk : Int) < (args.length : Int) := by omega
                  obtain rfl : kk = args.length := by omega
                  have HBW3 := Lib.hid hbw
                  clear hbw
                  go_wp2_with fail
                  go_end0
                  exact ⟨by rw [HF.out, eachErr_none Al.out]; rfl, HBW3.out⟩
      · have HF := HO.out 3 (by show exOwn5 k m o s args.length = 3; unfold exOwn5; rw [if_pos (by omega)]) (by decide)
        subst HF
        by_cases hr1 : 1 ≤ k
        · have hr2 : decide (k ≤ 7) = false := decide_eq_false (by omega)
          clear hr
          go_enter Tryz.func116, Tryz.ntmps116
          go_wp2_with (first | (go_at_call 71; (with_reducible refine (need_yes _ _).mono ?_); rintro e w' ⟨rfl, rfl⟩) | (go_at_call 71; (with_reducible refine (need_no _ _).mono ?_); rintro e w' ⟨rfl, rfl⟩))
          exact ⟨rfl, rfl, by go_grown⟩
        · clear hr
          go_enter Tryz.func116, Tryz.ntmps116
          go_wp2_with (first | (go_at_call 71; (with_reducible refine (need_yes _ _).mono ?_); rintro e w' ⟨rfl, rfl⟩) | (go_at_call 71; (with_reducible refine (need_no _ _).mono ?_); rintro e w' ⟨rfl, rfl⟩))
          exact ⟨rfl, rfl, by go_grown⟩

end Go.Proofs.YtjaladhdnbhliaaGreatDoor
