/- What is wrong with types, expressions, functions, modules: the reference's typeFault, exprFault, funcFault, ModuleFault. -/
import Derived.Test.YtjaladhdnbhliaaGreatDoorBase
import Derived.Test.YtjaladhdnbhliaaGreatDoorName
namespace Go.Proofs.YtjaladhdnbhliaaGreatDoor
open Go.RowKit Go.Shelf

/-- What is wrong with a type that may nest so deep; 0: nothing. -/
def tyErr : Nat → Ty → Int
  | 0, _ => 1
  | f + 1, .mk k o nm args =>
    if k < 1 ∨ 4 < k then 3
    else if k = 3 then (match args with
      | [a] => if nm.size = 0 ∧ o.size = 0 then tyErr f a else 4
      | _ => 4)
    else if args.length ≠ 0 then 4
    else if k = 4 then (if nameOk nm = true ∧ (o.size = 0 ∨ nameOk o = true) then 0 else 4)
    else if nm.size = 0 ∧ o.size = 0 then 0 else 4

/-- May an expression of a kind be? -/
def exOk (k : Int) (o s : ByteArray) (m : Nat) : Bool :=
  if k = 1 then decide (s.size = 0) && decide (m = 0)
  else if k = 2 then quoteOk s && decide (m = 0)
  else if k = 3 then nameOk s && decide (m = 0)
  else if k = 4 then nameOk s && (decide (o.size = 0) || nameOk o)
  else if k = 6 then decide (s.size = 0) && decide (1 ≤ m)
  else decide (s.size = 0) && decide (m = 2)
/-- What is wrong with an expression that may nest so deep; 0: nothing. -/
def exErr : Nat → Ex → Int
  | 0, _ => 1
  | f + 1, .mk k n o s args =>
    if k < 1 ∨ 7 < k then 3
    else if 8 < args.length then 1
    else if (k ≠ 1 ∧ n ≠ 0) ∨ (k ≠ 4 ∧ o.size ≠ 0) then 4
    else if exOk k o s args.length = false then 4
    else if k = 1 ∧ (n < 0 ∨ 999999 < n) then 2
    else eachErr (exErr f) args
def fieldErr (x : Field) : Int := if nameOk x.name then tyErr 10 x.is_ else 4
/-- What is wrong with a function. -/
def funErr (x : Func) : Int :=
  if nameOk x.name = false ∨ (x.var_.size ≠ 0 ∧ nameOk x.var_ = false) then 4
  else if 8 < x.params.length then 1
  else if eachErr fieldErr x.params ≠ 0 then eachErr fieldErr x.params
  else if tyErr 10 x.result ≠ 0 then tyErr 10 x.result
  else exErr 10 x.body
def useErr (s : ByteArray) : Int := if nameOk s then 0 else 4
/-- What is wrong with a module; 0: nothing. -/
def modErr (m : Module) : Int :=
  if 24 < m.uses.length + m.types.length + m.funcs.length then 1
  else if eachErr useErr m.uses ≠ 0 then eachErr useErr m.uses
  else if eachErr fieldErr m.types ≠ 0 then eachErr fieldErr m.types
  else eachErr funErr m.funcs

theorem size_zero {s : ByteArray} (h : s.toList.isEmpty = true) : s.size = 0 := by rw [str_isEmpty] at h; simpa using h
theorem size_pos {s : ByteArray} (h : s.toList.isEmpty = false) : s.size ≠ 0 := by rw [str_isEmpty] at h; simpa using h

set_option maxRecDepth 100000 in
set_option maxHeartbeats 4000000 in
theorem typeFault_any : ∀ (f : Nat) (t : Ty) (d : Int) (cs : List Value) (F : Foot) (w : World), d + f = 11 → f ≤ 10 → TyR w F cs t → (∀ k, F k → k < w.heap.size) →
    Calls Tryz.prog 147 #[.agg cs.toArray, .int .i64 d] w fun e w' => e = .returned (.int .i64 (tyErr f t)) ∧ Below w.heap.size w w' := by
  intro f
  induction f with
  | zero =>
    intro t d cs F w hd _ ht hF
    obtain ⟨n, ht⟩ := ht
    cases n with
    | zero => exact ht.elim
    | succ n =>
      obtain ⟨av, rfl, _, _, _, hav⟩ := ht
      obtain ⟨A, cap, rfl, _⟩ := hav.form
      have hdz : 10 < d := by omega
      clear hav hd
      go_enter Tryz.func147, Tryz.ntmps147
      go_wp2_with fail
      go_ret
      exact ⟨rfl, by go_grown⟩
  | succ f ih =>
    intro t d cs F w hd hf ht hF
    obtain ⟨n, ht⟩ := ht
    cases n with
    | zero => exact ht.elim
    | succ n =>
      obtain ⟨av, rfl, hk, ho, hn, hav⟩ := ht
      obtain ⟨k, o, nm, args⟩ := t
      simp only [Ty.kind, Ty.of_, Ty.name, Ty.args] at *
      obtain ⟨A, cap, rfl, _, _, hl1, _⟩ := hav.form
      have hdz : ¬ 10 < d := by omega
      have hdl : 1 ≤ d := by omega
      obtain ⟨hk1, hk2⟩ := hk
      have hnm := fun W => nameMay_any nm W hn
      have hof := fun W => nameMay_any o W ho
      obtain ⟨z1, hz1⟩ : ∃ z, nameOk nm = z := ⟨_, rfl⟩
      obtain ⟨z2, hz2⟩ : ∃ z, nameOk o = z := ⟨_, rfl⟩
      rw [hz1] at hnm; rw [hz2] at hof
      have Z1 := Lib.hid hz1; have Z2 := Lib.hid hz2; have HN := Lib.hid hnm; have HO := Lib.hid hof; have HD := Lib.hid hd
      clear hz1 hz2 hnm hof hd
      by_cases h3 : k = 3
      · subst h3
        by_cases h1 : args.length = 1
        · obtain ⟨a, rfl⟩ := List.length_eq_one_iff.1 h1
          obtain ⟨b1, off, cs, rfl, hb, hcs, hr, hcell⟩ := hav.at_ (k := 0) (by simp)
          simp only [List.getElem_cons_zero] at hr
          obtain ⟨c0, c1, c2, c3, rfl⟩ := four_cells hcs
          have hc0 := hcell 0 _ rfl
          have hc1 := hcell 1 _ rfl
          have hc2 := hcell 2 _ rfl
          have hc3 := hcell 3 _ rfl
          simp only [Nat.zero_mul, Nat.add_zero] at hc0 hc1 hc2 hc3
          have hrec := fun U (hU : Below w.heap.size w U) => ih a (d + 1) _ F U (by have := HD.out; omega) (by omega) (TyR.stays w U F F _ a ⟨n, hr⟩ (fun _ h => h) (Keeps.of_below hU hF)) (foot_up hF hU)
          have hT : tyErr (f + 1) (.mk 3 o nm [a]) = if nm.size = 0 ∧ o.size = 0 then tyErr f a else 4 := by simp [tyErr]
          have hbl : b1 < w.heap.size := hF _ hb
          have hq : inB 3 1 4 = true := by decide
          by_cases he : nm.size = 0 ∧ o.size = 0
          · rw [if_pos he] at hT
            have he1 : nm.toList.isEmpty = true := by rw [str_isEmpty]; simp [he.1]
            have he2 : o.toList.isEmpty = true := by rw [str_isEmpty]; simp [he.2]
            rw [hT]
            generalize tyErr f a = z at hrec ⊢
            have HR := Lib.hid hrec
            clear hrec hcell hr hav ih hT hcs h1 he
            go_enter Tryz.func147, Tryz.ntmps147
            go_wp2_with (go_at_call 139; refine (in_any _ _ _ _).mono ?_; rintro e w' ⟨rfl, rfl⟩)
            refine (HR.out _ (by go_grown)).mono ?_
            rintro e w' ⟨rfl, hb2⟩
            go_wp2_with fail
            go_ret
            exact ⟨rfl, Below.trans (by go_grown) (hb2.mono (by simp))⟩
          · rw [if_neg he] at hT
            rw [hT]
            clear hrec hcell hr hav ih hT hcs h1
            by_cases hz : nm.size = 0
            · have he1 : nm.toList.isEmpty = true := by rw [str_isEmpty]; simp [hz]
              have he2 : o.toList.isEmpty = false := by rw [str_isEmpty, decide_eq_false_iff_not]; exact fun h => he ⟨hz, h⟩
              clear he hz
              go_enter Tryz.func147, Tryz.ntmps147
              go_wp2_with (go_at_call 139; refine (in_any _ _ _ _).mono ?_; rintro e w' ⟨rfl, rfl⟩)
              go_ret
              exact ⟨rfl, by go_grown⟩
            · have he1 : nm.toList.isEmpty = false := by rw [str_isEmpty]; simp [hz]
              clear he hz
              go_enter Tryz.func147, Tryz.ntmps147
              go_wp2_with (go_at_call 139; refine (in_any _ _ _ _).mono ?_; rintro e w' ⟨rfl, rfl⟩)
              go_ret
              exact ⟨rfl, by go_grown⟩
        · have hT : tyErr (f + 1) (.mk 3 o nm args) = 4 := by
            unfold tyErr
            rw [if_neg (by decide), if_pos rfl]
            match args, h1 with
            | [], _ => rfl
            | [a], h => exact absurd rfl h
            | _ :: _ :: _, _ => rfl
          rw [hT]
          have hq : inB 3 1 4 = true := by decide
          have hl : ((args.length : Int) != 1) = true := by simp; omega
          clear hT ih hav h1
          go_enter Tryz.func147, Tryz.ntmps147
          go_wp2_with (go_at_call 139; refine (in_any _ _ _ _).mono ?_; rintro e w' ⟨rfl, rfl⟩)
          go_ret
          exact ⟨rfl, by go_grown⟩
      · have hk3 : (k == 3) = false := by simp [h3]
        obtain ⟨E, hE⟩ : ∃ E, tyErr (f + 1) (.mk k o nm args) = E := ⟨_, rfl⟩
        rw [hE]
        clear ih hav
        by_cases hr : 1 ≤ k ∧ k ≤ 4
        · have hq : inB k 1 4 = true := by simp [inB]; omega
          by_cases hl : args.length = 0
          · have hl0 : ((args.length : Int) != 0) = false := by simp [hl]
            by_cases h4 : k = 4
            · subst h4
              cases z1 with
              | false =>
                obtain rfl : E = 4 := by rw [← hE]; simp [tyErr, hl, Z1.out]
                clear hE hr h3 hl
                go_enter Tryz.func147, Tryz.ntmps147
                go_wp2_with (first | (go_at_call 139; refine (in_any _ _ _ _).mono ?_; rintro e w' ⟨rfl, rfl⟩) | (go_at_call 98; refine (HN.out _).mono ?_; rintro e w' ⟨rfl, rfl⟩))
                go_ret
                exact ⟨rfl, by go_grown⟩
              | true =>
                by_cases hz : o.size = 0
                · have he2 : o.toList.isEmpty = true := by rw [str_isEmpty]; simp [hz]
                  obtain rfl : E = 0 := by rw [← hE]; simp [tyErr, hl, Z1.out, hz]
                  clear hE hr h3 hl hz
                  go_enter Tryz.func147, Tryz.ntmps147
                  go_wp2_with (first | (go_at_call 139; refine (in_any _ _ _ _).mono ?_; rintro e w' ⟨rfl, rfl⟩) | (go_at_call 98; refine (HN.out _).mono ?_; rintro e w' ⟨rfl, rfl⟩))
                  go_ret
                  exact ⟨rfl, by go_grown⟩
                · have he2 : o.toList.isEmpty = false := by rw [str_isEmpty]; simp [hz]
                  cases z2 with
                  | true =>
                    obtain rfl : E = 0 := by rw [← hE]; simp [tyErr, hl, Z1.out, Z2.out]
                    clear hE hr h3 hl hz
                    go_enter Tryz.func147, Tryz.ntmps147
                    go_wp2_with fail
                    refine (in_any _ _ _ _).mono ?_
                    rintro e w' ⟨rfl, rfl⟩
                    go_wp2_with fail
                    refine (HN.out _).mono ?_
                    rintro e w' ⟨rfl, rfl⟩
                    go_wp2_with fail
                    refine (HO.out _).mono ?_
                    rintro e w' ⟨rfl, rfl⟩
                    go_wp2_with fail
                    go_ret
                    exact ⟨rfl, by go_grown⟩
                  | false =>
                    obtain rfl : E = 4 := by rw [← hE]; simp [tyErr, hl, Z1.out, Z2.out, hz]
                    clear hE hr h3 hl hz
                    go_enter Tryz.func147, Tryz.ntmps147
                    go_wp2_with fail
                    refine (in_any _ _ _ _).mono ?_
                    rintro e w' ⟨rfl, rfl⟩
                    go_wp2_with fail
                    refine (HN.out _).mono ?_
                    rintro e w' ⟨rfl, rfl⟩
                    go_wp2_with fail
                    refine (HO.out _).mono ?_
                    rintro e w' ⟨rfl, rfl⟩
                    go_wp2_with fail
                    go_ret
                    exact ⟨rfl, by go_grown⟩
            · have hk4 : (k == 4) = false := by simp [h4]
              have hk12 : ¬ (k < 1 ∨ 4 < k) := by omega
              by_cases hz : nm.size = 0
              · have he1 : nm.toList.isEmpty = true := by rw [str_isEmpty]; simp [hz]
                by_cases hz2 : o.size = 0
                · have he2 : o.toList.isEmpty = true := by rw [str_isEmpty]; simp [hz2]
                  obtain rfl : E = 0 := by rw [← hE]; unfold tyErr; rw [if_neg hk12, if_neg h3]; simp [hl, h4, hz, hz2]
                  clear hE hr h3 hl hz hz2 h4 hk12
                  go_enter Tryz.func147, Tryz.ntmps147
                  go_wp2_with (go_at_call 139; refine (in_any _ _ _ _).mono ?_; rintro e w' ⟨rfl, rfl⟩)
                  go_ret
                  exact ⟨rfl, by go_grown⟩
                · have he2 : o.toList.isEmpty = false := by rw [str_isEmpty]; simp [hz2]
                  obtain rfl : E = 4 := by rw [← hE]; unfold tyErr; rw [if_neg hk12, if_neg h3]; simp [hl, h4, hz, hz2]
                  clear hE hr h3 hl hz hz2 h4 hk12
                  go_enter Tryz.func147, Tryz.ntmps147
                  go_wp2_with (go_at_call 139; refine (in_any _ _ _ _).mono ?_; rintro e w' ⟨rfl, rfl⟩)
                  go_ret
                  exact ⟨rfl, by go_grown⟩
              · have he1 : nm.toList.isEmpty = false := by rw [str_isEmpty]; simp [hz]
                obtain rfl : E = 4 := by rw [← hE]; unfold tyErr; rw [if_neg hk12, if_neg h3]; simp [hl, h4, hz]
                clear hE hr h3 hl hz h4 hk12
                go_enter Tryz.func147, Tryz.ntmps147
                go_wp2_with (go_at_call 139; refine (in_any _ _ _ _).mono ?_; rintro e w' ⟨rfl, rfl⟩)
                go_ret
                exact ⟨rfl, by go_grown⟩
          · have hl0 : ((args.length : Int) != 0) = true := by simp; intro h; exact hl (by simp [h])
            obtain rfl : E = 4 := by rw [← hE]; unfold tyErr; rw [if_neg (by omega), if_neg h3, if_pos hl]
            clear hE hr h3 hl
            go_enter Tryz.func147, Tryz.ntmps147
            go_wp2_with (go_at_call 139; refine (in_any _ _ _ _).mono ?_; rintro e w' ⟨rfl, rfl⟩)
            go_ret
            exact ⟨rfl, by go_grown⟩
        · have hq : inB k 1 4 = false := by simp [inB]; omega
          obtain rfl : E = 3 := by rw [← hE]; unfold tyErr; rw [if_pos (by omega)]
          clear hE hr h3
          go_enter Tryz.func147, Tryz.ntmps147
          go_wp2_with (go_at_call 139; refine (in_any _ _ _ _).mono ?_; rintro e w' ⟨rfl, rfl⟩)
          go_ret
          exact ⟨rfl, by go_grown⟩

end Go.Proofs.YtjaladhdnbhliaaGreatDoor
