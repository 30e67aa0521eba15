/- Types as texts: tree.named, tree.typeText; the reference's typeShown, dec. -/
import Derived.Test.YtoejhgbndehaiaaDoorTreeTxt
import Derived.Test.YtoejhgbndehaiaaDoorTreeChk
import Derived.Test.YtoejhgbndehaiaaDoorShelf
import Derived.Handy
import Derived.Laws.IdiomStrings
namespace Go.Proofs.YtoejhgbndehaiaaDoor
open Go.RowKit Go.Shelf

theorem emp_of {s : ByteArray} (h : s.size = 0) : s.toList.isEmpty = true := by rw [str_isEmpty]; simp [h]
theorem emp_not {s : ByteArray} (h : s.size ≠ 0) : s.toList.isEmpty = false := by rw [str_isEmpty]; simp [h]

set_option maxRecDepth 100000 in
set_option maxHeartbeats 400000 in
theorem named_any (o nm : ByteArray) (w : World) (ho : o.size ≤ 140737488355328) (hn : nm.size ≤ 140737488355328) :
    Calls Tryd.prog 58 #[.string o, .string nm] w fun e w' => e = .returned (.string (namedTxt o nm)) ∧ w = w' := by
  unfold namedTxt
  go_enter Tryd.func58, Tryd.ntmps58
  by_cases h : o.size = 0
  · have he := emp_of h
    rw [if_pos h]
    go_wp2_with fail
    go_ret
    exact ⟨rfl, rfl⟩
  · have he := emp_not h
    rw [if_neg h]
    have s1 : ¬ 9223372036854775807 < o.size + 1 := by omega
    have s2 : ¬ 9223372036854775807 < o.size + 1 + nm.size := by omega
    go_wp2_with fail
    go_ret
    exact ⟨rfl, rfl⟩

/-- One element of a type's list. -/
theorem ty_arg {w : World} {F : Foot} {k : Int} {o nm : ByteArray} {a : Ty} {A : Option Addr} {n c : Nat} {cs : List Value} (hcs : cs = [.int .i64 k, .string o, .string nm, .slice A n c]) (h : TyR w F cs (.mk k o nm [a])) :
    ∃ b off ds, A = some ⟨b, off, none⟩ ∧ F b ∧ TyR w F ds a ∧ n = 1 ∧ 1 ≤ c ∧ ∀ j u, ds[j]? = some u → w.cell? ⟨b, off + j, none⟩ = some u := by
  subst hcs
  obtain ⟨m, h⟩ := h
  cases m with
  | zero => exact h.elim
  | succ m =>
    obtain ⟨av, he, _, _, _, hav⟩ := h
    simp only [List.cons.injEq, and_true] at he
    obtain ⟨_, _, _, rfl⟩ := he
    obtain ⟨A', c', he2, hc1, _⟩ := hav.form
    injection he2 with e1 e2 e3
    subst e1; subst e2; subst e3
    obtain ⟨b, off, ds, hA, hb, _, hr, hcell⟩ := hav.at_ (k := 0) (by simp [Ty.args])
    exact ⟨b, off, ds, hA, hb, ⟨m, hr⟩, rfl, hc1, fun j u hj => by have := hcell j u hj; simpa using this⟩

set_option maxRecDepth 100000 in
set_option maxHeartbeats 2000000 in
theorem typeText_any : ∀ (n : Nat) (t : Ty) (cs : List Value) (F : Foot) (w : World), n ≤ 10 → tyErr n t = 0 → TyR w F cs t → (∀ k, F k → k < w.heap.size) →
    Calls Tryd.prog 31 #[.agg cs.toArray] w fun e w' => e = .returned (.string (tyTxt n t)) ∧ Below w.heap.size w w' := by
  intro n
  induction n with
  | zero => intro t cs F w _ h; cases h
  | succ n ih =>
    intro t cs F w hn h ht hF
    obtain ⟨A, c, rfl⟩ := TyR.form ht
    obtain ⟨k, o, nm, args⟩ := t
    simp only [Ty.kind, Ty.of_, Ty.name, Ty.args] at *
    rcases ty_cases h with rfl | rfl | ⟨rfl, a, rfl, ha⟩ | ⟨rfl, h1, h2⟩
    · rw [ty_int]
      clear ih ht h
      go_enter Tryd.func31, Tryd.ntmps31
      go_wp2_with fail
      go_ret
      exact ⟨rfl, by go_grown⟩
    · rw [ty_text]
      clear ih ht h
      go_enter Tryd.func31, Tryd.ntmps31
      go_wp2_with fail
      go_ret
      exact ⟨rfl, by go_grown⟩
    · rw [ty_list]
      obtain ⟨b, off, ds, rfl, hb, hr, _, hc1, hcell⟩ := ty_arg rfl ht
      obtain ⟨A2, c2, rfl⟩ := TyR.form hr
      have hc0 := hcell 0 _ rfl
      have hc1 := hcell 1 _ rfl
      have hc2 := hcell 2 _ rfl
      have hc3 := hcell 3 _ rfl
      simp only [Nat.add_zero] at hc0
      have hbl : b < w.heap.size := hF _ hb
      have hsz := tyTxt_size n a ha
      have hrec := fun U (hU : Below w.heap.size w U) => ih a _ F U (by omega) ha (TyR.stays.later hr hU hF) (foot_up hF hU)
      generalize tyTxt n a = T at hsz hrec
      have HR := Lib.hid hrec
      clear hrec
      clear ih ht h hr hcell
      have s1 : ¬ 9223372036854775807 < 1 + T.size := by omega
      have s2 : ¬ 9223372036854775807 < 1 + T.size + 1 := by omega
      go_enter Tryd.func31, Tryd.ntmps31
      go_wp2_with fail
      refine (HR.out _ (by go_grown)).mono ?_
      rintro e w2 ⟨rfl, hb2⟩
      have hbw := Below.trans (show Below w.heap.size w _ by go_grown) (hb2.mono (by simp))
      have HBW := Lib.hid hbw
      clear hbw
      clear hb2
      go_wp2_with fail
      go_ret
      exact ⟨rfl, HBW.out⟩
    · rw [ty_name]
      have hnm := fun U => named_any o nm U (by omega) (by omega)
      generalize namedTxt o nm = T at hnm
      have HNM := Lib.hid hnm
      clear hnm
      clear ih ht h
      go_enter Tryd.func31, Tryd.ntmps31
      go_wp2_with fail
      refine (HNM.out _).mono ?_
      rintro e w2 ⟨rfl, rfl⟩
      go_wp2_with fail
      go_ret
      exact ⟨rfl, by go_grown⟩

set_option maxRecDepth 100000 in
set_option maxHeartbeats 2000000 in
theorem typeShown_any : ∀ (n : Nat) (t : Ty) (cs : List Value) (F : Foot) (w : World), n ≤ 10 → tyErr n t = 0 → TyR w F cs t → (∀ k, F k → k < w.heap.size) →
    Calls Tryd.prog 35 #[.agg cs.toArray] w fun e w' => e = .returned (.string (tyTxt n t)) ∧ Below w.heap.size w w' := by
  intro n
  induction n with
  | zero => intro t cs F w _ h; cases h
  | succ n ih =>
    intro t cs F w hn h ht hF
    obtain ⟨A, c, rfl⟩ := TyR.form ht
    obtain ⟨k, o, nm, args⟩ := t
    simp only [Ty.kind, Ty.of_, Ty.name, Ty.args] at *
    rcases ty_cases h with rfl | rfl | ⟨rfl, a, rfl, ha⟩ | ⟨rfl, h1, h2⟩
    · rw [ty_int]
      clear ih ht h
      go_enter Tryd.func35, Tryd.ntmps35
      go_wp2_with fail
      go_ret
      exact ⟨rfl, by go_grown⟩
    · rw [ty_text]
      clear ih ht h
      go_enter Tryd.func35, Tryd.ntmps35
      go_wp2_with fail
      go_ret
      exact ⟨rfl, by go_grown⟩
    · rw [ty_list]
      obtain ⟨b, off, ds, rfl, hb, hr, _, hc1, hcell⟩ := ty_arg rfl ht
      obtain ⟨A2, c2, rfl⟩ := TyR.form hr
      have hc0 := hcell 0 _ rfl
      have hc1 := hcell 1 _ rfl
      have hc2 := hcell 2 _ rfl
      have hc3 := hcell 3 _ rfl
      simp only [Nat.add_zero] at hc0
      have hbl : b < w.heap.size := hF _ hb
      have hsz := tyTxt_size n a ha
      have hrec := fun U (hU : Below w.heap.size w U) => ih a _ F U (by omega) ha (TyR.stays.later hr hU hF) (foot_up hF hU)
      generalize tyTxt n a = T at hsz hrec
      have HR := Lib.hid hrec
      clear hrec
      clear ih ht h hr hcell
      have s1 : ¬ 9223372036854775807 < 1 + T.size := by omega
      have s2 : ¬ 9223372036854775807 < 1 + T.size + 1 := by omega
      go_enter Tryd.func35, Tryd.ntmps35
      go_wp2_with fail
      refine (HR.out _ (by go_grown)).mono ?_
      rintro e w2 ⟨rfl, hb2⟩
      have hbw := Below.trans (show Below w.heap.size w _ by go_grown) (hb2.mono (by simp))
      have HBW := Lib.hid hbw
      clear hbw
      clear hb2
      go_wp2_with fail
      go_ret
      exact ⟨rfl, HBW.out⟩
    · rw [ty_name]
      unfold namedTxt
      clear ih ht h
      by_cases hz : o.size = 0
      · have he := emp_of hz
        rw [if_pos hz]
        go_enter Tryd.func35, Tryd.ntmps35
        go_wp2_with fail
        go_ret
        exact ⟨rfl, by go_grown⟩
      · have he := emp_not hz
        rw [if_neg hz]
        have s1 : ¬ 9223372036854775807 < o.size + 1 := by omega
        have s2 : ¬ 9223372036854775807 < o.size + 1 + nm.size := by omega
        go_enter Tryd.func35, Tryd.ntmps35
        go_wp2_with fail
        go_ret
        exact ⟨rfl, by go_grown⟩

theorem dec_small {u : Nat} (h : u < 10) : decTxt u = ⟨#[UInt8.ofNat (48 + u)]⟩ := by
  refine ba_ext ?_
  unfold decTxt
  rw [ba_of, Lib.itoa_nonneg, Lib.decDigits_one h]
theorem dec_more {u : Nat} (h : ¬ u < 10) : decTxt u = decTxt (u / 10 : Nat) ++ decTxt (u % 10 : Nat) := by
  refine ba_ext ?_
  unfold decTxt
  rw [ba_app, ba_of, ba_of, ba_of, Lib.itoa_nonneg, Lib.itoa_nonneg, Lib.itoa_nonneg, Lib.decDigits_one (show u % 10 < 10 by omega)]
  conv => lhs; unfold Lib.decDigits
  rw [dif_neg h]
set_option maxRecDepth 100000 in
set_option maxHeartbeats 2000000 in
theorem dec_any : ∀ (n u : Nat) (w : World), u ≤ n → u ≤ 999999 → Calls Tryd.prog 62 #[.int .i64 u] w fun e w' => e = .returned (.string (decTxt u)) ∧ Below w.heap.size w w' := by
  intro n
  induction n using Nat.strongRecOn with
  | _ n ih =>
  intro u w hu h9
  by_cases hs : u < 10
  · have hsz : (u : Int) < 10 := by omega
    rw [dec_small hs]
    have hcv : (convert 85 9 (.slice (some ⟨w.heap.size, 0, none⟩) 1 1)).run Tryd.prog (w.alloc (.cells #[.int .u8 (48 + (u : Int))] 5)) = .ok (.string ⟨#[UInt8.ofNat (48 + u)]⟩) (w.alloc (.cells #[.int .u8 (48 + (u : Int))] 5)) := by
      refine run_convert_bytes_back _ 85 9 5 ⟨w.heap.size, 0, none⟩ 1 [UInt8.ofNat (48 + u)] Tryd.underlying85 Tryd.underlying5 Tryd.underlying9 (fun j hj => ?_)
      have hB := Box.made w 5 #[.int .u8 (48 + (u : Int))]
      match j, hj with
      | 0, _ =>
        have hq := hB.at_ 0 _ rfl
        have he : (48 + (u : Int)) = ((UInt8.ofNat (48 + u)).toNat : Int) := by simp; omega
        rw [he] at hq ⊢
        first | (simp [Addr.add]; done) | simpa [Addr.add] using hq
    have hmod : (48 + (u : Int)) % 256 = 48 + (u : Int) := by omega
    obtain ⟨D, hD⟩ : ∃ z, UInt8.ofNat (48 + u) = z := ⟨_, rfl⟩
    rw [hD] at hcv ⊢
    clear ih hD
    go_enter Tryd.func62, Tryd.ntmps62
    go_wp2_with fail
    go_ret
    exact ⟨rfl, by go_grown⟩
  · have hsz : ¬ (u : Int) < 10 := by omega
    rw [dec_more hs]
    have h1 := fun U => ih (u / 10) (by omega) (u / 10) U (Nat.le_refl _) (by omega)
    have h2 := fun U => ih (u % 10) (by omega) (u % 10) U (Nat.le_refl _) (by omega)
    have z1 := decTxt_size (v := ((u / 10 : Nat) : Int)) (by omega) (by omega)
    have z2 := decTxt_size (v := ((u % 10 : Nat) : Int)) (by omega) (by omega)
    have e1 : (u : Int).tdiv 10 = ((u / 10 : Nat) : Int) := by rw [Int.tdiv_eq_ediv_of_nonneg (by omega)]; simp
    have e2 : (u : Int).tmod 10 = ((u % 10 : Nat) : Int) := by rw [Int.tmod_eq_emod_of_nonneg (by omega)]; simp
    have e3 : IntKind.i64.wrap ((u / 10 : Nat) : Int) = ((u / 10 : Nat) : Int) := IntWalk.i64_in _ (by omega)
    generalize decTxt ((u / 10 : Nat) : Int) = T1 at h1 z1
    generalize decTxt ((u % 10 : Nat) : Int) = T2 at h2 z2
    have s1 : ¬ 9223372036854775807 < T1.size + T2.size := by omega
    have H1 := Lib.hid h1; have H2 := Lib.hid h2
    clear h1 h2
    clear ih
    go_enter Tryd.func62, Tryd.ntmps62
    go_wp2_with fail
    refine (H1.out _).mono ?_
    rintro e w2 ⟨rfl, hb2⟩
    go_wp2_with fail
    refine (H2.out _).mono ?_
    rintro e w3 ⟨rfl, hb3⟩
    have hbw := hb2.trans (hb3.mono hb2.size)
    have HBW := Lib.hid hbw
    clear hbw
    clear hb2 hb3
    go_wp2_with fail
    go_ret
    exact ⟨rfl, HBW.out⟩

end Go.Proofs.YtoejhgbndehaiaaDoor
