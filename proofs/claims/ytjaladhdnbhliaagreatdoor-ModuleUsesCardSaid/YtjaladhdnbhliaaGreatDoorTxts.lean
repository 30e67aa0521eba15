/- Texts that belong together: TreeTxt, TypeTxt, ExprTxt. -/
import Derived.Test.YtjaladhdnbhliaaGreatDoorTreeErr
import Derived.Test.YtjaladhdnbhliaaGreatDoorBytes
import Derived.Test.YtjaladhdnbhliaaGreatDoorTreeChk
import Derived.Test.YtjaladhdnbhliaaGreatDoorShelf
import Derived.Test.YtjaladhdnbhliaaGreatDoorTreeChk2
import Derived.Test.YtjaladhdnbhliaaGreatDoorClone
import Derived.Lib.ItoaMem
import Derived.Handy
import Derived.Laws.IdiomStrings
import Derived.Deep.RegionWith
import Derived.Deep.DeepCutAuto
import Derived.Deep.QuietTactic
import Derived.BigQuiet
import Derived.WalkSmall
import Derived.Lib.LaidTab
/- Types, expressions and modules as texts. Plain facts. -/
namespace Go.Proofs.YtjaladhdnbhliaaGreatDoor
open Go.RowKit

def lit (l : List UInt8) : ByteArray := ⟨l.toArray⟩
theorem lit_size (l : List UInt8) : (lit l).size = l.length := by unfold lit; rw [ba_size, ba_of]
/-- A name, of a module, if that is told. -/
def namedTxt (o nm : ByteArray) : ByteArray := if o.size = 0 then nm else o ++ ⟨#[46]⟩ ++ nm
def tyTxt : Nat → Ty → ByteArray
  | 0, _ => ⟨#[]⟩
  | n + 1, .mk k o nm args => if k = 1 then ⟨#[105, 110, 116]⟩ else if k = 2 then ⟨#[116, 101, 120, 116]⟩ else if k = 3 then (match args with | a :: _ => ⟨#[91]⟩ ++ tyTxt n a ++ ⟨#[93]⟩ | [] => ⟨#[]⟩) else namedTxt o nm
def decTxt (n : Int) : ByteArray := ⟨(Lib.itoa n).toArray⟩
def argAt (l : List ByteArray) (k : Nat) : ByteArray := l.getD k ⟨#[]⟩
def exTxt : Nat → Ex → ByteArray
  | 0, _ => ⟨#[]⟩
  | n + 1, .mk k v o s args =>
    if k = 1 then decTxt v else if k = 2 then ⟨#[34]⟩ ++ s ++ ⟨#[34]⟩ else if k = 3 then s
    else if k = 4 then namedTxt o s ++ ⟨#[40]⟩ ++ joined (args.map (exTxt n)) ++ ⟨#[41]⟩
    else if k = 5 then ⟨#[40]⟩ ++ argAt (args.map (exTxt n)) 0 ++ ⟨#[32, 43, 32]⟩ ++ argAt (args.map (exTxt n)) 1 ++ ⟨#[41]⟩
    else if k = 6 then ⟨#[91]⟩ ++ joined (args.map (exTxt n)) ++ ⟨#[93]⟩
    else argAt (args.map (exTxt n)) 0 ++ ⟨#[91]⟩ ++ argAt (args.map (exTxt n)) 1 ++ ⟨#[93]⟩

section
variable {n : Nat} {k v : Int} {o nm s : ByteArray}
theorem ty_int {args : List Ty} : tyTxt (n + 1) (.mk 1 o nm args) = ⟨#[105, 110, 116]⟩ := by unfold tyTxt; rw [if_pos rfl]
theorem ty_text {args : List Ty} : tyTxt (n + 1) (.mk 2 o nm args) = ⟨#[116, 101, 120, 116]⟩ := by unfold tyTxt; rw [if_neg (by decide), if_pos rfl]
theorem ty_list {a : Ty} {args : List Ty} : tyTxt (n + 1) (.mk 3 o nm (a :: args)) = ⟨#[91]⟩ ++ tyTxt n a ++ ⟨#[93]⟩ := by
  conv => lhs; unfold tyTxt
  rw [if_neg (by decide), if_neg (by decide), if_pos rfl]
theorem ty_name {args : List Ty} : tyTxt (n + 1) (.mk 4 o nm args) = namedTxt o nm := by unfold tyTxt; rw [if_neg (by decide), if_neg (by decide), if_neg (by decide)]
theorem ex_num {args : List Ex} : exTxt (n + 1) (.mk 1 v o s args) = decTxt v := by unfold exTxt; rw [if_pos rfl]
theorem ex_quote {args : List Ex} : exTxt (n + 1) (.mk 2 v o s args) = ⟨#[34]⟩ ++ s ++ ⟨#[34]⟩ := by unfold exTxt; rw [if_neg (by decide), if_pos rfl]
theorem ex_param {args : List Ex} : exTxt (n + 1) (.mk 3 v o s args) = s := by unfold exTxt; rw [if_neg (by decide), if_neg (by decide), if_pos rfl]
theorem ex_call {args : List Ex} : exTxt (n + 1) (.mk 4 v o s args) = namedTxt o s ++ ⟨#[40]⟩ ++ joined (args.map (exTxt n)) ++ ⟨#[41]⟩ := by
  conv => lhs; unfold exTxt
  rw [if_neg (by decide), if_neg (by decide), if_neg (by decide), if_pos rfl]
theorem ex_sum {args : List Ex} : exTxt (n + 1) (.mk 5 v o s args) = ⟨#[40]⟩ ++ argAt (args.map (exTxt n)) 0 ++ ⟨#[32, 43, 32]⟩ ++ argAt (args.map (exTxt n)) 1 ++ ⟨#[41]⟩ := by
  conv => lhs; unfold exTxt
  rw [if_neg (by decide), if_neg (by decide), if_neg (by decide), if_neg (by decide), if_pos rfl]
theorem ex_items {args : List Ex} : exTxt (n + 1) (.mk 6 v o s args) = ⟨#[91]⟩ ++ joined (args.map (exTxt n)) ++ ⟨#[93]⟩ := by
  conv => lhs; unfold exTxt
  rw [if_neg (by decide), if_neg (by decide), if_neg (by decide), if_neg (by decide), if_neg (by decide), if_pos rfl]
theorem ex_at {args : List Ex} : exTxt (n + 1) (.mk 7 v o s args) = argAt (args.map (exTxt n)) 0 ++ ⟨#[91]⟩ ++ argAt (args.map (exTxt n)) 1 ++ ⟨#[93]⟩ := by
  conv => lhs; unfold exTxt
  rw [if_neg (by decide), if_neg (by decide), if_neg (by decide), if_neg (by decide), if_neg (by decide), if_neg (by decide)]

theorem nameOk_small {s : ByteArray} (h : nameOk s = true) : s.size ≤ 8 := by
  unfold nameOk wordOk at h
  simp only [Bool.and_eq_true] at h
  obtain ⟨h, _⟩ := h
  split at h
  · cases h
  · simp only [Bool.and_eq_true, decide_eq_true_eq] at h
    exact h.1
theorem quoteOk_small {s : ByteArray} (h : quoteOk s = true) : s.size ≤ 20 := by
  unfold quoteOk at h
  simp only [Bool.and_eq_true, decide_eq_true_eq] at h
  first | exact h.1 | exact h.2
/-- What a type that may be is. -/
theorem ty_cases {args : List Ty} (h : tyErr (n + 1) (.mk k o nm args) = 0) : k = 1 ∨ k = 2 ∨ (k = 3 ∧ ∃ a, args = [a] ∧ tyErr n a = 0) ∨ (k = 4 ∧ nm.size ≤ 8 ∧ o.size ≤ 8) := by
  unfold tyErr at h
  split at h
  · cases h
  · next hk =>
    split at h
    · next h3 =>
      right; right; left
      refine ⟨h3, ?_⟩
      match args, h with
      | [a], h =>
        simp only at h
        split at h
        · exact ⟨a, rfl, h⟩
        · cases h
      | [], h => cases h
      | _ :: _ :: _, h => cases h
    · next h3 =>
      split at h
      · cases h
      · split at h
        · next h4 =>
          right; right; right
          refine ⟨h4, ?_⟩
          split at h
          · next hh => exact ⟨nameOk_small hh.1, hh.2.elim (fun h => by omega) nameOk_small⟩
          · cases h
        · next h4 => omega
theorem namedTxt_size {o nm : ByteArray} (h1 : o.size ≤ 8) (h2 : nm.size ≤ 20) : (namedTxt o nm).size ≤ 29 := by
  unfold namedTxt
  split
  · omega
  · rw [ba_app_size, ba_app_size]
    show o.size + 1 + nm.size ≤ 29
    omega
theorem tyTxt_size : ∀ (n : Nat) (t : Ty), tyErr n t = 0 → (tyTxt n t).size ≤ 30 + 2 * n
  | 0, _, h => by cases h
  | n + 1, .mk k o nm args, h => by
    rcases ty_cases h with rfl | rfl | ⟨rfl, a, rfl, ha⟩ | ⟨rfl, h1, h2⟩
    · rw [ty_int]; show 3 ≤ _; omega
    · rw [ty_text]; show 4 ≤ _; omega
    · have := tyTxt_size n a ha
      rw [ty_list, ba_app_size, ba_app_size]
      show 1 + (tyTxt n a).size + 1 ≤ _
      omega
    · rw [ty_name]
      have := namedTxt_size h2 (show nm.size ≤ 20 by omega)
      omega

theorem each_all {α : Type} {g : α → Int} : ∀ {l : List α}, eachErr g l = 0 → ∀ x ∈ l, g x = 0 := fun h x hx => eachErr_zero h x hx
/-- What an expression that may be is. -/
theorem ex_cases {args : List Ex} (h : exErr (n + 1) (.mk k v o s args) = 0) : args.length ≤ 8 ∧ (∀ a ∈ args, exErr n a = 0) ∧
    ((k = 1 ∧ 0 ≤ v ∧ v ≤ 999999 ∧ args.length = 0) ∨ (k = 2 ∧ s.size ≤ 20 ∧ args.length = 0) ∨ (k = 3 ∧ s.size ≤ 8 ∧ args.length = 0) ∨ (k = 4 ∧ s.size ≤ 8 ∧ o.size ≤ 8) ∨ (k = 5 ∧ args.length = 2) ∨ (k = 6 ∧ 1 ≤ args.length) ∨ (k = 7 ∧ args.length = 2)) := by
  unfold exErr at h
  split at h
  · cases h
  · next hk =>
    split at h
    · cases h
    · next h8 =>
      split at h
      · cases h
      · split at h
        · cases h
        · next ho =>
          split at h
          · cases h
          · next hn =>
            refine ⟨by omega, each_all h, ?_⟩
            have hok : exOk k o s args.length = true := by simpa using ho
            unfold exOk at hok
            split at hok
            · next h1 => simp only [Bool.and_eq_true, decide_eq_true_eq] at hok; exact .inl ⟨h1, by omega, by omega, hok.2⟩
            · split at hok
              · next h1 => simp only [Bool.and_eq_true, decide_eq_true_eq] at hok; exact .inr (.inl ⟨h1, quoteOk_small hok.1, hok.2⟩)
              · split at hok
                · next h1 => simp only [Bool.and_eq_true, decide_eq_true_eq] at hok; exact .inr (.inr (.inl ⟨h1, nameOk_small hok.1, hok.2⟩))
                · split at hok
                  · next h1 =>
                    simp only [Bool.and_eq_true, Bool.or_eq_true, decide_eq_true_eq] at hok
                    exact .inr (.inr (.inr (.inl ⟨h1, nameOk_small hok.1, hok.2.elim (fun h => by omega) nameOk_small⟩)))
                  · split at hok
                    · next h1 => simp only [Bool.and_eq_true, decide_eq_true_eq] at hok; exact .inr (.inr (.inr (.inr (.inr (.inl ⟨h1, hok.2⟩)))))
                    · next h1 h2 h3 h4 h6 =>
                      simp only [Bool.and_eq_true, decide_eq_true_eq] at hok
                      have : k = 5 ∨ k = 7 := by omega
                      rcases this with h5 | h7
                      · exact .inr (.inr (.inr (.inr (.inl ⟨h5, hok.2⟩))))
                      · exact .inr (.inr (.inr (.inr (.inr (.inr ⟨h7, hok.2⟩)))))
/-- How long an expression's text may be. -/
def exMax : Nat → Nat
  | 0 => 100
  | n + 1 => 9 * exMax n
theorem exMax_le : ∀ n, 100 ≤ exMax n
  | 0 => Nat.le_refl _
  | n + 1 => by have := exMax_le n; unfold exMax; omega
theorem exMax_ten : exMax 10 = 348678440100 := by decide
theorem exMax_mono : ∀ {n m : Nat}, n ≤ m → exMax n ≤ exMax m
  | n, 0, h => by have : n = 0 := by omega
                  subst this; exact Nat.le_refl _
  | n, m + 1, h => by
    by_cases e : n = m + 1
    · subst e; exact Nat.le_refl _
    · have := exMax_mono (show n ≤ m by omega)
      show exMax n ≤ 9 * exMax m
      omega
theorem decTxt_size {v : Int} (h0 : 0 ≤ v) (h1 : v ≤ 999999) : (decTxt v).size ≤ 6 := by
  obtain ⟨u, rfl⟩ : ∃ u : Nat, v = u := ⟨v.toNat, by omega⟩
  unfold decTxt
  rw [ba_size, ba_of, Lib.itoa_nonneg, Lib.decDigits_length]
  have hd : ∀ (k u : Nat), u < 10 ^ k → 1 ≤ k → Lib.nDigits u ≤ k := by
    intro k
    induction k with
    | zero => intro u _ h; omega
    | succ k ih =>
      intro u hu _
      by_cases hs : u < 10
      · rw [Lib.nDigits_small hs]; omega
      · have hk : 1 ≤ k := by
          rcases Nat.eq_zero_or_pos k with h | h
          · subst h; simp at hu; omega
          · exact h
        have := ih (u / 10) (by rw [Nat.pow_succ] at hu; exact Nat.div_lt_of_lt_mul (by rw [Nat.mul_comm]; exact hu)) hk
        rw [Lib.nDigits, dif_neg hs]
        omega
  exact hd 6 u (by omega) (by decide)
theorem argAt_size {l : List ByteArray} {c k : Nat} (h : ∀ x ∈ l, x.size ≤ c) : (argAt l k).size ≤ c := by
  unfold argAt
  by_cases hk : k < l.length
  · rw [List.getD_eq_getElem?_getD, List.getElem?_eq_getElem hk]; exact h _ (List.getElem_mem hk)
  · rw [List.getD_eq_getElem?_getD, List.getElem?_eq_none (by omega)]; exact Nat.zero_le _
theorem exTxt_size : ∀ (n : Nat) (x : Ex), exErr n x = 0 → (exTxt n x).size ≤ exMax n
  | 0, _, h => by cases h
  | n + 1, .mk k v o s args, h => by
    obtain ⟨h8, hall, hc⟩ := ex_cases h
    have hm := exMax_le n
    have hl : ∀ y ∈ args.map (exTxt n), y.size ≤ exMax n := fun y hy => by
      obtain ⟨a, ha, rfl⟩ := List.mem_map.1 hy
      exact exTxt_size n a (hall a ha)
    have hj := joined_size (args.map (exTxt n)) hl
    have hj2 : (args.map (exTxt n)).length * (exMax n + 2) ≤ 8 * (exMax n + 2) := Nat.mul_le_mul_right _ (by rw [List.length_map]; exact h8)
    have ha0 := argAt_size (k := 0) hl
    have ha1 := argAt_size (k := 1) hl
    show _ ≤ 9 * exMax n
    rcases hc with ⟨rfl, h0, h1, _⟩ | ⟨rfl, h1, _⟩ | ⟨rfl, h1, _⟩ | ⟨rfl, h1, h2⟩ | ⟨rfl, h1⟩ | ⟨rfl, h1⟩ | ⟨rfl, h1⟩
    · rw [ex_num]; have := decTxt_size h0 h1; omega
    · rw [ex_quote, ba_app_size, ba_app_size]; show 1 + s.size + 1 ≤ _; omega
    · rw [ex_param]; omega
    · have := namedTxt_size h2 (show s.size ≤ 20 by omega)
      rw [ex_call, ba_app_size, ba_app_size, ba_app_size]
      show (namedTxt o s).size + 1 + _ + 1 ≤ _
      omega
    · rw [ex_sum, ba_app_size, ba_app_size, ba_app_size, ba_app_size]
      show 1 + _ + 3 + _ + 1 ≤ _
      omega
    · rw [ex_items, ba_app_size, ba_app_size]
      show 1 + _ + 1 ≤ _
      omega
    · rw [ex_at, ba_app_size, ba_app_size, ba_app_size]
      show _ + 1 + _ + 1 ≤ _
      omega
end

end Go.Proofs.YtjaladhdnbhliaaGreatDoor

/- Types as texts: tree.named, tree.typeText; the reference's typeShown, dec. -/
namespace Go.Proofs.YtjaladhdnbhliaaGreatDoor
open Go.RowKit Go.Shelf

theorem emp_of {s : ByteArray} (h : s.size = 0) : s.toList.isEmpty = true := by rw [str_isEmpty]; simp [h]
theorem emp_not {s : ByteArray} (h : s.size ≠ 0) : s.toList.isEmpty = false := by rw [str_isEmpty]; simp [h]

set_option maxRecDepth 100000 in
set_option maxHeartbeats 400000 in
theorem named_any (o nm : ByteArray) (w : World) (ho : o.size ≤ 140737488355328) (hn : nm.size ≤ 140737488355328) :
    Calls Tryz.prog 74 #[.string o, .string nm] w fun e w' => e = .returned (.string (namedTxt o nm)) ∧ w = w' := by
  unfold namedTxt
  go_enter Tryz.func74, Tryz.ntmps74
  by_cases h : o.size = 0
  · have he := emp_of h
    rw [if_pos h]
    go_wp2_with fail
    go_ret
    exact ⟨rfl, rfl⟩
  · have he := emp_not h
    rw [if_neg h]
    have s1 : ¬ 9223372036854775807 < o.size + 1 := by omega
    have s2 : ¬ 9223372036854775807 < o.size + 1 + nm.size := by omega
    go_wp2_with fail
    go_ret
    exact ⟨rfl, rfl⟩

/-- One element of a type's list. -/
theorem ty_arg {w : World} {F : Foot} {k : Int} {o nm : ByteArray} {a : Ty} {A : Option Addr} {n c : Nat} {cs : List Value} (hcs : cs = [.int .i64 k, .string o, .string nm, .slice A n c]) (h : TyR w F cs (.mk k o nm [a])) :
    ∃ b off ds, A = some ⟨b, off, none⟩ ∧ F b ∧ TyR w F ds a ∧ n = 1 ∧ 1 ≤ c ∧ ∀ j u, ds[j]? = some u → w.cell? ⟨b, off + j, none⟩ = some u := by
  subst hcs
  obtain ⟨m, h⟩ := h
  cases m with
  | zero => exact h.elim
  | succ m =>
    obtain ⟨av, he, _, _, _, hav⟩ := h
    simp only [List.cons.injEq, and_true] at he
    obtain ⟨_, _, _, rfl⟩ := he
    obtain ⟨A', c', he2, hc1, _⟩ := hav.form
    injection he2 with e1 e2 e3
    subst e1; subst e2; subst e3
    obtain ⟨b, off, ds, hA, hb, _, hr, hcell⟩ := hav.at_ (k := 0) (by simp [Ty.args])
    exact ⟨b, off, ds, hA, hb, ⟨m, hr⟩, rfl, hc1, fun j u hj => by have := hcell j u hj; simpa using this⟩

set_option maxRecDepth 100000 in
set_option maxHeartbeats 2000000 in
theorem typeText_any : ∀ (n : Nat) (t : Ty) (cs : List Value) (F : Foot) (w : World), n ≤ 10 → tyErr n t = 0 → TyR w F cs t → (∀ k, F k → k < w.heap.size) →
    Calls Tryz.prog 35 #[.agg cs.toArray] w fun e w' => e = .returned (.string (tyTxt n t)) ∧ Below w.heap.size w w' := by
  intro n
  induction n with
  | zero => intro t cs F w _ h; cases h
  | succ n ih =>
    intro t cs F w hn h ht hF
    obtain ⟨A, c, rfl⟩ := TyR.form ht
    obtain ⟨k, o, nm, args⟩ := t
    simp only [Ty.kind, Ty.of_, Ty.name, Ty.args] at *
    rcases ty_cases h with rfl | rfl | ⟨rfl, a, rfl, ha⟩ | ⟨rfl, h1, h2⟩
    · rw [ty_int]
      clear ih ht h
      go_enter Tryz.func35, Tryz.ntmps35
      go_wp2_with fail
      go_ret
      exact ⟨rfl, by go_grown⟩
    · rw [ty_text]
      clear ih ht h
      go_enter Tryz.func35, Tryz.ntmps35
      go_wp2_with fail
      go_ret
      exact ⟨rfl, by go_grown⟩
    · rw [ty_list]
      obtain ⟨b, off, ds, rfl, hb, hr, _, hc1, hcell⟩ := ty_arg rfl ht
      obtain ⟨A2, c2, rfl⟩ := TyR.form hr
      have hc0 := hcell 0 _ rfl
      have hc1 := hcell 1 _ rfl
      have hc2 := hcell 2 _ rfl
      have hc3 := hcell 3 _ rfl
      simp only [Nat.add_zero] at hc0
      have hbl : b < w.heap.size := hF _ hb
      have hsz := tyTxt_size n a ha
      have hrec := fun U (hU : Below w.heap.size w U) => ih a _ F U (by omega) ha (TyR.stays.later hr hU hF) (foot_up hF hU)
      generalize tyTxt n a = T at hsz hrec
      have HR := Lib.hid hrec
      clear hrec
      clear ih ht h hr hcell
      have s1 : ¬ 9223372036854775807 < 1 + T.size := by omega
      have s2 : ¬ 9223372036854775807 < 1 + T.size + 1 := by omega
      go_enter Tryz.func35, Tryz.ntmps35
      go_wp2_with fail
      refine (HR.out _ (by go_grown)).mono ?_
      rintro e w2 ⟨rfl, hb2⟩
      have hbw := Below.trans (show Below w.heap.size w _ by go_grown) (hb2.mono (by simp))
      have HBW := Lib.hid hbw
      clear hbw
      clear hb2
      go_wp2_with fail
      go_ret
      exact ⟨rfl, HBW.out⟩
    · rw [ty_name]
      have hnm := fun U => named_any o nm U (by omega) (by omega)
      generalize namedTxt o nm = T at hnm
      have HNM := Lib.hid hnm
      clear hnm
      clear ih ht h
      go_enter Tryz.func35, Tryz.ntmps35
      go_wp2_with fail
      refine (HNM.out _).mono ?_
      rintro e w2 ⟨rfl, rfl⟩
      go_wp2_with fail
      go_ret
      exact ⟨rfl, by go_grown⟩

theorem dec_small {u : Nat} (h : u < 10) : decTxt u = ⟨#[UInt8.ofNat (48 + u)]⟩ := by
  refine ba_ext ?_
  unfold decTxt
  rw [ba_of, Lib.itoa_nonneg, Lib.decDigits_one h]
theorem dec_more {u : Nat} (h : ¬ u < 10) : decTxt u = decTxt (u / 10 : Nat) ++ decTxt (u % 10 : Nat) := by
  refine ba_ext ?_
  unfold decTxt
  rw [ba_app, ba_of, ba_of, ba_of, Lib.itoa_nonneg, Lib.itoa_nonneg, Lib.itoa_nonneg, Lib.decDigits_one (show u % 10 < 10 by omega)]
  conv => lhs; unfold Lib.decDigits
  rw [dif_neg h]
end Go.Proofs.YtjaladhdnbhliaaGreatDoor

/- Expressions as texts: tree.exprText. -/
namespace Go.Proofs.YtjaladhdnbhliaaGreatDoor
open Go.RowKit Go.Shelf

theorem joins_any (v : Value) (l : List ByteArray) (F : Foot) (w : World) (hF : ∀ k, F k → k < w.heap.size) (hv : SliceOf StrR 1 16 w F v l) (hl : (joined l).size ≤ 140737488355328) :
    Calls Tryz.prog 36 #[v, .string ⟨#[44, 32]⟩] w fun e w' => e = .returned (.string (joined l)) ∧ Below w.heap.size w w' := by
  obtain ⟨A, cap, rfl, h1, h2, h3, h3', h4⟩ := hv
  cases l with
  | nil => exact (Tryz.strings_Join_none A cap ⟨#[44, 32]⟩ w).mono fun e w' ⟨he, hw⟩ => ⟨he, hw ▸ Below.refl _ _⟩
  | cons x r =>
    obtain ⟨b, off, rfl, hb, hx⟩ := h4 (by simp)
    refine (Tryz.strings_Join b off cap (x :: r) ⟨#[44, 32]⟩ w (fun j y hj => ?_) (hF _ hb) h3' h1 ?_).mono fun e w' ⟨he, hw⟩ => ⟨he, hw⟩
    · obtain ⟨cs, hc, ⟨rfl, _⟩, hcell⟩ := hx j y hj
      have := hcell 0 _ rfl
      simpa using this
    · rw [ba_size, joined, ba_of] at hl; exact hl

/-- The library's table of powers lies in the memory. -/
def Pow (w : World) : Prop := Lib.TabIs Tryz.prog w "internal/strconv.uint64pow10" .u64 Lib.pow10Tab
theorem pow_named : Tryz.prog.globalNamed "internal/strconv.uint64pow10" = some 4 := by kernel_rfl
theorem Pow.lt {w : World} (h : Pow w) : 4 < w.heap.size := by
  have hc := h.cell pow_named 0 (by decide)
  exact World.block_lt_of_cell? w _ hc
theorem Pow.later {w w' : World} (h : Pow w) (hb : Below w.heap.size w w') : Pow w' := by
  unfold Pow Lib.TabIs at h ⊢
  rw [← h]
  unfold World.var?
  have hlt := Pow.lt (w := w) h
  simp only [pow_named]
  have := hb.block _ hlt
  simp [this]

set_option maxRecDepth 100000 in
theorem itoa_any (v : Int) (w : World) (h0 : 0 ≤ v) (h1 : v ≤ 999999) (hp : Pow w) :
    Calls Tryz.prog 78 #[.int .i64 v] w fun e w' => e = .returned (.string (decTxt v)) ∧ Below w.heap.size w w' :=
  (Tryz.strconv_Itoa v (by omega) (by omega) w hp).mono fun e w' ⟨he, k, os, hw⟩ => ⟨he, by
    subst hw
    exact ⟨rfl, rfl, rfl, by simp [Sort.grow], fun j hj => Sort.heap_grow_old _ _ hj⟩⟩

/-- The elements of an expression's list. -/
theorem ex_args {w : World} {F : Foot} {k v : Int} {o s : ByteArray} {args : List Ex} {A : Option Addr} {n c : Nat} {cs : List Value} (hcs : cs = [.int .i64 k, .int .i64 v, .string o, .string s, .slice A n c]) (h : ExR w F cs (.mk k v o s args)) :
    SliceOf ExR 5 72 w F (.slice A n c) args ∧ okS o ∧ okS s ∧ I64 v ∧ I64 k := by
  subst hcs
  obtain ⟨m, h⟩ := h
  cases m with
  | zero => exact h.elim
  | succ m =>
    obtain ⟨av, he, hk, hv, ho, hs, hav⟩ := h
    simp only [List.cons.injEq, and_true] at he
    obtain ⟨_, _, _, _, rfl⟩ := he
    refine ⟨?_, ho, hs, hv, hk⟩
    obtain ⟨A', cap, e, h1, h2, h3, h3', h4⟩ := hav
    refine ⟨A', cap, e, h1, h2, h3, h3', fun hl => ?_⟩
    obtain ⟨b, off, hA, hb, hx⟩ := h4 hl
    exact ⟨b, off, hA, hb, fun i x hi => by obtain ⟨ds, hc, hr, hcell⟩ := hx i x hi; exact ⟨ds, hc, ⟨m, hr⟩, hcell⟩⟩

theorem argAt_eq {l : List ByteArray} {k : Nat} (hk : k < l.length) : argAt l k = l[k] := by
  unfold argAt
  rw [List.getD_eq_getElem?_getD, List.getElem?_eq_getElem hk]; rfl

set_option maxRecDepth 100000 in
set_option maxHeartbeats 8000000 in
theorem exprText_any : ∀ (n : Nat) (x : Ex) (cs : List Value) (F : Foot) (w : World), n ≤ 10 → exErr n x = 0 → ExR w F cs x → (∀ k, F k → k < w.heap.size) → Pow w →
    Calls Tryz.prog 37 #[.agg cs.toArray] w fun e w' => e = .returned (.string (exTxt n x)) ∧ Below w.heap.size w w' := by
  intro n
  induction n with
  | zero => intro x cs F w _ h; cases h
  | succ n ih =>
    intro x cs F w hn h hx hF hP
    obtain ⟨A, c, rfl⟩ := ExR.form hx
    obtain ⟨k, v, o, s, args⟩ := x
    simp only [Ex.kind, Ex.n, Ex.of_, Ex.s, Ex.args] at *
    obtain ⟨h8, hall, hc⟩ := ex_cases h
    obtain ⟨hA, ho, hs, hv, hk⟩ := ex_args rfl hx
    have hAc : args.length ≤ c ∧ c ≤ 9223372036854775807 := by
      obtain ⟨A', c', e, h1, h2, _⟩ := hA
      injection e with e1 e2 e3
      subst e3
      exact ⟨h1, by unfold maxLen at h2; omega⟩
    have hsz := fun a (ha : a ∈ args) => exTxt_size n a (hall a ha)
    have hmx : exMax n ≤ 38742048900 := Nat.le_trans (exMax_mono (show n ≤ 9 by omega)) (by decide)
    have hrec := fun a (ha : a ∈ args) ds U (hU : Below w.heap.size w U) (hr : ExR U F ds a) => ih a ds F U (by omega) (hall a ha) hr (foot_up hF hU) (hP.later hU)
    have hit := fun (h0 : 0 ≤ v) (h1 : v ≤ 999999) U (hU : Below w.heap.size w U) => itoa_any v U h0 h1 (hP.later hU)
    have hjo := fun (l : List ByteArray) v (G : Foot) U hG hv hl => joins_any v l G U hG hv hl
    have hls : (joined (args.map (exTxt n))).size ≤ 8 * (exMax n + 2) := Nat.le_trans (joined_size (args.map (exTxt n)) fun y hy => by obtain ⟨a, ha, rfl⟩ := List.mem_map.1 hy; exact hsz a ha) (Nat.mul_le_mul_right _ (by rw [List.length_map]; exact h8))
    obtain ⟨E, hE⟩ : ∃ z, exTxt (n + 1) (.mk k v o s args) = z := ⟨_, rfl⟩
    rw [hE]
    have HE := Lib.hid hE; have HC := Lib.hid hc; have HA := Lib.hid hA; have HSZ := Lib.hid hsz; have HREC := Lib.hid hrec; have HIT := Lib.hid hit; have HJO := Lib.hid hjo; have HLS := Lib.hid hls; have HP := Lib.hid hP
    clear hE hc hA hsz hrec hit hjo hls hP
    clear ih hx h hall
    go_enter Tryz.func37, Tryz.ntmps37
    go_upto_region 1 with fail
    have hBe := Box.made w 81 #[.int .i64 k, .int .i64 v, .string o, .string s, .slice A args.length c]
    have hbe : Below w.heap.size w (w.alloc (.cells #[.int .i64 k, .int .i64 v, .string o, .string s, .slice A args.length c] 81)) := by go_grown
    have hze : (w.alloc (.cells #[.int .i64 k, .int .i64 v, .string o, .string s, .slice A args.length c] 81)).heap.size = w.heap.size + 1 := by simp
    generalize w.alloc (.cells #[.int .i64 k, .int .i64 v, .string o, .string s, .slice A args.length c] 81) = W1 at hBe hbe hze ⊢
    have x4 := hBe.at_ 4 _ rfl
    have HB := Lib.hid hBe; have Hb := Lib.hid hbe; have Hz := Lib.hid hze
    clear hBe hbe hze
    go_wp2_with fail
    go_loopg [3, 5, 9] args.length (fun gg s3 s5 s9 wr => ∃ (kk c : Nat) (B : Option Addr) (L : List ByteArray), kk ≤ args.length ∧ args.length - kk ≤ gg ∧ s9 = .int .i64 kk ∧ s3 = .slice B L.length c ∧ Aside (L = (args.take kk).map (exTxt n)) ∧
      Aside (Owns StrR 1 9 W1.heap.size wr none_ (.slice B L.length c) L) ∧ Aside (Below W1.heap.size W1 wr))
    case atStart => exact ⟨0, 0, none, [], Nat.zero_le _, by omega, rfl, rfl, aside rfl, aside Owns.nil_, aside (Below.refl _ _)⟩
    case round =>
      obtain ⟨kk, c', B, L, hkk, hg, rfl, rfl, hL, hO, BW⟩ := hrel
      have hbw := Hb.out.trans (BW.out.mono Hb.out.size)
      have hLl : L.length = kk := by rw [hL.out]; simp; omega
      clear x4
      by_cases hlt : kk < args.length
      · have hltz : (kk : Int) < (args.length : Int) := by omega
        obtain ⟨b1, off, ds, rfl, hbF, hds, hr, hcell⟩ := (HA.out.up ExR.stays hF hbw).at_ (k := kk) hlt
        have hx := List.getElem?_eq_getElem hlt
        have hxm := List.getElem_mem hlt
        generalize args[kk] = a at hx hxm hr
        obtain ⟨A2, c2, rfl⟩ := ExR.form hr
        have hc0 := hcell 0 _ rfl
        have hc1 := hcell 1 _ rfl
        have hc2 := hcell 2 _ rfl
        have hc3 := hcell 3 _ rfl
        have hc4 := hcell 4 _ rfl
        simp only [Nat.add_zero] at hc0
        have hbl : b1 < wr.heap.size := foot_up hF hbw _ hbF
        have hsa := HSZ.out a hxm
        have HX := Lib.hid hx; have HM := Lib.hid hxm; have HR := Lib.hid hr; have HSA := Lib.hid hsa; have HBw := Lib.hid hbw; have HLl := Lib.hid hLl
        clear hx hxm hr hsa hbw hLl
        clear hcell hds
        go_upto_region 5 with fail
        have hBy := Box.made wr 81 #[.int .i64 a.kind, .int .i64 a.n, .string a.of_, .string a.s, .slice A2 a.args.length c2]
        have hby : Below wr.heap.size wr (wr.alloc (.cells #[.int .i64 a.kind, .int .i64 a.n, .string a.of_, .string a.s, .slice A2 a.args.length c2] 81)) := by go_grown
        have hzy : (wr.alloc (.cells #[.int .i64 a.kind, .int .i64 a.n, .string a.of_, .string a.s, .slice A2 a.args.length c2] 81)).heap.size = wr.heap.size + 1 := by simp
        generalize wr.alloc (.cells #[.int .i64 a.kind, .int .i64 a.n, .string a.of_, .string a.s, .slice A2 a.args.length c2] 81) = W4 at hBy hby hzy ⊢
        have y0 := hBy.at_ 0 _ rfl
        have y1 := hBy.at_ 1 _ rfl
        have y2 := hBy.at_ 2 _ rfl
        have y3 := hBy.at_ 3 _ rfl
        have y4 := hBy.at_ 4 _ rfl
        have hbw4 := HBw.out.trans (hby.mono HBw.out.size)
        have hb4 := BW.out.trans (hby.mono BW.out.size)
        have hO4 := hO.out.below StrR.stays hby
        have hrc := HREC.out a HM.out _ W4 hbw4 (ExR.stays.later HR.out hby (foot_up hF HBw.out))
        obtain ⟨T, hT⟩ : ∃ z, exTxt n a = z := ⟨_, rfl⟩
        rw [hT] at hrc HSA
        have HT := Lib.hid hT; have HRC := Lib.hid hrc; have HO4 := Lib.hid hO4; have HB4 := Lib.hid hb4
        clear hT hrc hO4 hb4
        clear hc0 hc1 hc2 hc3 hc4 hBy hby hzy hbw4
        go_wp2_with fail
        refine HRC.out.mono ?_
        rintro e W5 ⟨rfl, hb5⟩
        have hO5 := HO4.out.below StrR.stays hb5
        have hb15 := HB4.out.trans (hb5.mono HB4.out.size)
        have hoT : okS T := by have := HSA.out; unfold okS; omega
        clear y0 y1 y2 y3 y4
        have HO5 := Lib.hid hO5; have HB5 := Lib.hid hb15
        clear hO5 hb15
        clear hb5
        go_wp2_with (at_builtin; go_must ((refine wpList_push StrR.stays (.string ⟨#[]⟩) [.string T] T rfl rfl Tryz.underlying23 (bytes := 16) (by kernel_rfl) HO5.out rfl rfl (by decide) rfl rfl (show StrR W5 none_ _ _ from ⟨rfl, hoT⟩) (StrR.one (w := W5) (F := none_) _ _ ⟨rfl, hoT⟩) (fun k hk => hk.elim) (by unfold maxLen; have := HLl.out; omega) (by have := HLl.out; omega) (by have := HB5.out.size; omega) ?_); (intro A6 c6 W6 hO6 hgr _; have hb6 := HB5.out.trans (hgr.below (B := W1.heap.size) (Nat.le_refl _) HB5.out.size); have HO6 := Lib.hid hO6; have HB6 := Lib.hid hb6; clear hO6 hgr hb6)))
        go_roundg (args.length - (kk + 1))
        case measure => omega
        case rel =>
          refine ⟨kk + 1, c6, A6, L ++ [T], by omega, by omega, by go_num, by simp, aside ?_, aside ?_, aside HB6.out⟩
          · rw [List.take_add_one, HX.out, List.map_append, hL.out]
            simp [HT.out]
          · have h := Owns.wider StrR.stays HO6.out (F' := none_) (fun k hk => hk.elim id id) (fun k hk => hk.elim)
            simpa using h
      · have hltz : ¬ (kk : Int) < (args.length : Int) := by omega
        obtain rfl : kk = args.length := by omega
        have hL2 : L = args.map (exTxt n) := by rw [hL.out, List.take_length]
        have hsl := hO.out.slice StrR.stays (by_ := 16) (F' := old wr.heap.size) (fun k hk => hk.elim) (fun k h1 h2 => h2) (by omega) (by omega)
        have hB1 := HB.out.later BW.out HB.out.lt
        have hE := HE.out
        have hls := HLS.out
        rw [← hL2] at hls
        have hsL : ∀ y ∈ L, y.size ≤ exMax n := fun y hy => by
          rw [hL2] at hy
          obtain ⟨a, ha, rfl⟩ := List.mem_map.1 hy
          exact HSZ.out a ha
        have x0 := hB1.at_ 0 _ rfl
        have x1 := hB1.at_ 1 _ rfl
        have x2 := hB1.at_ 2 _ rfl
        have x3 := hB1.at_ 3 _ rfl
        rcases HC.out with ⟨rfl, h0, h1, _⟩ | ⟨rfl, h1, _⟩ | ⟨rfl, h1, _⟩ | ⟨rfl, h1, h2⟩ | ⟨rfl, h1⟩ | ⟨rfl, h1⟩ | ⟨rfl, h1⟩
        · rw [ex_num] at hE
          have hit := HIT.out h0 h1 wr hbw
          rw [hE] at hit
          have HITP := Lib.hid hit; have HBW := Lib.hid hbw
          clear hit hbw
          clear hsl hB1 hE hls hsL hL2 hLl
          go_wp2_with fail
          refine HITP.out.mono ?_
          rintro e W5 ⟨rfl, hb5⟩
          have hbw := HBW.out.trans (hb5.mono HBW.out.size)
          have HBW5 := Lib.hid hbw
          clear hbw
          clear hb5
          go_wp2_with fail
          go_ret
          exact ⟨rfl, HBW5.out⟩
        · rw [ex_quote] at hE
          subst hE
          have s1 : ¬ 9223372036854775807 < 1 + s.size := by omega
          have s2 : ¬ 9223372036854775807 < 1 + s.size + 1 := by omega
          have HBW := Lib.hid hbw
          clear hbw
          clear hsl hB1 hls hsL hL2 hLl
          go_wp2_with fail
          go_ret
          exact ⟨rfl, HBW.out⟩
        · rw [ex_param] at hE
          subst hE
          have HBW := Lib.hid hbw
          clear hbw
          clear hsl hB1 hls hsL hL2 hLl
          go_wp2_with fail
          go_ret
          exact ⟨rfl, HBW.out⟩
        · rw [ex_call, ← hL2] at hE
          have hnm := fun U => named_any o s U (by omega) (by omega)
          have hns := namedTxt_size h2 (show s.size ≤ 20 by omega)
          have hj := fun U (hU : Below wr.heap.size wr U) => HJO.out L _ _ U (foot_up old_lt hU) (hsl.up StrR.stays old_lt hU) (by omega)
          generalize namedTxt o s = N1 at hE hnm hns
          generalize joined L = J at hE hj hls
          subst hE
          have s1 : ¬ 9223372036854775807 < N1.size + 1 := by omega
          have s2 : ¬ 9223372036854775807 < N1.size + 1 + J.size := by omega
          have s3 : ¬ 9223372036854775807 < N1.size + 1 + J.size + 1 := by omega
          have HBW := Lib.hid hbw; have HNM := Lib.hid hnm; have HJ := Lib.hid hj
          clear hbw hnm hj
          clear hsl hB1 hsL hL2 hLl
          go_wp2_with fail
          refine (HNM.out _).mono ?_
          rintro e w2 ⟨rfl, rfl⟩
          go_wp2_with fail
          refine (HJ.out _ (Below.refl _ _)).mono ?_
          rintro e W5 ⟨rfl, hb5⟩
          have hbw := HBW.out.trans (hb5.mono HBW.out.size)
          have HBW5 := Lib.hid hbw
          clear hbw
          clear hb5
          go_wp2_with fail
          go_ret
          exact ⟨rfl, HBW5.out⟩
        · rw [ex_sum, ← hL2] at hE
          have hl2 : L.length = 2 := by omega
          obtain ⟨b1, o1, d1, hB1', hf1, hd1, ⟨rfl, _⟩, hcell1⟩ := hsl.at_ (k := 0) (by omega)
          obtain ⟨b2, o2, d2, hB2', hf2, hd2, ⟨rfl, _⟩, hcell2⟩ := hsl.at_ (k := 1) (by omega)
          rw [argAt_eq (show 0 < L.length by omega), argAt_eq (show 1 < L.length by omega)] at hE
          have z1 := hsL _ (List.getElem_mem (show 0 < L.length by omega))
          have z2 := hsL _ (List.getElem_mem (show 1 < L.length by omega))
          generalize L[0] = T1 at hE z1 hcell1
          generalize L[1] = T2 at hE z2 hcell2
          subst hB1'
          injection hB2' with hB2'
          injection hB2' with e1 e2
          subst e1; subst e2
          have hq1 := hcell1 0 _ rfl
          have hq2 := hcell2 0 _ rfl
          simp only [Nat.zero_mul, Nat.one_mul, Nat.add_zero] at hq1 hq2
          have hLz : (L.length : Int) = 2 := by omega
          subst hE
          have s1 : ¬ 9223372036854775807 < 1 + T1.size := by omega
          have s2 : ¬ 9223372036854775807 < 1 + T1.size + 3 := by omega
          have s3 : ¬ 9223372036854775807 < 1 + T1.size + 3 + T2.size := by omega
          have s4 : ¬ 9223372036854775807 < 1 + T1.size + 3 + T2.size + 1 := by omega
          rw [hl2]
          have HBW := Lib.hid hbw
          clear hbw
          clear hsl hB1 hls hsL hL2 hL hO
          go_wp2_with fail
          go_quiet (fail)
          go_wp2_with fail
          go_ret
          exact ⟨rfl, below_drewN HBW.out _⟩
        · rw [ex_items, ← hL2] at hE
          have hj := fun U (hU : Below wr.heap.size wr U) => HJO.out L _ _ U (foot_up old_lt hU) (hsl.up StrR.stays old_lt hU) (by omega)
          generalize joined L = J at hE hj hls
          subst hE
          have s1 : ¬ 9223372036854775807 < 1 + J.size := by omega
          have s2 : ¬ 9223372036854775807 < 1 + J.size + 1 := by omega
          have HBW := Lib.hid hbw; have HJ := Lib.hid hj
          clear hbw hj
          clear hsl hB1 hsL hL2 hLl
          go_wp2_with fail
          refine (HJ.out _ (Below.refl _ _)).mono ?_
          rintro e W5 ⟨rfl, hb5⟩
          have hbw := HBW.out.trans (hb5.mono HBW.out.size)
          have HBW5 := Lib.hid hbw
          clear hbw
          clear hb5
          go_wp2_with fail
          go_ret
          exact ⟨rfl, HBW5.out⟩
        · rw [ex_at, ← hL2] at hE
          have hl2 : L.length = 2 := by omega
          obtain ⟨b1, o1, d1, hB1', hf1, hd1, ⟨rfl, _⟩, hcell1⟩ := hsl.at_ (k := 0) (by omega)
          obtain ⟨b2, o2, d2, hB2', hf2, hd2, ⟨rfl, _⟩, hcell2⟩ := hsl.at_ (k := 1) (by omega)
          rw [argAt_eq (show 0 < L.length by omega), argAt_eq (show 1 < L.length by omega)] at hE
          have z1 := hsL _ (List.getElem_mem (show 0 < L.length by omega))
          have z2 := hsL _ (List.getElem_mem (show 1 < L.length by omega))
          generalize L[0] = T1 at hE z1 hcell1
          generalize L[1] = T2 at hE z2 hcell2
          subst hB1'
          injection hB2' with hB2'
          injection hB2' with e1 e2
          subst e1; subst e2
          have hq1 := hcell1 0 _ rfl
          have hq2 := hcell2 0 _ rfl
          simp only [Nat.zero_mul, Nat.one_mul, Nat.add_zero] at hq1 hq2
          subst hE
          have s1 : ¬ 9223372036854775807 < T1.size + 1 := by omega
          have s2 : ¬ 9223372036854775807 < T1.size + 1 + T2.size := by omega
          have s3 : ¬ 9223372036854775807 < T1.size + 1 + T2.size + 1 := by omega
          rw [hl2]
          have HBW := Lib.hid hbw
          clear hbw
          clear hsl hB1 hls hsL hL2 hL hO
          go_wp2_with fail
          go_quiet (fail)
          go_wp2_with fail
          go_ret
          exact ⟨rfl, below_drewN HBW.out _⟩

end Go.Proofs.YtjaladhdnbhliaaGreatDoor
