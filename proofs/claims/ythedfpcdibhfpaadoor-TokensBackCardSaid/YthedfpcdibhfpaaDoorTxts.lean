/- Texts that belong together: TreeTxt, TypeTxt, ExprTxt. -/
import Derived.Test.YthedfpcdibhfpaaDoorTreeErr
import Derived.Test.YthedfpcdibhfpaaDoorBytes
import Derived.Test.YthedfpcdibhfpaaDoorTreeChk
import Derived.Test.YthedfpcdibhfpaaDoorShelf
import Derived.Test.YthedfpcdibhfpaaDoorTreeChk2
import Derived.Test.YthedfpcdibhfpaaDoorClone
import Derived.Lib.ItoaMem
import Derived.Handy
import Derived.Laws.IdiomStrings
import Derived.Deep.RegionWith
import Derived.Deep.DeepCutAuto
import Derived.Deep.QuietTactic
import Derived.BigQuiet
import Derived.WalkSmall
import Derived.Lib.LaidTab
/- Types, expressions and modules as texts. Plain facts. -/
namespace Go.Proofs.YthedfpcdibhfpaaDoor
open Go.RowKit

def lit (l : List UInt8) : ByteArray := ⟨l.toArray⟩
theorem lit_size (l : List UInt8) : (lit l).size = l.length := by unfold lit; rw [ba_size, ba_of]
/-- A name, of a module, if that is told. -/
def namedTxt (o nm : ByteArray) : ByteArray := if o.size = 0 then nm else o ++ ⟨#[46]⟩ ++ nm
def tyTxt : Nat → Ty → ByteArray
  | 0, _ => ⟨#[]⟩
  | n + 1, .mk k o nm args => if k = 1 then ⟨#[105, 110, 116]⟩ else if k = 2 then ⟨#[116, 101, 120, 116]⟩ else if k = 3 then (match args with | a :: _ => ⟨#[91]⟩ ++ tyTxt n a ++ ⟨#[93]⟩ | [] => ⟨#[]⟩) else namedTxt o nm
def decTxt (n : Int) : ByteArray := ⟨(Lib.itoa n).toArray⟩
def argAt (l : List ByteArray) (k : Nat) : ByteArray := l.getD k ⟨#[]⟩
def exTxt : Nat → Ex → ByteArray
  | 0, _ => ⟨#[]⟩
  | n + 1, .mk k v o s args =>
    if k = 1 then decTxt v else if k = 2 then ⟨#[34]⟩ ++ s ++ ⟨#[34]⟩ else if k = 3 then s
    else if k = 4 then namedTxt o s ++ ⟨#[40]⟩ ++ joined (args.map (exTxt n)) ++ ⟨#[41]⟩
    else if k = 5 then ⟨#[40]⟩ ++ argAt (args.map (exTxt n)) 0 ++ ⟨#[32, 43, 32]⟩ ++ argAt (args.map (exTxt n)) 1 ++ ⟨#[41]⟩
    else if k = 6 then ⟨#[91]⟩ ++ joined (args.map (exTxt n)) ++ ⟨#[93]⟩
    else argAt (args.map (exTxt n)) 0 ++ ⟨#[91]⟩ ++ argAt (args.map (exTxt n)) 1 ++ ⟨#[93]⟩

section
variable {n : Nat} {k v : Int} {o nm s : ByteArray}
theorem ty_int {args : List Ty} : tyTxt (n + 1) (.mk 1 o nm args) = ⟨#[105, 110, 116]⟩ := by unfold tyTxt; rw [if_pos rfl]
theorem ty_text {args : List Ty} : tyTxt (n + 1) (.mk 2 o nm args) = ⟨#[116, 101, 120, 116]⟩ := by unfold tyTxt; rw [if_neg (by decide), if_pos rfl]
theorem ty_list {a : Ty} {args : List Ty} : tyTxt (n + 1) (.mk 3 o nm (a :: args)) = ⟨#[91]⟩ ++ tyTxt n a ++ ⟨#[93]⟩ := by
  conv => lhs; unfold tyTxt
  rw [if_neg (by decide), if_neg (by decide), if_pos rfl]
theorem ty_name {args : List Ty} : tyTxt (n + 1) (.mk 4 o nm args) = namedTxt o nm := by unfold tyTxt; rw [if_neg (by decide), if_neg (by decide), if_neg (by decide)]
theorem ex_num {args : List Ex} : exTxt (n + 1) (.mk 1 v o s args) = decTxt v := by unfold exTxt; rw [if_pos rfl]
theorem ex_quote {args : List Ex} : exTxt (n + 1) (.mk 2 v o s args) = ⟨#[34]⟩ ++ s ++ ⟨#[34]⟩ := by unfold exTxt; rw [if_neg (by decide), if_pos rfl]
theorem ex_param {args : List Ex} : exTxt (n + 1) (.mk 3 v o s args) = s := by unfold exTxt; rw [if_neg (by decide), if_neg (by decide), if_pos rfl]
theorem ex_call {args : List Ex} : exTxt (n + 1) (.mk 4 v o s args) = namedTxt o s ++ ⟨#[40]⟩ ++ joined (args.map (exTxt n)) ++ ⟨#[41]⟩ := by
  conv => lhs; unfold exTxt
  rw [if_neg (by decide), if_neg (by decide), if_neg (by decide), if_pos rfl]
theorem ex_sum {args : List Ex} : exTxt (n + 1) (.mk 5 v o s args) = ⟨#[40]⟩ ++ argAt (args.map (exTxt n)) 0 ++ ⟨#[32, 43, 32]⟩ ++ argAt (args.map (exTxt n)) 1 ++ ⟨#[41]⟩ := by
  conv => lhs; unfold exTxt
  rw [if_neg (by decide), if_neg (by decide), if_neg (by decide), if_neg (by decide), if_pos rfl]
theorem ex_items {args : List Ex} : exTxt (n + 1) (.mk 6 v o s args) = ⟨#[91]⟩ ++ joined (args.map (exTxt n)) ++ ⟨#[93]⟩ := by
  conv => lhs; unfold exTxt
  rw [if_neg (by decide), if_neg (by decide), if_neg (by decide), if_neg (by decide), if_neg (by decide), if_pos rfl]
theorem ex_at {args : List Ex} : exTxt (n + 1) (.mk 7 v o s args) = argAt (args.map (exTxt n)) 0 ++ ⟨#[91]⟩ ++ argAt (args.map (exTxt n)) 1 ++ ⟨#[93]⟩ := by
  conv => lhs; unfold exTxt
  rw [if_neg (by decide), if_neg (by decide), if_neg (by decide), if_neg (by decide), if_neg (by decide), if_neg (by decide)]

theorem nameOk_small {s : ByteArray} (h : nameOk s = true) : s.size ≤ 8 := by
  unfold nameOk wordOk at h
  simp only [Bool.and_eq_true] at h
  obtain ⟨h, _⟩ := h
  split at h
  · cases h
  · simp only [Bool.and_eq_true, decide_eq_true_eq] at h
    exact h.1
theorem quoteOk_small {s : ByteArray} (h : quoteOk s = true) : s.size ≤ 20 := by
  unfold quoteOk at h
  simp only [Bool.and_eq_true, decide_eq_true_eq] at h
  first | exact h.1 | exact h.2
/-- What a type that may be is. -/
theorem ty_cases {args : List Ty} (h : tyErr (n + 1) (.mk k o nm args) = 0) : k = 1 ∨ k = 2 ∨ (k = 3 ∧ ∃ a, args = [a] ∧ tyErr n a = 0) ∨ (k = 4 ∧ nm.size ≤ 8 ∧ o.size ≤ 8) := by
  unfold tyErr at h
  split at h
  · cases h
  · next hk =>
    split at h
    · next h3 =>
      right; right; left
      refine ⟨h3, ?_⟩
      match args, h with
      | [a], h =>
        simp only at h
        split at h
        · exact ⟨a, rfl, h⟩
        · cases h
      | [], h => cases h
      | _ :: _ :: _, h => cases h
    · next h3 =>
      split at h
      · cases h
      · split at h
        · next h4 =>
          right; right; right
          refine ⟨h4, ?_⟩
          split at h
          · next hh => exact ⟨nameOk_small hh.1, hh.2.elim (fun h => by omega) nameOk_small⟩
          · cases h
        · next h4 => omega
theorem namedTxt_size {o nm : ByteArray} (h1 : o.size ≤ 8) (h2 : nm.size ≤ 20) : (namedTxt o nm).size ≤ 29 := by
  unfold namedTxt
  split
  · omega
  · rw [ba_app_size, ba_app_size]
    show o.size + 1 + nm.size ≤ 29
    omega
theorem tyTxt_size : ∀ (n : Nat) (t : Ty), tyErr n t = 0 → (tyTxt n t).size ≤ 30 + 2 * n
  | 0, _, h => by cases h
  | n + 1, .mk k o nm args, h => by
    rcases ty_cases h with rfl | rfl | ⟨rfl, a, rfl, ha⟩ | ⟨rfl, h1, h2⟩
    · rw [ty_int]; show 3 ≤ _; omega
    · rw [ty_text]; show 4 ≤ _; omega
    · have := tyTxt_size n a ha
      rw [ty_list, ba_app_size, ba_app_size]
      show 1 + (tyTxt n a).size + 1 ≤ _
      omega
    · rw [ty_name]
      have := namedTxt_size h2 (show nm.size ≤ 20 by omega)
      omega

theorem each_all {α : Type} {g : α → Int} : ∀ {l : List α}, eachErr g l = 0 → ∀ x ∈ l, g x = 0 := fun h x hx => eachErr_zero h x hx
/-- What an expression that may be is. -/
theorem ex_cases {args : List Ex} (h : exErr (n + 1) (.mk k v o s args) = 0) : args.length ≤ 8 ∧ (∀ a ∈ args, exErr n a = 0) ∧
    ((k = 1 ∧ 0 ≤ v ∧ v ≤ 999999 ∧ args.length = 0) ∨ (k = 2 ∧ s.size ≤ 20 ∧ args.length = 0) ∨ (k = 3 ∧ s.size ≤ 8 ∧ args.length = 0) ∨ (k = 4 ∧ s.size ≤ 8 ∧ o.size ≤ 8) ∨ (k = 5 ∧ args.length = 2) ∨ (k = 6 ∧ 1 ≤ args.length) ∨ (k = 7 ∧ args.length = 2)) := by
  unfold exErr at h
  split at h
  · cases h
  · next hk =>
    split at h
    · cases h
    · next h8 =>
      split at h
      · cases h
      · split at h
        · cases h
        · next ho =>
          split at h
          · cases h
          · next hn =>
            refine ⟨by omega, each_all h, ?_⟩
            have hok : exOk k o s args.length = true := by simpa using ho
            unfold exOk at hok
            split at hok
            · next h1 => simp only [Bool.and_eq_true, decide_eq_true_eq] at hok; exact .inl ⟨h1, by omega, by omega, hok.2⟩
            · split at hok
              · next h1 => simp only [Bool.and_eq_true, decide_eq_true_eq] at hok; exact .inr (.inl ⟨h1, quoteOk_small hok.1, hok.2⟩)
              · split at hok
                · next h1 => simp only [Bool.and_eq_true, decide_eq_true_eq] at hok; exact .inr (.inr (.inl ⟨h1, nameOk_small hok.1, hok.2⟩))
                · split at hok
                  · next h1 =>
                    simp only [Bool.and_eq_true, Bool.or_eq_true, decide_eq_true_eq] at hok
                    exact .inr (.inr (.inr (.inl ⟨h1, nameOk_small hok.1, hok.2.elim (fun h => by omega) nameOk_small⟩)))
                  · split at hok
                    · next h1 => simp only [Bool.and_eq_true, decide_eq_true_eq] at hok; exact .inr (.inr (.inr (.inr (.inr (.inl ⟨h1, hok.2⟩)))))
                    · next h1 h2 h3 h4 h6 =>
                      simp only [Bool.and_eq_true, decide_eq_true_eq] at hok
                      have : k = 5 ∨ k = 7 := by omega
                      rcases this with h5 | h7
                      · exact .inr (.inr (.inr (.inr (.inl ⟨h5, hok.2⟩))))
                      · exact .inr (.inr (.inr (.inr (.inr (.inr ⟨h7, hok.2⟩)))))
/-- How long an expression's text may be. -/
def exMax : Nat → Nat
  | 0 => 100
  | n + 1 => 9 * exMax n
theorem exMax_le : ∀ n, 100 ≤ exMax n
  | 0 => Nat.le_refl _
  | n + 1 => by have := exMax_le n; unfold exMax; omega
theorem exMax_ten : exMax 10 = 348678440100 := by decide
theorem exMax_mono : ∀ {n m : Nat}, n ≤ m → exMax n ≤ exMax m
  | n, 0, h => by have : n = 0 := by omega
                  subst this; exact Nat.le_refl _
  | n, m + 1, h => by
    by_cases e : n = m + 1
    · subst e; exact Nat.le_refl _
    · have := exMax_mono (show n ≤ m by omega)
      show exMax n ≤ 9 * exMax m
      omega
theorem decTxt_size {v : Int} (h0 : 0 ≤ v) (h1 : v ≤ 999999) : (decTxt v).size ≤ 6 := by
  obtain ⟨u, rfl⟩ : ∃ u : Nat, v = u := ⟨v.toNat, by omega⟩
  unfold decTxt
  rw [ba_size, ba_of, Lib.itoa_nonneg, Lib.decDigits_length]
  have hd : ∀ (k u : Nat), u < 10 ^ k → 1 ≤ k → Lib.nDigits u ≤ k := by
    intro k
    induction k with
    | zero => intro u _ h; omega
    | succ k ih =>
      intro u hu _
      by_cases hs : u < 10
      · rw [Lib.nDigits_small hs]; omega
      · have hk : 1 ≤ k := by
          rcases Nat.eq_zero_or_pos k with h | h
          · subst h; simp at hu; omega
          · exact h
        have := ih (u / 10) (by rw [Nat.pow_succ] at hu; exact Nat.div_lt_of_lt_mul (by rw [Nat.mul_comm]; exact hu)) hk
        rw [Lib.nDigits, dif_neg hs]
        omega
  exact hd 6 u (by omega) (by decide)
theorem argAt_size {l : List ByteArray} {c k : Nat} (h : ∀ x ∈ l, x.size ≤ c) : (argAt l k).size ≤ c := by
  unfold argAt
  by_cases hk : k < l.length
  · rw [List.getD_eq_getElem?_getD, List.getElem?_eq_getElem hk]; exact h _ (List.getElem_mem hk)
  · rw [List.getD_eq_getElem?_getD, List.getElem?_eq_none (by omega)]; exact Nat.zero_le _
theorem exTxt_size : ∀ (n : Nat) (x : Ex), exErr n x = 0 → (exTxt n x).size ≤ exMax n
  | 0, _, h => by cases h
  | n + 1, .mk k v o s args, h => by
    obtain ⟨h8, hall, hc⟩ := ex_cases h
    have hm := exMax_le n
    have hl : ∀ y ∈ args.map (exTxt n), y.size ≤ exMax n := fun y hy => by
      obtain ⟨a, ha, rfl⟩ := List.mem_map.1 hy
      exact exTxt_size n a (hall a ha)
    have hj := joined_size (args.map (exTxt n)) hl
    have hj2 : (args.map (exTxt n)).length * (exMax n + 2) ≤ 8 * (exMax n + 2) := Nat.mul_le_mul_right _ (by rw [List.length_map]; exact h8)
    have ha0 := argAt_size (k := 0) hl
    have ha1 := argAt_size (k := 1) hl
    show _ ≤ 9 * exMax n
    rcases hc with ⟨rfl, h0, h1, _⟩ | ⟨rfl, h1, _⟩ | ⟨rfl, h1, _⟩ | ⟨rfl, h1, h2⟩ | ⟨rfl, h1⟩ | ⟨rfl, h1⟩ | ⟨rfl, h1⟩
    · rw [ex_num]; have := decTxt_size h0 h1; omega
    · rw [ex_quote, ba_app_size, ba_app_size]; show 1 + s.size + 1 ≤ _; omega
    · rw [ex_param]; omega
    · have := namedTxt_size h2 (show s.size ≤ 20 by omega)
      rw [ex_call, ba_app_size, ba_app_size, ba_app_size]
      show (namedTxt o s).size + 1 + _ + 1 ≤ _
      omega
    · rw [ex_sum, ba_app_size, ba_app_size, ba_app_size, ba_app_size]
      show 1 + _ + 3 + _ + 1 ≤ _
      omega
    · rw [ex_items, ba_app_size, ba_app_size]
      show 1 + _ + 1 ≤ _
      omega
    · rw [ex_at, ba_app_size, ba_app_size, ba_app_size]
      show _ + 1 + _ + 1 ≤ _
      omega
end

end Go.Proofs.YthedfpcdibhfpaaDoor

/- Types as texts: tree.named, tree.typeText; the reference's typeShown, dec. -/
namespace Go.Proofs.YthedfpcdibhfpaaDoor
open Go.RowKit Go.Shelf

theorem emp_of {s : ByteArray} (h : s.size = 0) : s.toList.isEmpty = true := by rw [str_isEmpty]; simp [h]
theorem emp_not {s : ByteArray} (h : s.size ≠ 0) : s.toList.isEmpty = false := by rw [str_isEmpty]; simp [h]

/-- One element of a type's list. -/
theorem ty_arg {w : World} {F : Foot} {k : Int} {o nm : ByteArray} {a : Ty} {A : Option Addr} {n c : Nat} {cs : List Value} (hcs : cs = [.int .i64 k, .string o, .string nm, .slice A n c]) (h : TyR w F cs (.mk k o nm [a])) :
    ∃ b off ds, A = some ⟨b, off, none⟩ ∧ F b ∧ TyR w F ds a ∧ n = 1 ∧ 1 ≤ c ∧ ∀ j u, ds[j]? = some u → w.cell? ⟨b, off + j, none⟩ = some u := by
  subst hcs
  obtain ⟨m, h⟩ := h
  cases m with
  | zero => exact h.elim
  | succ m =>
    obtain ⟨av, he, _, _, _, hav⟩ := h
    simp only [List.cons.injEq, and_true] at he
    obtain ⟨_, _, _, rfl⟩ := he
    obtain ⟨A', c', he2, hc1, _⟩ := hav.form
    injection he2 with e1 e2 e3
    subst e1; subst e2; subst e3
    obtain ⟨b, off, ds, hA, hb, _, hr, hcell⟩ := hav.at_ (k := 0) (by simp [Ty.args])
    exact ⟨b, off, ds, hA, hb, ⟨m, hr⟩, rfl, hc1, fun j u hj => by have := hcell j u hj; simpa using this⟩

theorem dec_small {u : Nat} (h : u < 10) : decTxt u = ⟨#[UInt8.ofNat (48 + u)]⟩ := by
  refine ba_ext ?_
  unfold decTxt
  rw [ba_of, Lib.itoa_nonneg, Lib.decDigits_one h]
theorem dec_more {u : Nat} (h : ¬ u < 10) : decTxt u = decTxt (u / 10 : Nat) ++ decTxt (u % 10 : Nat) := by
  refine ba_ext ?_
  unfold decTxt
  rw [ba_app, ba_of, ba_of, ba_of, Lib.itoa_nonneg, Lib.itoa_nonneg, Lib.itoa_nonneg, Lib.decDigits_one (show u % 10 < 10 by omega)]
  conv => lhs; unfold Lib.decDigits
  rw [dif_neg h]
end Go.Proofs.YthedfpcdibhfpaaDoor

/- Expressions as texts: tree.exprText. -/
namespace Go.Proofs.YthedfpcdibhfpaaDoor
open Go.RowKit Go.Shelf

theorem joins_any (v : Value) (l : List ByteArray) (F : Foot) (w : World) (hF : ∀ k, F k → k < w.heap.size) (hv : SliceOf StrR 1 16 w F v l) (hl : (joined l).size ≤ 140737488355328) :
    Calls Tryd.prog 49 #[v, .string ⟨#[44, 32]⟩] w fun e w' => e = .returned (.string (joined l)) ∧ Below w.heap.size w w' := by
  obtain ⟨A, cap, rfl, h1, h2, h3, h3', h4⟩ := hv
  cases l with
  | nil => exact (Tryd.strings_Join_none A cap ⟨#[44, 32]⟩ w).mono fun e w' ⟨he, hw⟩ => ⟨he, hw ▸ Below.refl _ _⟩
  | cons x r =>
    obtain ⟨b, off, rfl, hb, hx⟩ := h4 (by simp)
    refine (Tryd.strings_Join b off cap (x :: r) ⟨#[44, 32]⟩ w (fun j y hj => ?_) (hF _ hb) h3' h1 ?_).mono fun e w' ⟨he, hw⟩ => ⟨he, hw⟩
    · obtain ⟨cs, hc, ⟨rfl, _⟩, hcell⟩ := hx j y hj
      have := hcell 0 _ rfl
      simpa using this
    · rw [ba_size, joined, ba_of] at hl; exact hl

/-- The library's table of powers lies in the memory. -/
def Pow (w : World) : Prop := Lib.TabIs Tryd.prog w "internal/strconv.uint64pow10" .u64 Lib.pow10Tab
theorem pow_named : Tryd.prog.globalNamed "internal/strconv.uint64pow10" = some 6 := by kernel_rfl
theorem Pow.lt {w : World} (h : Pow w) : 6 < w.heap.size := by
  have hc := h.cell pow_named 0 (by decide)
  exact World.block_lt_of_cell? w _ hc
theorem Pow.later {w w' : World} (h : Pow w) (hb : Below w.heap.size w w') : Pow w' := by
  unfold Pow Lib.TabIs at h ⊢
  rw [← h]
  unfold World.var?
  have hlt := Pow.lt (w := w) h
  simp only [pow_named]
  have := hb.block _ hlt
  simp [this]

set_option maxRecDepth 100000 in
theorem itoa_any (v : Int) (w : World) (h0 : 0 ≤ v) (h1 : v ≤ 999999) (hp : Pow w) :
    Calls Tryd.prog 142 #[.int .i64 v] w fun e w' => e = .returned (.string (decTxt v)) ∧ Below w.heap.size w w' :=
  (Tryd.strconv_Itoa v (by omega) (by omega) w hp).mono fun e w' ⟨he, k, os, hw⟩ => ⟨he, by
    subst hw
    exact ⟨rfl, rfl, rfl, by simp [Sort.grow], fun j hj => Sort.heap_grow_old _ _ hj⟩⟩

/-- The elements of an expression's list. -/
theorem ex_args {w : World} {F : Foot} {k v : Int} {o s : ByteArray} {args : List Ex} {A : Option Addr} {n c : Nat} {cs : List Value} (hcs : cs = [.int .i64 k, .int .i64 v, .string o, .string s, .slice A n c]) (h : ExR w F cs (.mk k v o s args)) :
    SliceOf ExR 5 72 w F (.slice A n c) args ∧ okS o ∧ okS s ∧ I64 v ∧ I64 k := by
  subst hcs
  obtain ⟨m, h⟩ := h
  cases m with
  | zero => exact h.elim
  | succ m =>
    obtain ⟨av, he, hk, hv, ho, hs, hav⟩ := h
    simp only [List.cons.injEq, and_true] at he
    obtain ⟨_, _, _, _, rfl⟩ := he
    refine ⟨?_, ho, hs, hv, hk⟩
    obtain ⟨A', cap, e, h1, h2, h3, h3', h4⟩ := hav
    refine ⟨A', cap, e, h1, h2, h3, h3', fun hl => ?_⟩
    obtain ⟨b, off, hA, hb, hx⟩ := h4 hl
    exact ⟨b, off, hA, hb, fun i x hi => by obtain ⟨ds, hc, hr, hcell⟩ := hx i x hi; exact ⟨ds, hc, ⟨m, hr⟩, hcell⟩⟩

theorem argAt_eq {l : List ByteArray} {k : Nat} (hk : k < l.length) : argAt l k = l[k] := by
  unfold argAt
  rw [List.getD_eq_getElem?_getD, List.getElem?_eq_getElem hk]; rfl

end Go.Proofs.YthedfpcdibhfpaaDoor
