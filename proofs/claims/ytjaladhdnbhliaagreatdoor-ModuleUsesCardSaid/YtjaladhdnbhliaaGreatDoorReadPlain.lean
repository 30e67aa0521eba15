/- The plain reader of declarations: types, expressions, functions, lines out of tokens; modules out of lines. -/
import Derived.Test.YtjaladhdnbhliaaGreatDoorTokPlain
import Derived.Test.YtjaladhdnbhliaaGreatDoorTreeErr
import Derived.Test.YtjaladhdnbhliaaGreatDoorFaceEq
namespace Go.Proofs.YtjaladhdnbhliaaGreatDoor
open Go.RowKit

/-- What reads a thing from the front of some tokens: it and what is left, or what is wrong. -/
abbrev Pr (α : Type) := List Token → Except Int (α × List Token)
def mt : ByteArray := ⟨#[]⟩
theorem mt_ok : okS mt := by unfold okS mt; decide
/-- A sign, if it is next. -/
def prTake (s : ByteArray) : List Token → Option (List Token)
  | [] => none
  | t :: r => if t.kind = 4 ∧ eqB t.text s = true then some r else none
/-- A sign that must be next. -/
def prMust (s : ByteArray) : Pr Unit := fun l => match prTake s l with
  | some r => .ok ((), r)
  | none => .error 4
/-- A name that must be next. -/
def prName : Pr ByteArray
  | [] => .error 4
  | t :: r => if t.kind = 1 ∧ nameOk t.text = true then .ok (t.text, r) else .error 4
def prThen {α β : Type} (p : Pr α) (f : α → Pr β) : Pr β := fun l => match p l with
  | .error e => .error e
  | .ok (x, r) => f x r
def prPure {α : Type} (x : α) : Pr α := fun l => .ok (x, l)
/-- One thing where the sign is next, else another. -/
def prIf {α : Type} (s : ByteArray) (p q : Pr α) : Pr α := fun l => match prTake s l with
  | some r => p r
  | none => q l
def prFail {α : Type} (e : Int) : Pr α := fun _ => .error e

def sEq : ByteArray := ⟨#[61]⟩
def sLp : ByteArray := ⟨#[40]⟩
def sRp : ByteArray := ⟨#[41]⟩
def sLb : ByteArray := ⟨#[91]⟩
def sRb : ByteArray := ⟨#[93]⟩
def sComma : ByteArray := ⟨#[44]⟩
def sPlus : ByteArray := ⟨#[43]⟩
def sDot : ByteArray := ⟨#[46]⟩
def sColon : ByteArray := ⟨#[58]⟩
def sLt : ByteArray := ⟨#[60]⟩
def sGt : ByteArray := ⟨#[62]⟩

/-- A type's word. -/
def prWord : Pr Ty
  | [] => .error 4
  | t :: r =>
    if t.kind ≠ 1 then .error 4
    else if eqB t.text kwInt = true then .ok (.mk 1 mt mt [], r)
    else if eqB t.text kwText = true then .ok (.mk 2 mt mt [], r)
    else if nameOk t.text = false then .error 4
    else prIf sDot (prThen prName fun n => prPure (.mk 4 t.text n [])) (prPure (.mk 4 mt t.text [])) r
/-- A type that may nest so deep. -/
def prKind : Nat → Pr Ty
  | 0 => prFail 1
  | f + 1 => prIf sLb (prThen (prKind f) fun t => prThen (prMust sRb) fun _ => prPure (.mk 3 mt mt [t])) prWord

def sumOf (x y : Ex) : Ex := .mk 5 0 mt mt [x, y]
def atOf (x y : Ex) : Ex := .mk 7 0 mt mt [x, y]
/-- Sums. -/
def prSums (post : Pr Ex) : Nat → Ex → Pr Ex
  | 0, x => prPure x
  | n + 1, x => prIf sPlus (prThen post fun y => prSums post n (sumOf x y)) (prPure x)
/-- Places. -/
def prAts (ex : Pr Ex) : Nat → Ex → Pr Ex
  | 0, x => prPure x
  | n + 1, x => prIf sLb (prThen ex fun y => prThen (prMust sRb) fun _ => prAts ex n (atOf x y)) (prPure x)
/-- More of a list. -/
def prMore (ex : Pr Ex) : Nat → List Ex → Pr (List Ex)
  | 0, xs => prPure xs
  | n + 1, xs => prIf sComma (prThen ex fun y => prMore ex n (xs ++ [y])) (prPure xs)
/-- A list up to a sign. -/
def prList (ex : Pr Ex) (s : ByteArray) : Pr (List Ex) := prThen ex fun x => prThen (fun l => prMore ex l.length [x] l) fun xs => prThen (prMust s) fun _ => prPure xs
/-- What a call is given. -/
def prArgs (ex : Pr Ex) (o s : ByteArray) : Pr Ex := prIf sRp (prPure (.mk 4 0 o s [])) (prThen (prList ex sRp) fun xs => prPure (.mk 4 0 o s xs))
/-- A parameter, or a call. -/
def prNamed (ex : Pr Ex) (s : ByteArray) : Pr Ex :=
  prIf sDot (prThen prName fun n => prThen (prMust sLp) fun _ => prArgs ex s n) (prIf sLp (prArgs ex mt s) (prPure (.mk 3 0 mt s [])))
/-- A quote, a number, a name. -/
def prLeaf (ex : Pr Ex) : Pr Ex
  | [] => .error 4
  | t :: r =>
    if t.kind = 3 then .ok (.mk 2 0 mt t.text [], r)
    else if t.kind = 2 then .ok (.mk 1 (spell 0 t.text.data.toList : Nat) mt mt [], r)
    else if t.kind = 1 ∧ nameOk t.text = true then prNamed ex t.text r
    else .error 4
def prAtom (ex : Pr Ex) : Pr Ex :=
  prIf sLp (prThen ex fun x => prThen (prMust sRp) fun _ => prPure x) (prIf sLb (prThen (prList ex sRb) fun xs => prPure (.mk 6 0 mt mt xs)) (prLeaf ex))
def prPost (ex : Pr Ex) : Pr Ex := prThen (prAtom ex) fun x l => prAts ex l.length x l
/-- An expression that may nest so deep. -/
def prExpr : Nat → Pr Ex
  | 0 => prFail 1
  | f + 1 => prThen (prPost (prExpr f)) fun x l => prSums (prPost (prExpr f)) l.length x l

/-- One parameter. -/
def prPar : Pr Field := prThen prName fun n => prThen (prMust sColon) fun _ => prThen (prKind 40) fun t => prPure ⟨n, t⟩
/-- Parameters up to the sign. -/
def prPars : Nat → List Field → Pr (List Field)
  | 0, _ => prFail 4
  | n + 1, ps => prIf sRp (prPure ps) (prThen (if ps.length = 0 then prPure () else prMust sComma) fun _ => prThen prPar fun p => prPars n (ps ++ [p]))
def prVar : Pr ByteArray := prIf sLt (prThen prName fun v => prThen (prMust sGt) fun _ => prPure v) (prPure mt)
def prFun : Pr Func := prThen prName fun n => prThen prVar fun v => prThen (prMust sLp) fun _ => prThen (fun l => prPars (l.length + 1) [] l) fun ps =>
  prThen (prMust sColon) fun _ => prThen (prKind 40) fun t => prThen (prMust sEq) fun _ => prThen (prExpr 40) fun x => prPure ⟨n, v, ps, t, x⟩
def prField : Pr Field := prThen prName fun n => prThen (prMust sEq) fun _ => prThen (prKind 40) fun t => prPure ⟨n, t⟩
/-- All tokens are read. -/
def prEnd {α : Type} (p : Pr α) : Pr α := prThen p fun x l => match l with
  | [] => .ok (x, [])
  | _ :: _ => .error 4
/-- A line of a module. -/
def lineR (m : Module) : List Token → Except Int Module
  | [] => .ok m
  | t :: r =>
    if t.kind ≠ 1 then .error 4
    else if eqB t.text kwUse = true then (prEnd prName r).map fun x => { m with uses := m.uses ++ [x.1] }
    else if eqB t.text kwType = true then (prEnd prField r).map fun x => { m with types := m.types ++ [x.1] }
    else if eqB t.text kwFunc = true then (prEnd prFun r).map fun x => { m with funcs := m.funcs ++ [x.1] }
    else .error 4
/-! Steps. -/
theorem prTake_cons (s : ByteArray) (t : Token) (r : List Token) : prTake s (t :: r) = if t.kind = 4 ∧ eqB t.text s = true then some r else none := rfl
theorem prName_cons (t : Token) (r : List Token) : prName (t :: r) = if t.kind = 1 ∧ nameOk t.text = true then .ok (t.text, r) else .error 4 := rfl
theorem prWord_cons (t : Token) (r : List Token) : prWord (t :: r) = if t.kind ≠ 1 then .error 4
    else if eqB t.text kwInt = true then .ok (.mk 1 mt mt [], r)
    else if eqB t.text kwText = true then .ok (.mk 2 mt mt [], r)
    else if nameOk t.text = false then .error 4
    else prIf sDot (prThen prName fun n => prPure (.mk 4 t.text n [])) (prPure (.mk 4 mt t.text [])) r := rfl
theorem prLeaf_cons (ex : Pr Ex) (t : Token) (r : List Token) : prLeaf ex (t :: r) = if t.kind = 3 then .ok (.mk 2 0 mt t.text [], r)
    else if t.kind = 2 then .ok (.mk 1 (spell 0 t.text.data.toList : Nat) mt mt [], r)
    else if t.kind = 1 ∧ nameOk t.text = true then prNamed ex t.text r
    else .error 4 := rfl
section
variable {α β : Type} {p : Pr α} {l r : List Token} {x : α} {e : Int} {s : ByteArray}
theorem prThen_ok {f : α → Pr β} (h : p l = .ok (x, r)) : prThen p f l = f x r := by unfold prThen; rw [h]
theorem prThen_err {f : α → Pr β} (h : p l = .error e) : prThen p f l = .error e := by unfold prThen; rw [h]
theorem prIf_yes {p q : Pr α} (h : prTake s l = some r) : prIf s p q l = p r := by unfold prIf; rw [h]
theorem prIf_no {p q : Pr α} (h : prTake s l = none) : prIf s p q l = q l := by unfold prIf; rw [h]
theorem prMust_yes (h : prTake s l = some r) : prMust s l = .ok ((), r) := by unfold prMust; rw [h]
theorem prMust_no (h : prTake s l = none) : prMust s l = .error 4 := by unfold prMust; rw [h]
theorem take_len (h : prTake s l = some r) : r.length + 1 = l.length := by
  cases l with
  | nil => cases h
  | cons t u =>
    rw [prTake_cons] at h
    split at h
    · cases h; rfl
    · cases h
theorem take_nil : prTake s [] = none := rfl

/-- It leaves no more than there was. -/
def Short (p : Pr α) : Prop := ∀ l x r, p l = .ok (x, r) → r.length ≤ l.length
theorem short_pure : Short (prPure x) := fun _ _ _ h => by cases h; exact Nat.le_refl _
theorem short_fail : Short (prFail e : Pr α) := fun _ _ _ h => by cases h
theorem short_must : Short (prMust s) := fun l x r h => by
  unfold prMust at h
  cases ht : prTake s l with
  | none => rw [ht] at h; cases h
  | some u => rw [ht] at h; cases h; have := take_len ht; omega
theorem short_name : Short prName := fun l x r h => by
  cases l with
  | nil => cases h
  | cons t u =>
    rw [prName_cons] at h
    split at h
    · cases h; simp
    · cases h
theorem short_then {f : α → Pr β} (hp : Short p) (hf : ∀ x, Short (f x)) : Short (prThen p f) := fun l y r h => by
  cases hq : p l with
  | error e => rw [prThen_err hq] at h; cases h
  | ok a =>
    obtain ⟨x, u⟩ := a
    rw [prThen_ok hq] at h
    exact Nat.le_trans (hf _ _ _ _ h) (hp _ _ _ hq)
theorem short_if {p q : Pr α} (hp : Short p) (hq : Short q) : Short (prIf s p q) := fun l y r h => by
  cases ht : prTake s l with
  | none => rw [prIf_no ht] at h; exact hq _ _ _ h
  | some u => rw [prIf_yes ht] at h; have := hp _ _ _ h; have := take_len ht; omega
end
theorem short_word : Short prWord := fun l x r h => by
  cases l with
  | nil => cases h
  | cons t u =>
    rw [prWord_cons] at h
    split at h
    · cases h
    split at h
    · cases h; simp
    split at h
    · cases h; simp
    split at h
    · cases h
    have := short_if (s := sDot) (short_then short_name fun n => short_pure (x := Ty.mk 4 t.text n [])) (short_pure (x := Ty.mk 4 mt t.text [])) _ _ _ h
    simp; omega
theorem short_kind : ∀ f, Short (prKind f)
  | 0 => short_fail
  | f + 1 => short_if (short_then (short_kind f) fun _ => short_then short_must fun _ => short_pure) short_word
section
variable {ex : Pr Ex} (hx : Short ex)
include hx
theorem short_sums : ∀ n x, Short (prSums ex n x)
  | 0, _ => short_pure
  | n + 1, _ => short_if (short_then hx fun _ => short_sums n _) short_pure
theorem short_ats : ∀ n x, Short (prAts ex n x)
  | 0, _ => short_pure
  | n + 1, _ => short_if (short_then hx fun _ => short_then short_must fun _ => short_ats n _) short_pure
theorem short_more : ∀ n x, Short (prMore ex n x)
  | 0, _ => short_pure
  | n + 1, _ => short_if (short_then hx fun _ => short_more n _) short_pure
theorem short_list (s : ByteArray) : Short (prList ex s) := short_then hx fun _ => short_then (fun _ _ _ h => short_more hx _ _ _ _ _ h) fun _ => short_then short_must fun _ => short_pure
theorem short_args (o s : ByteArray) : Short (prArgs ex o s) := short_if short_pure (short_then (short_list hx _) fun _ => short_pure)
theorem short_named (s : ByteArray) : Short (prNamed ex s) := short_if (short_then short_name fun _ => short_then short_must fun _ => short_args hx _ _) (short_if (short_args hx _ _) short_pure)
theorem short_leaf : Short (prLeaf ex) := fun l x r h => by
  cases l with
  | nil => cases h
  | cons t u =>
    rw [prLeaf_cons] at h
    split at h
    · cases h; simp
    split at h
    · cases h; simp
    split at h
    · have := short_named hx _ _ _ _ h
      simp; omega
    · cases h
theorem short_atom : Short (prAtom ex) := short_if (short_then hx fun _ => short_then short_must fun _ => short_pure) (short_if (short_then (short_list hx _) fun _ => short_pure) (short_leaf hx))
theorem short_post : Short (prPost ex) := short_then (short_atom hx) fun _ _ _ _ h => short_ats hx _ _ _ _ _ h
end
theorem short_expr : ∀ f, Short (prExpr f)
  | 0 => short_fail
  | f + 1 => short_then (short_post (short_expr f)) fun _ _ _ _ h => short_sums (short_post (short_expr f)) _ _ _ _ _ h
theorem short_par : Short prPar := short_then short_name fun _ => short_then short_must fun _ => short_then (short_kind 40) fun _ => short_pure
/-- A parameter takes a token at least. -/
theorem par_less {l r : List Token} {p : Field} (h : prPar l = .ok (p, r)) : r.length + 1 ≤ l.length := by
  unfold prPar at h
  cases hn : prName l with
  | error e => rw [prThen_err hn] at h; cases h
  | ok a =>
    obtain ⟨n, u⟩ := a
    rw [prThen_ok hn] at h
    have h2 := short_then (short_must (s := sColon)) (fun _ => short_then (short_kind 40) fun t => short_pure (x := (⟨n, t⟩ : Field))) _ _ _ h
    cases l with
    | nil => cases hn
    | cons t v =>
      rw [prName_cons] at hn
      split at hn
      · cases hn; simp; omega
      · cases hn

/-! What is wrong is never nothing. -/
def NoZero {α : Type} (p : Pr α) : Prop := ∀ l k, p l = .error k → k ≠ 0
section
variable {α β : Type} {p q : Pr α} {s : ByteArray}
theorem nz_pure {x : α} : NoZero (prPure x) := fun _ _ h => by cases h
theorem nz_fail {k : Int} (hk : k ≠ 0) : NoZero (prFail k : Pr α) := fun _ _ h => by cases h; exact hk
theorem nz_must : NoZero (prMust s) := fun l k h => by
  unfold prMust at h
  cases ht : prTake s l with
  | none => rw [ht] at h; cases h; decide
  | some u => rw [ht] at h; cases h
theorem nz_name : NoZero prName := fun l k h => by
  cases l with
  | nil => cases h; decide
  | cons t u =>
    rw [prName_cons] at h
    split at h
    · cases h
    · cases h; decide
theorem nz_then {f : α → Pr β} (hp : NoZero p) (hf : ∀ x, NoZero (f x)) : NoZero (prThen p f) := fun l k h => by
  cases hq : p l with
  | error e => rw [prThen_err hq] at h; cases h; exact hp _ _ hq
  | ok a =>
    obtain ⟨x, u⟩ := a
    rw [prThen_ok hq] at h
    exact hf _ _ _ h
theorem nz_if (hp : NoZero p) (hq : NoZero q) : NoZero (prIf s p q) := fun l k h => by
  cases ht : prTake s l with
  | none => rw [prIf_no ht] at h; exact hq _ _ h
  | some u => rw [prIf_yes ht] at h; exact hp _ _ h
end
theorem nz_word : NoZero prWord := fun l k h => by
  cases l with
  | nil => cases h; decide
  | cons t u =>
    rw [prWord_cons] at h
    split at h
    · cases h; decide
    split at h
    · cases h
    split at h
    · cases h
    split at h
    · cases h; decide
    exact nz_if (nz_then nz_name fun _ => nz_pure) nz_pure _ _ h
theorem nz_kind : ∀ f, NoZero (prKind f)
  | 0 => nz_fail (by decide)
  | f + 1 => nz_if (nz_then (nz_kind f) fun _ => nz_then nz_must fun _ => nz_pure) nz_word
section
variable {ex : Pr Ex} (hx : NoZero ex)
include hx
theorem nz_sums : ∀ n x, NoZero (prSums ex n x)
  | 0, _ => nz_pure
  | n + 1, _ => nz_if (nz_then hx fun _ => nz_sums n _) nz_pure
theorem nz_ats : ∀ n x, NoZero (prAts ex n x)
  | 0, _ => nz_pure
  | n + 1, _ => nz_if (nz_then hx fun _ => nz_then nz_must fun _ => nz_ats n _) nz_pure
theorem nz_more : ∀ n x, NoZero (prMore ex n x)
  | 0, _ => nz_pure
  | n + 1, _ => nz_if (nz_then hx fun _ => nz_more n _) nz_pure
theorem nz_list (s : ByteArray) : NoZero (prList ex s) := nz_then hx fun _ => nz_then (fun _ _ h => nz_more hx _ _ _ _ h) fun _ => nz_then nz_must fun _ => nz_pure
theorem nz_args (o s : ByteArray) : NoZero (prArgs ex o s) := nz_if nz_pure (nz_then (nz_list hx _) fun _ => nz_pure)
theorem nz_named (s : ByteArray) : NoZero (prNamed ex s) := nz_if (nz_then nz_name fun _ => nz_then nz_must fun _ => nz_args hx _ _) (nz_if (nz_args hx _ _) nz_pure)
theorem nz_leaf : NoZero (prLeaf ex) := fun l k h => by
  cases l with
  | nil => cases h; decide
  | cons t u =>
    rw [prLeaf_cons] at h
    split at h
    · cases h
    split at h
    · cases h
    split at h
    · exact nz_named hx _ _ _ h
    · cases h; decide
theorem nz_atom : NoZero (prAtom ex) := nz_if (nz_then hx fun _ => nz_then nz_must fun _ => nz_pure) (nz_if (nz_then (nz_list hx _) fun _ => nz_pure) (nz_leaf hx))
theorem nz_post : NoZero (prPost ex) := nz_then (nz_atom hx) fun _ _ _ h => nz_ats hx _ _ _ _ h
end
theorem nz_expr : ∀ f, NoZero (prExpr f)
  | 0 => nz_fail (by decide)
  | f + 1 => nz_then (nz_post (nz_expr f)) fun _ _ _ h => nz_sums (nz_post (nz_expr f)) _ _ _ _ h
theorem nz_par : NoZero prPar := nz_then nz_name fun _ => nz_then nz_must fun _ => nz_then (nz_kind 40) fun _ => nz_pure
theorem nz_field : NoZero prField := nz_then nz_name fun _ => nz_then nz_must fun _ => nz_then (nz_kind 40) fun _ => nz_pure
theorem nz_pars : ∀ m ps, NoZero (prPars m ps)
  | 0, _ => nz_fail (by decide)
  | m + 1, ps => nz_if nz_pure (nz_then (p := if ps.length = 0 then prPure () else prMust sComma) (by split; exact nz_pure; exact nz_must) fun _ => nz_then nz_par fun p => nz_pars m _)
theorem nz_var : NoZero prVar := nz_if (nz_then nz_name fun _ => nz_then nz_must fun _ => nz_pure) nz_pure
theorem nz_fun : NoZero prFun := nz_then nz_name fun _ => nz_then nz_var fun _ => nz_then nz_must fun _ => nz_then (fun _ _ h => nz_pars _ _ _ _ h) fun _ =>
  nz_then nz_must fun _ => nz_then (nz_kind 40) fun _ => nz_then nz_must fun _ => nz_then (nz_expr 40) fun _ => nz_pure
theorem nz_end {α : Type} {p : Pr α} (hp : NoZero p) : NoZero (prEnd p) := nz_then hp fun x l k h => by
  cases l with
  | nil => cases h
  | cons t u => cases h; decide
theorem nz_map {α β : Type} {x : Except Int α} {f : α → β} {k : Int} (h : x.map f = .error k) (hx : ∀ k, x = .error k → k ≠ 0) : k ≠ 0 := by
  cases x with
  | error e => cases h; exact hx _ rfl
  | ok a => cases h
theorem nz_line {m : Module} {L : List Token} {k : Int} (h : lineR m L = .error k) : k ≠ 0 := by
  cases L with
  | nil => cases h
  | cons t r =>
    change (if t.kind ≠ 1 then .error 4
      else if eqB t.text kwUse = true then (prEnd prName r).map fun x => { m with uses := m.uses ++ [x.1] }
      else if eqB t.text kwType = true then (prEnd prField r).map fun x => { m with types := m.types ++ [x.1] }
      else if eqB t.text kwFunc = true then (prEnd prFun r).map fun x => { m with funcs := m.funcs ++ [x.1] }
      else .error 4) = Except.error k at h
    split at h
    · cases h; decide
    split at h
    · exact nz_map h (fun k => nz_end nz_name _ k)
    split at h
    · exact nz_map h (fun k => nz_end nz_field _ k)
    split at h
    · exact nz_map h (fun k => nz_end nz_fun _ k)
    · cases h; decide

/-! Loops, a round at a time. -/
section
variable {ex : Pr Ex} {n : Nat} {x y : Ex} {xs : List Ex} {l r r2 r3 : List Token} {e : Int}
theorem took_pos {s : ByteArray} (h : prTake s l = some r) (hn : l.length ≤ n) : ∃ m, n = m + 1 := ⟨n - 1, by have := take_len h; omega⟩
theorem more_stop (h : prTake sComma l = none) : prMore ex n xs l = .ok (xs, l) := by
  cases n with
  | zero => rfl
  | succ n => show prIf _ _ _ _ = _; rw [prIf_no h]; rfl
theorem more_err (h : prTake sComma l = some r) (hn : l.length ≤ n) (hx : ex r = .error e) : prMore ex n xs l = .error e := by
  obtain ⟨n, rfl⟩ := took_pos h hn
  show prIf _ _ _ _ = _; rw [prIf_yes h, prThen_err hx]
theorem more_ok (h : prTake sComma l = some r) (hn : l.length ≤ n) (hx : ex r = .ok (y, r2)) : prMore ex n xs l = prMore ex (n - 1) (xs ++ [y]) r2 := by
  obtain ⟨n, rfl⟩ := took_pos h hn
  show prIf _ _ _ _ = _; rw [prIf_yes h, prThen_ok hx]; rfl
theorem sums_stop (h : prTake sPlus l = none) : prSums ex n x l = .ok (x, l) := by
  cases n with
  | zero => rfl
  | succ n => show prIf _ _ _ _ = _; rw [prIf_no h]; rfl
theorem sums_err (h : prTake sPlus l = some r) (hn : l.length ≤ n) (hx : ex r = .error e) : prSums ex n x l = .error e := by
  obtain ⟨n, rfl⟩ := took_pos h hn
  show prIf _ _ _ _ = _; rw [prIf_yes h, prThen_err hx]
theorem sums_ok (h : prTake sPlus l = some r) (hn : l.length ≤ n) (hx : ex r = .ok (y, r2)) : prSums ex n x l = prSums ex (n - 1) (sumOf x y) r2 := by
  obtain ⟨n, rfl⟩ := took_pos h hn
  show prIf _ _ _ _ = _; rw [prIf_yes h, prThen_ok hx]; rfl
theorem ats_stop (h : prTake sLb l = none) : prAts ex n x l = .ok (x, l) := by
  cases n with
  | zero => rfl
  | succ n => show prIf _ _ _ _ = _; rw [prIf_no h]; rfl
theorem ats_err (h : prTake sLb l = some r) (hn : l.length ≤ n) (hx : ex r = .error e) : prAts ex n x l = .error e := by
  obtain ⟨n, rfl⟩ := took_pos h hn
  show prIf _ _ _ _ = _; rw [prIf_yes h, prThen_err hx]
theorem ats_no (h : prTake sLb l = some r) (hn : l.length ≤ n) (hx : ex r = .ok (y, r2)) (h2 : prTake sRb r2 = none) : prAts ex n x l = .error 4 := by
  obtain ⟨n, rfl⟩ := took_pos h hn
  show prIf _ _ _ _ = _; rw [prIf_yes h, prThen_ok hx, prThen_err (prMust_no h2)]
theorem ats_ok (h : prTake sLb l = some r) (hn : l.length ≤ n) (hx : ex r = .ok (y, r2)) (h2 : prTake sRb r2 = some r3) : prAts ex n x l = prAts ex (n - 1) (atOf x y) r3 := by
  obtain ⟨n, rfl⟩ := took_pos h hn
  show prIf _ _ _ _ = _; rw [prIf_yes h, prThen_ok hx, prThen_ok (prMust_yes h2)]; rfl
end

theorem pars_stop {m : Nat} {ps : List Field} {l r : List Token} (h : prTake sRp l = some r) : prPars (m + 1) ps l = .ok (ps, r) := by
  show prIf _ _ _ _ = _; rw [prIf_yes h]; rfl
theorem pars_go {m : Nat} {ps : List Field} {l : List Token} (h : prTake sRp l = none) : prPars (m + 1) ps l = prThen (if ps.length = 0 then prPure () else prMust sComma) (fun _ => prThen prPar fun p => prPars m (ps ++ [p])) l := by
  show prIf _ _ _ _ = _; rw [prIf_no h]
theorem prThen_assoc {α β γ : Type} (p : Pr α) (f : α → Pr β) (g : β → Pr γ) : prThen (prThen p f) g = prThen p fun x => prThen (f x) g := by
  funext l
  unfold prThen
  cases p l with
  | error e => rfl
  | ok a => rfl
theorem par_go {α : Type} (K : Field → Pr α) : prThen prPar K = prThen prName fun n => prThen (prMust sColon) fun _ => prThen (prKind 40) fun t => K ⟨n, t⟩ := by
  unfold prPar
  rw [prThen_assoc]
  congr 1
  funext n
  rw [prThen_assoc]
  congr 1
  funext _
  rw [prThen_assoc]
  rfl
/-- What follows a function's parameters. -/
def prRest (n v : ByteArray) (ps : List Field) : Pr Func := prThen (prMust sColon) fun _ => prThen (prKind 40) fun t => prThen (prMust sEq) fun _ => prThen (prExpr 40) fun x => prPure ⟨n, v, ps, t, x⟩
/-- What follows a function's variable. -/
def prTail (n v : ByteArray) : Pr Func := prThen (prMust sLp) fun _ => prThen (fun l => prPars (l.length + 1) [] l) (prRest n v)
theorem prFun_eq : prFun = prThen prName fun n => prThen prVar (prTail n) := rfl
theorem short_pars : ∀ m ps, Short (prPars m ps)
  | 0, _ => short_fail
  | m + 1, ps => short_if short_pure (short_then (p := if ps.length = 0 then prPure () else prMust sComma) (by split; exact short_pure; exact short_must) fun _ => short_then short_par fun p => short_pars m _)
theorem short_var : Short prVar := short_if (short_then short_name fun _ => short_then short_must fun _ => short_pure) short_pure

end Go.Proofs.YtjaladhdnbhliaaGreatDoor
