/- What is wrong with types, expressions, functions, modules: the reference's typeFault, exprFault, funcFault, ModuleFault. -/
import Derived.Test.YtafhepilcmimlaaDoorBase
import Derived.Test.YtafhepilcmimlaaDoorName
namespace Go.Proofs.YtafhepilcmimlaaDoor
open Go.RowKit Go.Shelf

/-- What is wrong with a type that may nest so deep; 0: nothing. -/
def tyErr : Nat → Ty → Int
  | 0, _ => 1
  | f + 1, .mk k o nm args =>
    if k < 1 ∨ 4 < k then 3
    else if k = 3 then (match args with
      | [a] => if nm.size = 0 ∧ o.size = 0 then tyErr f a else 4
      | _ => 4)
    else if args.length ≠ 0 then 4
    else if k = 4 then (if nameOk nm = true ∧ (o.size = 0 ∨ nameOk o = true) then 0 else 4)
    else if nm.size = 0 ∧ o.size = 0 then 0 else 4

/-- May an expression of a kind be? -/
def exOk (k : Int) (o s : ByteArray) (m : Nat) : Bool :=
  if k = 1 then decide (s.size = 0) && decide (m = 0)
  else if k = 2 then quoteOk s && decide (m = 0)
  else if k = 3 then nameOk s && decide (m = 0)
  else if k = 4 then nameOk s && (decide (o.size = 0) || nameOk o)
  else if k = 6 then decide (s.size = 0) && decide (1 ≤ m)
  else decide (s.size = 0) && decide (m = 2)
/-- What is wrong with an expression that may nest so deep; 0: nothing. -/
def exErr : Nat → Ex → Int
  | 0, _ => 1
  | f + 1, .mk k n o s args =>
    if k < 1 ∨ 7 < k then 3
    else if 8 < args.length then 1
    else if (k ≠ 1 ∧ n ≠ 0) ∨ (k ≠ 4 ∧ o.size ≠ 0) then 4
    else if exOk k o s args.length = false then 4
    else if k = 1 ∧ (n < 0 ∨ 999999 < n) then 2
    else eachErr (exErr f) args
def fieldErr (x : Field) : Int := if nameOk x.name then tyErr 10 x.is_ else 4
/-- What is wrong with a function. -/
def funErr (x : Func) : Int :=
  if nameOk x.name = false ∨ (x.var_.size ≠ 0 ∧ nameOk x.var_ = false) then 4
  else if 8 < x.params.length then 1
  else if eachErr fieldErr x.params ≠ 0 then eachErr fieldErr x.params
  else if tyErr 10 x.result ≠ 0 then tyErr 10 x.result
  else exErr 10 x.body
def useErr (s : ByteArray) : Int := if nameOk s then 0 else 4
/-- What is wrong with a module; 0: nothing. -/
def modErr (m : Module) : Int :=
  if 24 < m.uses.length + m.types.length + m.funcs.length then 1
  else if eachErr useErr m.uses ≠ 0 then eachErr useErr m.uses
  else if eachErr fieldErr m.types ≠ 0 then eachErr fieldErr m.types
  else eachErr funErr m.funcs

theorem size_zero {s : ByteArray} (h : s.toList.isEmpty = true) : s.size = 0 := by rw [str_isEmpty] at h; simpa using h
theorem size_pos {s : ByteArray} (h : s.toList.isEmpty = false) : s.size ≠ 0 := by rw [str_isEmpty] at h; simpa using h

end Go.Proofs.YtafhepilcmimlaaDoor
