/- Are two faces the same? -/
import Derived.Test.YtoejhgbndehaiaaOpen
import Derived.Test.YtoejhgbndehaiaaStrs
import Derived.Laws.StructEq
import Derived.Deep.QuietTactic
import Derived.BigQuiet
import Derived.WalkSmall
namespace Go.Proofs.Ytoejhgbndehaiaa
open Go.RowKit Go.Shelf

def eqB (a b : ByteArray) : Bool := a.toList == b.toList
theorem eqB_iff (a b : ByteArray) : eqB a b = decide (a = b) := str_eq a b
def knownEq (a b : Known) : Bool := eqB a.name b.name && eqB a.is_ b.is_

theorem neq_known (a b : Known) (w : World) :
    (binOp .neq 68 (.agg #[.string a.name, .string a.is_]) (.agg #[.string b.name, .string b.is_])).run Try.prog w = .ok (.bool (!(knownEq a b))) w := by
  have u3 := Try.underlying9
  have a3 := Try.isAgg9
  have z3 := Try.sizeOf9
  have hS : Try.prog.underlying 68 = some (.struct (Try.prog.fieldsOf 68)) := by kernel_rfl
  have hp : Try.prog.stoodInHeld 68 = false := by kernel_rfl
  rw [run_neq_struct, show (10000 : Nat) = 9999 + 1 from rfl, run_equalIn_agg w 9999 68 _ _ hS hp]
  simp only [Program.fieldsOf, Try.underlying68]
  go_simp
  by_cases h1 : a.name.toList = b.name.toList <;> by_cases h2 : a.is_.toList = b.is_.toList <;> simp [knownEq, eqB, h1, h2]

end Go.Proofs.Ytoejhgbndehaiaa
