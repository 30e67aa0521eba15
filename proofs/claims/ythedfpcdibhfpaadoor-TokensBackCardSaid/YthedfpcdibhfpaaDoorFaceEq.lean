/- Are two faces the same? -/
import Derived.Test.YthedfpcdibhfpaaDoorOpen
import Derived.Test.YthedfpcdibhfpaaDoorStrs
import Derived.Laws.StructEq
import Derived.Deep.QuietTactic
import Derived.BigQuiet
import Derived.WalkSmall
namespace Go.Proofs.YthedfpcdibhfpaaDoor
open Go.RowKit Go.Shelf

def eqB (a b : ByteArray) : Bool := a.toList == b.toList
theorem eqB_iff (a b : ByteArray) : eqB a b = decide (a = b) := str_eq a b
def knownEq (a b : Known) : Bool := eqB a.name b.name && eqB a.is_ b.is_

theorem neq_known (a b : Known) (w : World) :
    (binOp .neq 74 (.agg #[.string a.name, .string a.is_]) (.agg #[.string b.name, .string b.is_])).run Tryd.prog w = .ok (.bool (!(knownEq a b))) w := by
  have u3 := Tryd.underlying9
  have a3 := Tryd.isAgg9
  have z3 := Tryd.sizeOf9
  have hS : Tryd.prog.underlying 74 = some (.struct (Tryd.prog.fieldsOf 74)) := by kernel_rfl
  have hp : Tryd.prog.stoodInHeld 74 = false := by kernel_rfl
  rw [run_neq_struct, show (10000 : Nat) = 9999 + 1 from rfl, run_equalIn_agg w 9999 74 _ _ hS hp]
  simp only [Program.fieldsOf, Tryd.underlying74]
  go_simp
  by_cases h1 : a.name.toList = b.name.toList <;> by_cases h2 : a.is_.toList = b.is_.toList <;> simp [knownEq, eqB, h1, h2]

end Go.Proofs.YthedfpcdibhfpaaDoor
