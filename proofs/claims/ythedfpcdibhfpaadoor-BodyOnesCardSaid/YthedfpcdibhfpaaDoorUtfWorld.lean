/- A world that holds the library's listed tables: for the rows' witness. -/
import Derived.Test.YthedfpcdibhfpaaDoorRows
import Derived.Test.YthedfpcdibhfpaaDoorProg
import Derived.Shelf.Vars
namespace Go.Proofs.YthedfpcdibhfpaaDoor

def rangeCells : Array Value := ([128, 191, 160, 191, 128, 159, 144, 191, 128, 143, 0, 0, 0, 0, 0, 0, 0, 0, 0, 0, 0, 0, 0, 0, 0, 0, 0, 0, 0, 0, 0, 0].map fun n : Nat => Value.int .u8 n).toArray
def firstCells : Array Value := (Go.Pinned.utf8FirstZ.map fun n : Nat => Value.int .u8 n).toArray
/-- The two tables, laid in their blocks. -/
def layIn (cs : Array Value) : Obj → Obj
  | .cells _ t frozen => .cells cs t frozen
  | o => o
def layUtf (w : World) : World := { w with heap := (w.heap.modify 2 (layIn firstCells)).modify 3 (layIn rangeCells) }

/-- The one cell of MaxLen. -/
theorem maxLen_cell {W : World} (h : W.ShapedOpen Tryd.checked.prog) : ∃ m, W.cell? ⟨1, 0, none⟩ = some (.int .i64 m) :=
  Go.Proofs.cell_of_shapedOpen_int (zero := #[.int .i64 0]) (t := 3) h (of_decide_eq_true (by kernel_rfl)) (by kernel_rfl) rfl (by kernel_rfl) (by kernel_rfl) Tryd.underlying3

end Go.Proofs.YthedfpcdibhfpaaDoor
