/- A world that holds the library's listed tables: for the rows' witness. -/
import Derived.Test.YtoejhgbndehaiaaDoorRows
namespace Go.Proofs.YtoejhgbndehaiaaDoor

def rangeCells : Array Value := ([128, 191, 160, 191, 128, 159, 144, 191, 128, 143, 0, 0, 0, 0, 0, 0, 0, 0, 0, 0, 0, 0, 0, 0, 0, 0, 0, 0, 0, 0, 0, 0].map fun n : Nat => Value.int .u8 n).toArray
def firstCells : Array Value := (Go.Pinned.utf8FirstZ.map fun n : Nat => Value.int .u8 n).toArray
/-- The two tables, laid in their blocks. -/
def layIn (cs : Array Value) : Obj → Obj
  | .cells _ t frozen => .cells cs t frozen
  | o => o
def layUtf (w : World) : World := { w with heap := (w.heap.modify 1 (layIn firstCells)).modify 2 (layIn rangeCells) }

end Go.Proofs.YtoejhgbndehaiaaDoor
