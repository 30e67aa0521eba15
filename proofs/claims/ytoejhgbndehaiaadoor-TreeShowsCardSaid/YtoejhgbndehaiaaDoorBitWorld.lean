/- A world that holds the listed tables of strconv and math/bits: for the rows' witness. -/
import Derived.Test.YtoejhgbndehaiaaDoorRows
import Derived.Lib.LaidTab
import Derived.Lib.ItoaNum
namespace Go.Proofs.YtoejhgbndehaiaaDoor

def bytesIn (l : List Nat) : Obj → Obj
  | .cells _ t frozen => .cells (l.map fun n : Nat => Value.int .u8 (n : Int)).toArray t frozen
  | o => o
def powsIn : Obj → Obj
  | .cells _ t frozen => .cells (Lib.pow10Tab.map fun n => Value.int .u64 n).toArray t frozen
  | o => o
def bits32 : List Nat := [0, 1, 28, 2, 29, 14, 24, 3, 30, 22, 20, 15, 25, 17, 4, 8, 31, 27, 13, 23, 21, 19, 16, 7, 26, 12, 18, 6, 11, 5, 10, 9]
def bits64 : List Nat := [0, 1, 56, 2, 57, 49, 28, 3, 61, 58, 42, 50, 38, 29, 17, 4, 62, 47, 59, 36, 45, 43, 51, 22, 53, 39, 33, 30, 24, 18, 12, 5, 63, 55, 48, 27, 60, 41, 37, 16, 46, 35, 44, 21, 52, 32, 23, 11, 54, 26, 40, 15, 34, 20, 31, 10, 25, 14, 19, 9, 13, 8, 7, 6]
/-- The three tables, laid in their blocks. -/
def layBits (w : World) : World := { w with heap := ((w.heap.modify 4 (bytesIn bits32)).modify 5 (bytesIn bits64)).modify 3 powsIn }

end Go.Proofs.YtoejhgbndehaiaaDoor
