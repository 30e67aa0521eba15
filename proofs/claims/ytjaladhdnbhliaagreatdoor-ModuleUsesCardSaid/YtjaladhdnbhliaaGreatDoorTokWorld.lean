/- A world that holds the listed tables and errors of strconv, math/bits, unicode/utf8: for the rows' witness; and what the walks read of what a row lists. -/
import Derived.Test.YtjaladhdnbhliaaGreatDoorRows
import Derived.Test.YtjaladhdnbhliaaGreatDoorTokNum
import Derived.Lib.LaidTab
import Derived.Lib.ItoaNum
import Derived.Stop.LaidErr
import Derived.Shelf.Vars
namespace Go.Proofs.YtjaladhdnbhliaaGreatDoor
open Go.ChangeShapes Go.WideShapes Go.ChangeAt Go.RowKit

def bytesIn (l : List Nat) : Obj → Obj
  | .cells _ t frozen => .cells (l.map fun n : Nat => Value.int .u8 (n : Int)).toArray t frozen
  | o => o
def powsIn : Obj → Obj
  | .cells _ t frozen => .cells (Lib.pow10Tab.map fun n => Value.int .u64 n).toArray t frozen
  | o => o
def bits32 : List Nat := [0, 1, 28, 2, 29, 14, 24, 3, 30, 22, 20, 15, 25, 17, 4, 8, 31, 27, 13, 23, 21, 19, 16, 7, 26, 12, 18, 6, 11, 5, 10, 9]
def bits64 : List Nat := [0, 1, 56, 2, 57, 49, 28, 3, 61, 58, 42, 50, 38, 29, 17, 4, 62, 47, 59, 36, 45, 43, 51, 22, 53, 39, 33, 30, 24, 18, 12, 5, 63, 55, 48, 27, 60, 41, 37, 16, 46, 35, 44, 21, 52, 32, 23, 11, 54, 26, 40, 15, 34, 20, 31, 10, 25, 14, 19, 9, 13, 8, 7, 6]
def rangeCells : Array Value := ([128, 191, 160, 191, 128, 159, 144, 191, 128, 143, 0, 0, 0, 0, 0, 0, 0, 0, 0, 0, 0, 0, 0, 0, 0, 0, 0, 0, 0, 0, 0, 0].map fun n : Nat => Value.int .u8 n).toArray
def firstCells : Array Value := (Go.Pinned.utf8FirstZ.map fun n : Nat => Value.int .u8 n).toArray
/-- The cells of a block. -/
def layIn (cs : Array Value) : Obj → Obj
  | .cells _ t frozen => .cells cs t frozen
  | o => o
/-- An error's cell that leads to a block. -/
def errIn (b : Nat) : Obj → Obj := layIn #[.iface 313 (.pointer (some ⟨b, 0, none⟩))]
/-- The texts of the two errors, as blocks. -/
def errObjs : Array Obj := #[.cells #[.string ⟨#[105, 110, 118, 97, 108, 105, 100, 32, 115, 121, 110, 116, 97, 120]⟩] 315, .cells #[.string ⟨#[118, 97, 108, 117, 101, 32, 111, 117, 116, 32, 111, 102, 32, 114, 97, 110, 103, 101]⟩] 315]
/-- The tables, laid in their blocks; the two errors lead to the last two blocks. -/
def layTok (w : World) : World := { w with heap := ((((((w.heap.modify 5 (bytesIn bits32)).modify 6 (bytesIn bits64)).modify 4 powsIn).modify 7 (errIn (w.heap.size - 2))).modify 8 (errIn (w.heap.size - 1))).modify 2 (layIn firstCells)).modify 3 (layIn rangeCells) }

theorem syn_named : Tryz.prog.globalNamed "strconv.ErrSyntax" = some 7 := by kernel_rfl
theorem syn_typed : (Tryz.prog.globals[7]?).map (·.type) = some 129 := by kernel_rfl
theorem rng_named : Tryz.prog.globalNamed "strconv.ErrRange" = some 8 := by kernel_rfl
theorem rng_typed : (Tryz.prog.globals[8]?).map (·.type) = some 129 := by kernel_rfl
theorem err_cells : Tryz.prog.cellsOf 315 = 1 := by kernel_rfl
theorem str_cells : Tryz.prog.cellsOf 9 = 1 := by kernel_rfl
theorem err_star : "*" ++ "errors.errorString" = "*errors.errorString" := by decide
theorem err_row (u : TypeId) (h : Tryz.prog.typeName? 3 u = some "*errors.errorString") : u = 313 :=
  typeName_ptr_named (nm := "errors.errorString") (by rw [err_star]; kernel_rfl) (by kernel_rfl) (by decide) u (by rw [err_star]; exact h)
theorem maxLen_cell {W : World} (h : W.ShapedOpen Tryz.checked.prog) : ∃ m, W.cell? ⟨1, 0, none⟩ = some (.int .i64 m) :=
  Go.Proofs.cell_of_shapedOpen_int (zero := #[.int .i64 0]) (t := 3) h (of_decide_eq_true (by kernel_rfl)) (by kernel_rfl) rfl (by kernel_rfl) (by kernel_rfl) Tryz.underlying3

/-- What the walks read, out of what a row lists. -/
theorem tabs_of {W : World} {p : DataW Unit} {t1 t2 : List UInt8} {r1 r2 r3 : List (String × DataW Unit)} (hp : laidMet Tryz.prog (("internal/strconv.uint64pow10", p) :: r1) W) (hpp : p = .agg (Lib.pow10Tab.map fun n => .lit (.int .u64 n)))
    (hr : laidMet Tryz.prog (("strconv.ErrRange", .iface "*errors.errorString" (.ptr (.agg [.lit (.string t1)]))) :: r2) W) (hs : laidMet Tryz.prog (("strconv.ErrSyntax", .iface "*errors.errorString" (.ptr (.agg [.lit (.string t2)]))) :: r3) W)
    (hsh : W.ShapedOpen Tryz.checked.prog) : ∃ m, Tabs W m := by
  obtain ⟨m, hm⟩ := maxLen_cell hsh
  obtain ⟨a0, s0, hv0, -, -, -⟩ := laid_sentinel hs syn_named syn_typed Tryz.underlying129 err_row Tryz.underlying313 Tryz.underlying315 rfl rfl Tryz.underlying9 err_cells str_cells
  obtain ⟨a1, s1, hv1, -, -, -⟩ := laid_sentinel hr rng_named rng_typed Tryz.underlying129 err_row Tryz.underlying313 Tryz.underlying315 rfl rfl Tryz.underlying9 err_cells str_cells
  subst hpp
  exact ⟨m, Lib.tabIs_of_head (t := 288) (e := 199) (n := 20) pow_named (by kernel_rfl) (by kernel_rfl) (by kernel_rfl) (by kernel_rfl) (by kernel_rfl) hp,
    ⟨_, _, by have h0 := World.var?_cell syn_named hv0 0; simpa using h0⟩, ⟨_, _, by have h0 := World.var?_cell rng_named hv1 0; simpa using h0⟩, hm⟩

end Go.Proofs.YtjaladhdnbhliaaGreatDoor
