/- Raw numbers that come in, opened into plain data. -/
import Derived.Test.YtafhepilcmimlaaDoorOpen
import Derived.Test.YtafhepilcmimlaaDoorBase
namespace Go.Proofs.YtafhepilcmimlaaDoor
open Go.ChangeShapes Go.WideShapes Go.ChangeAt Go.RowKit Go.Shelf

structure Raw where
  kind : Int
  a : Int
  b : Int
  c : Int
def RawR : CR Raw := fun _ _ cs x => cs = [.int .i64 x.kind, .int .i64 x.a, .int .i64 x.b, .int .i64 x.c] ∧ I64 x.kind ∧ I64 x.a ∧ I64 x.b ∧ I64 x.c
theorem RawR.stays : Stays RawR := fun _ _ _ _ _ _ h _ _ => h

theorem Tryd.cells_Raw : Tryd.prog.cellsOf 30 = 4 := by kernel_rfl
theorem opens_raw {N : Nat} : Opens N Tryd.prog RawR 30 := by
  intro H enc w fuel cs d ps hN h hb hw
  obtain ⟨xs, n, _, _, hl, _, _⟩ := DataW.trod_struct Tryd.underlying30 h
  rw [Tryd.cells_Raw] at hl
  obtain ⟨c0, c1, c2, c3, rfl⟩ := four_cells hl
  obtain ⟨x0, e0, z0⟩ := open_field Tryd.underlying30 h hb hw hN 0 _ rfl 3 0 1 rfl rfl Tryd.cells_int opens_n
  obtain ⟨x1, e1, z1⟩ := open_field Tryd.underlying30 h hb hw hN 1 _ rfl 3 1 1 rfl rfl Tryd.cells_int opens_n
  obtain ⟨x2, e2, z2⟩ := open_field Tryd.underlying30 h hb hw hN 2 _ rfl 3 2 1 rfl rfl Tryd.cells_int opens_n
  obtain ⟨x3, e3, z3⟩ := open_field Tryd.underlying30 h hb hw hN 3 _ rfl 3 3 1 rfl rfl Tryd.cells_int opens_n
  obtain rfl : c0 = .int .i64 x0 := by injection e0
  obtain rfl : c1 = .int .i64 x1 := by injection e1
  obtain rfl : c2 = .int .i64 x2 := by injection e2
  obtain rfl : c3 = .int .i64 x3 := by injection e3
  exact ⟨⟨x0, x1, x2, x3⟩, rfl, z0, z1, z2, z3⟩
theorem Tryd.bytes_Raw : Tryd.prog.bytesOf 30 = 32 := by kernel_rfl
theorem opens_raws {N : Nat} : Opens N Tryd.prog (SlR RawR 4 32) 22 := opens_slice Tryd.underlying22 opens_raw Tryd.cells_Raw (by decide) Tryd.bytes_Raw (by decide)

end Go.Proofs.YtafhepilcmimlaaDoor
