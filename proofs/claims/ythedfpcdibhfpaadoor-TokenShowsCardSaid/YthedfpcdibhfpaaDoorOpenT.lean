/- Tokens that come in, opened into plain data. -/
import Derived.Test.YthedfpcdibhfpaaDoorOpen
import Derived.Test.YthedfpcdibhfpaaDoorTokPlain
namespace Go.Proofs.YthedfpcdibhfpaaDoor
open Go.ChangeShapes Go.WideShapes Go.ChangeAt Go.RowKit

theorem Tryd.cells_Token : Tryd.prog.cellsOf 68 = 2 := by kernel_rfl
theorem Tryd.bytes_Token : Tryd.prog.bytesOf 68 = 24 := by kernel_rfl
theorem opens_token {N : Nat} : Opens N Tryd.prog TokenR 68 := by
  intro H enc w fuel cs d ps hN h hb hw
  obtain ⟨xs, n, _, _, hl, _, _⟩ := DataW.trod_struct Tryd.underlying68 h
  rw [Tryd.cells_Token] at hl
  obtain ⟨c0, c1, rfl⟩ := two_cells hl
  obtain ⟨x0, e0, z0⟩ := open_field Tryd.underlying68 h hb hw hN 0 _ rfl 3 0 1 rfl rfl Tryd.cells_int opens_n
  obtain ⟨x1, e1, z1⟩ := open_field Tryd.underlying68 h hb hw hN 1 _ rfl 9 1 1 rfl rfl Tryd.cells_string opens_s
  obtain rfl : c0 = .int .i64 x0 := by injection e0
  obtain rfl : c1 = .string x1 := by injection e1
  exact ⟨⟨x0, x1⟩, rfl, z0, z1⟩
theorem opens_tokens {N : Nat} : Opens N Tryd.prog (SlR TokenR 2 24) 37 := opens_slice Tryd.underlying37 opens_token Tryd.cells_Token (by decide) Tryd.bytes_Token (by decide)

end Go.Proofs.YthedfpcdibhfpaaDoor
