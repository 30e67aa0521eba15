/- Texts as the walk spells them. -/
import Derived.Test.YtejiaimcgmpliaaRep
import Derived.WideShapes
namespace Go.Proofs.Ytejiaimcgmpliaa
open Go.RowKit

theorem str_isEmpty (s : ByteArray) : s.toList.isEmpty = decide (s.size = 0) := by
  rw [ByteArray.toList_eq, Bool.eq_iff_iff, List.isEmpty_iff_length_eq_zero, decide_eq_true_eq]
  exact Iff.rfl
theorem str_eq (a b : ByteArray) : (a.toList == b.toList) = decide (a = b) := by
  rw [ByteArray.toList_eq, ByteArray.toList_eq, Bool.eq_iff_iff, beq_iff_eq, decide_eq_true_eq]
  exact ⟨fun h => Go.WideShapes.bytes_inj h, fun h => by rw [h]⟩
theorem str_nil {s : ByteArray} (h : s.size = 0) : s = ⟨#[]⟩ := by
  cases s with | mk d => exact congrArg ByteArray.mk (Array.eq_empty_of_size_eq_zero h)

end Go.Proofs.Ytejiaimcgmpliaa
