/- Kinds: what kind.Elem and the document's ElemOf compute. -/
import Derived.Test.YtamkgphamffdcaaRep
import Derived.Test.YtamkgphamffdcaaRows
import Derived.WalkSpells
import Derived.WalkLawsBesides
namespace Go.Proofs.Ytamkgphamffdcaa
open Go.RowKit

/-- Of what a list is. -/
def elemOf (s : ByteArray) : Option ByteArray :=
  if h : 3 ≤ s.size then if s[0].toNat = 91 ∧ s[s.size - 1].toNat = 93 then some (s.extract 1 (s.size - 1)) else none else none

set_option maxHeartbeats 400000 in
theorem elem_any (s : ByteArray) (w : World) (hs : s.size ≤ 140737488355328) :
    Calls Try.prog 35 #[.string s] w fun e w' => e = .returned (.tuple #[.string ((elemOf s).getD ⟨#[]⟩), .bool (elemOf s).isSome]) ∧ w = w' := by
  go_enter Try.func35, Try.ntmps35
  go_wp2
  all_goals go_ret2
  all_goals (go_tidy; refine ⟨?_, rfl⟩)
  all_goals (simp only [bne_iff_ne, bne_eq_false_iff_eq, ne_eq] at *; unfold elemOf; (repeat' split) <;> simp_all <;> omega)

set_option maxHeartbeats 400000 in
theorem elemOf_any (s : ByteArray) (w : World) (hs : s.size ≤ 140737488355328) :
    Calls Try.prog 36 #[.string s] w fun e w' => e = .returned (.tuple #[.string ((elemOf s).getD ⟨#[]⟩), .bool (elemOf s).isSome]) ∧ w = w' := by
  go_enter Try.func36, Try.ntmps36
  go_wp2
  all_goals go_ret2
  all_goals (go_tidy; refine ⟨?_, rfl⟩)
  all_goals (simp only [beq_iff_eq, beq_eq_false_iff_ne, ne_eq] at *; unfold elemOf; (repeat' split) <;> simp_all <;> omega)

end Go.Proofs.Ytamkgphamffdcaa
