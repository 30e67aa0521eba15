/- The library's slices.Clone at this program's element types: a new row that stands for the same list. -/
import Derived.Test.YtafhepilcmimlaaGreatDoorBase
import Derived.Test.YtafhepilcmimlaaGreatDoorRows
import Derived.OwnWalk
import Derived.WalkSpells
namespace Go.Proofs.YtafhepilcmimlaaGreatDoor
open Go.RowKit Go.Shelf

theorem KnownR.one {w : World} {F : Foot} : ∀ cs x, KnownR w F cs x → ∀ u ∈ cs, u.oneCell' = true := by
  rintro _ x ⟨rfl, _⟩ u hu
  simp at hu
  rcases hu with rfl | rfl <;> rfl
theorem StrR.one {w : World} {F : Foot} : ∀ cs x, StrR w F cs x → ∀ u ∈ cs, u.oneCell' = true := by
  rintro _ x ⟨rfl, _⟩ u hu
  simp at hu
  subst hu; rfl
theorem DiagR.one {w : World} {F : Foot} : ∀ cs x, DiagR w F cs x → ∀ u ∈ cs, u.oneCell' = true := by
  rintro _ x ⟨rfl, _⟩ u hu
  simp at hu
  rcases hu with rfl | rfl <;> rfl








end Go.Proofs.YtafhepilcmimlaaGreatDoor
