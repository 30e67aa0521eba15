/- Two lists that a function builds side by side. No program is named here. -/
import Derived.Test.YtjaladhdnbhliaaGreatDoorBase
namespace Go.Proofs.YtjaladhdnbhliaaGreatDoor
open Go.RowKit Go.Shelf

/-- Two rows in two blocks. -/
def Apart (v v' : Value) : Prop := ∀ g, v.ownBlock = some g → v'.ownBlock ≠ some g
theorem Apart.symm {v v' : Value} (h : Apart v v') : Apart v' v := fun g h1 h2 => h g h2 h1
theorem Apart.push {v v2 v' : Value} {n : Nat} (h : Apart v v') (hv : v2.ownBlock = v.ownBlock ∨ ∃ g, v2.ownBlock = some g ∧ n ≤ g) (hl : ∀ g, v'.ownBlock = some g → g < n) : Apart v2 v' := by
  intro g h1 h2
  rcases hv with hv | ⟨g', hv, hg⟩
  · exact h g (hv.symm.trans h1) h2
  · rw [h1] at hv; injection hv with hv; subst hv
    have := hl g h2
    omega
theorem Owns.grew {α : Type} {R : CR α} {sz base b2 : Nat} {e : TypeId} {w w' : World} {v v' : Value} {l : List α} (hR : Stays R) (h : Owns R sz e base w none_ v l) (hg : Grew b2 w w' v'.ownBlock) (ha : Apart v v') : Owns R sz e base w' none_ v l :=
  h.kept hR hg.size fun k hk hor => hg.block k hk (fun e => hor.elim id fun h1 => ha k h1 e.symm)

theorem SliceOf.caps {α : Type} {R : CR α} {sz by_ : Nat} {F : Foot} {w : World} {A : Option Addr} {n c : Nat} {l : List α} (h : SliceOf R sz by_ w F (.slice A n c) l) : n ≤ c ∧ c ≤ 9223372036854775807 := by
  obtain ⟨A', c', e, h1, h2, _⟩ := h
  injection e with e1 e2 e3
  subst e2; subst e3
  exact ⟨h1, by unfold maxLen at h2; omega⟩

end Go.Proofs.YtjaladhdnbhliaaGreatDoor
