/- A face's types and functions by their names: face.Type and the reference's TypeIn. -/
import Derived.Test.YtafhepilcmimlaaDoorSearch
import Derived.Test.YtafhepilcmimlaaDoorShelf
import Derived.Test.YtafhepilcmimlaaDoorFaceErr
namespace Go.Proofs.YtafhepilcmimlaaDoor
open Go.RowKit Go.Shelf

theorem hitB_true {α : Type} {f : α → ByteArray} {l : List α} {t : ByteArray} {i : Nat} (h : hitB f l t i = true) : ∃ x, l[i]? = some x ∧ decide (f x = t) = true := by
  unfold hitB at h
  cases hx : l[i]? with
  | none => rw [hx] at h; cases h
  | some x => rw [hx] at h; exact ⟨x, rfl, h⟩
theorem hitB_false {α : Type} {f : α → ByteArray} {l : List α} {t : ByteArray} {i : Nat} (h : hitB f l t i = false) : ∀ x, l[i]? = some x → decide (f x = t) = false := by
  intro x hx
  unfold hitB at h
  rw [hx] at h; exact h

/-- The type of a name. -/
def typeIn (l : List Known) (t : ByteArray) : ByteArray × Int := match named Known.name l t with | some x => (x.is_, 0) | none => (⟨#[]⟩, 6)
theorem typeIn_some {l : List Known} {t : ByteArray} {x : Known} (h : named Known.name l t = some x) : typeIn l t = (x.is_, 0) := by unfold typeIn; rw [h]
theorem typeIn_none {l : List Known} {t : ByteArray} (h : named Known.name l t = none) : typeIn l t = (⟨#[]⟩, 6) := by unfold typeIn; rw [h]

theorem face_rising {a : Face} (h : faceErr a = 0) : Rising Known.name a.types ∧ Rising Sig.name a.funcs ∧ (∀ x ∈ a.types, knownBad x = 0) ∧ (∀ x ∈ a.funcs, sigBad x = 0) := by
  unfold faceErr at h
  split at h
  · cases h
  · split at h
    · next h1 =>
      exact ⟨itemErr_rising (firstErr_zero h1), itemErr_rising (firstErr_zero h), itemErr_good (firstErr_zero h1), itemErr_good (firstErr_zero h)⟩
    · next h1 => exact absurd h h1

end Go.Proofs.YtafhepilcmimlaaDoor
