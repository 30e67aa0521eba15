/- Kinds: what kind.Elem and the document's ElemOf compute. -/
import Derived.Test.YtafhepilcmimlaaGreatDoorBase
import Derived.Test.YtafhepilcmimlaaGreatDoorRows
import Derived.WalkSpells
import Derived.WalkLawsBesides
namespace Go.Proofs.YtafhepilcmimlaaGreatDoor
open Go.RowKit

/-- Of what a list is. -/
def elemOf (s : ByteArray) : Option ByteArray :=
  if h : 3 ≤ s.size then if s[0].toNat = 91 ∧ s[s.size - 1].toNat = 93 then some (s.extract 1 (s.size - 1)) else none else none

theorem elemOf_size {s t : ByteArray} (h : elemOf s = some t) : t.size + 2 = s.size := by
  unfold elemOf at h
  split at h
  · split at h
    · injection h with h
      subst h
      rw [ByteArray.size_extract]
      omega
    · cases h
  · cases h

/-- What is left of a kind without its brackets. -/
def stripF : Nat → ByteArray → ByteArray
  | 0, s => s
  | n + 1, s => match elemOf s with
    | some t => stripF n t
    | none => s
def strip (s : ByteArray) : ByteArray := stripF s.size s
theorem stripF_more : ∀ (n m : Nat) (s : ByteArray), s.size ≤ n → s.size ≤ m → stripF n s = stripF m s
  | 0, 0, _, _, _ => rfl
  | 0, m + 1, s, h, _ => by
    have : elemOf s = none := by
      cases he : elemOf s with
      | none => rfl
      | some t => have := elemOf_size he; omega
    simp [stripF, this]
  | n + 1, 0, s, _, h => by
    have : elemOf s = none := by
      cases he : elemOf s with
      | none => rfl
      | some t => have := elemOf_size he; omega
    simp [stripF, this]
  | n + 1, m + 1, s, h1, h2 => by
    unfold stripF
    cases he : elemOf s with
    | none => rfl
    | some t =>
      have := elemOf_size he
      exact stripF_more n m t (by omega) (by omega)
theorem strip_some {s t : ByteArray} (h : elemOf s = some t) : strip s = strip t := by
  have hz := elemOf_size h
  unfold strip
  obtain ⟨k, hk⟩ : ∃ k, s.size = k + 1 := ⟨s.size - 1, by omega⟩
  rw [hk]
  show (match elemOf s with | some t => stripF k t | none => s) = _
  rw [h]
  exact stripF_more _ _ _ (by omega) (by omega)
theorem strip_none {s : ByteArray} (h : elemOf s = none) : strip s = s := by
  unfold strip
  cases hk : s.size with
  | zero => rfl
  | succ k => simp [stripF, h]

/-- int, text, or the variable. -/
def baseB (s : ByteArray) : Bool := (s.toList == [105, 110, 116]) || ((s.toList == [116, 101, 120, 116]) || (s.toList == [42]))
/-- What is wrong with a kind; 0: nothing. -/
def kindErr (s : ByteArray) : Int := if 600 < s.size then 1 else if baseB (strip s) then 0 else 4

/-- The list of a kind. -/
def listOf (s : ByteArray) : ByteArray := ⟨#[91]⟩ ++ s ++ ⟨#[93]⟩
def listErr (s : ByteArray) : Int := if kindErr s = 0 then (if 598 < s.size then 1 else 0) else kindErr s
def listTxt (s : ByteArray) : ByteArray := if kindErr s = 0 then (if 598 < s.size then ⟨#[]⟩ else listOf s) else ⟨#[]⟩

end Go.Proofs.YtafhepilcmimlaaGreatDoor
