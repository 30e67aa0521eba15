/- What a module that is used has: alias.From, and the reference's FromOf. -/
import Derived.Test.YtafhepilcmimlaaDoorFaceCopy
import Derived.Test.YtafhepilcmimlaaDoorBase
import Derived.Test.YtafhepilcmimlaaDoorStrs
import Derived.Test.YtafhepilcmimlaaDoorFaceEq
import Derived.Test.YtafhepilcmimlaaDoorRecEq
import Derived.Test.YtafhepilcmimlaaDoorTreeErr3
namespace Go.Proofs.YtafhepilcmimlaaDoor
open Go.RowKit Go.Shelf

/-- Is an import that of a name, and there? -/
def fromB (t : ByteArray) (x : Import) : Bool := eqB x.name t && x.there
/-- The import that a name leads to. -/
def fromOf (m : Module) (l : List Import) (t : ByteArray) : Option Import := if hasS m.uses t then l.find? (fromB t) else none
def noFace : Face := ⟨[], []⟩
def fromFace (m : Module) (l : List Import) (t : ByteArray) : Face := match fromOf m l t with | some x => x.face | none => noFace
def fromIs (m : Module) (l : List Import) (t : ByteArray) : Bool := (fromOf m l t).isSome
theorem from_hit {m : Module} {l : List Import} {t : ByteArray} {k : Nat} {x : Import} (hu : hasS m.uses t = true) (hx : l[k]? = some x) (h : fromB t x = true) (hb : ∀ j, j < k → ∀ y, l[j]? = some y → fromB t y = false) : fromOf m l t = some x := by
  unfold fromOf
  rw [if_pos hu, List.find?_eq_some_iff_getElem]
  obtain ⟨hk, rfl⟩ := List.getElem?_eq_some_iff.1 hx
  refine ⟨h, k, hk, rfl, fun j hj => ?_⟩
  have := hb j hj _ (List.getElem?_eq_getElem (by omega))
  simp [this]
theorem from_miss {m : Module} {l : List Import} {t : ByteArray} (h : hasS m.uses t = false ∨ ∀ j, j < l.length → ∀ y, l[j]? = some y → fromB t y = false) : fromOf m l t = none := by
  unfold fromOf
  rcases h with h | h
  · rw [h]; rfl
  · split
    · rw [List.find?_eq_none]
      intro y hy
      obtain ⟨j, hj, rfl⟩ := List.mem_iff_getElem.1 hy
      simp [h j hj _ (List.getElem?_eq_getElem hj)]
    · rfl
theorem fidx_cases {α : Type} (p : α → Bool) (l : List α) : (fidx p l = -1 ∧ ∀ j, j < l.length → ∀ y, l[j]? = some y → p y = false) ∨ ∃ (k : Nat) (x : α), fidx p l = (k : Int) ∧ l[k]? = some x ∧ p x = true ∧ ∀ j, j < k → ∀ y, l[j]? = some y → p y = false := by
  unfold fidx
  cases h : l.findIdx? p with
  | none =>
    rw [List.findIdx?_eq_none_iff] at h
    exact .inl ⟨rfl, fun j hj y hy => h y (List.mem_of_getElem? hy)⟩
  | some i =>
    obtain ⟨hi, hp, hb⟩ := List.findIdx?_eq_some_iff_getElem.1 h
    refine .inr ⟨i, l[i], rfl, List.getElem?_eq_getElem hi, hp, fun j hj y hy => ?_⟩
    have h1 := hb j hj
    obtain ⟨hj', rfl⟩ := List.getElem?_eq_some_iff.1 hy
    simpa using h1

end Go.Proofs.YtafhepilcmimlaaDoor
