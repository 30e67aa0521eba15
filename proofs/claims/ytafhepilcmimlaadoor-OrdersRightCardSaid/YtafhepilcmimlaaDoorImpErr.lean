/- What is wrong with modules that are used: the reference's ImportsFault. -/
import Derived.Test.YtafhepilcmimlaaDoorFaceErr
import Derived.Test.YtafhepilcmimlaaDoorRecEq
namespace Go.Proofs.YtafhepilcmimlaaDoor
open Go.RowKit Go.Shelf

/-- What is wrong with a module that is used, by itself. -/
def importBad (x : Import) : Int :=
  if nameOk x.name = false then 4
  else if faceErr x.face ≠ 0 then faceErr x.face
  else if x.there = false ∧ (0 < x.face.types.length ∨ 0 < x.face.funcs.length) then 4 else 0
/-- What is wrong with modules that are used; 0: nothing. -/
def importsErr (l : List Import) : Int := if 24 < l.length then 1 else firstErr (itemErr Import.name importBad l) l.length
theorem importBad_name {x : Import} (h : nameOk x.name = false) : importBad x = 4 := by unfold importBad; rw [if_pos h]
theorem importBad_face {x : Import} {z : Int} (h : nameOk x.name = true) (h2 : faceErr x.face = z) (h3 : z ≠ 0) : importBad x = z := by
  subst h2
  unfold importBad
  rw [if_neg (by rw [h]; decide), if_pos h3]
theorem importBad_there {x : Import} (h : nameOk x.name = true) (h2 : faceErr x.face = 0) (h3 : x.there = false) (h4 : 0 < x.face.types.length ∨ 0 < x.face.funcs.length) : importBad x = 4 := by
  unfold importBad
  rw [if_neg (by rw [h]; decide), if_neg (by rw [h2]; decide), if_pos ⟨h3, h4⟩]
theorem importBad_ok {x : Import} (h : nameOk x.name = true) (h2 : faceErr x.face = 0) (h3 : x.there = true ∨ (x.face.types.length = 0 ∧ x.face.funcs.length = 0)) : importBad x = 0 := by
  unfold importBad
  rw [if_neg (by rw [h]; decide), if_neg (by rw [h2]; decide), if_neg]
  rintro ⟨a, b⟩
  rcases h3 with h3 | h3
  · rw [h3] at a; cases a
  · omega
theorem importsErr_hit {l : List Import} {k : Nat} {e : Int} (h24 : ¬ 24 < l.length) (hk : k < l.length) (hb : ∀ j, j < k → itemErr Import.name importBad l j = 0) (h : itemErr Import.name importBad l k = e) (h0 : e ≠ 0) : importsErr l = e := by
  unfold importsErr
  rw [if_neg h24, firstErr_hit hk hb (by rw [h]; exact h0), h]
theorem importsErr_none {l : List Import} (h24 : ¬ 24 < l.length) (hb : ∀ j, j < l.length → itemErr Import.name importBad l j = 0) : importsErr l = 0 := by
  unfold importsErr
  rw [if_neg h24, firstErr_none hb]

end Go.Proofs.YtafhepilcmimlaaDoor
