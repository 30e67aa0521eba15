/- Is a record that of a source, with these modules: record.Is and the reference's IsRecord. -/
import Derived.Test.YtafhepilcmimlaaDoorFaceRef
import Derived.Test.YtafhepilcmimlaaDoorBase
import Derived.StillTailTactics
namespace Go.Proofs.YtafhepilcmimlaaDoor
open Go.RowKit Go.Shelf

theorem ImportR.form {w : World} {F : Foot} {cs : List Value} {x : Import} (h : ImportR w F cs x) : ∃ T1 e1 T2 e2, cs = [.string x.name, .bool x.there, .slice T1 x.face.types.length e1, .slice T2 x.face.funcs.length e2] := by
  obtain ⟨tv, fv, rfl, _, h1⟩ := h
  obtain ⟨T1, e1, T2, e2, h2⟩ := h1.form
  injection h2 with h2 h3
  injection h3 with h3 _
  subst h2; subst h3
  exact ⟨_, _, _, _, rfl⟩
theorem ImportR.face {w : World} {F : Foot} {x : Import} {a b : Value} {tv fv : Value} (h : ImportR w F [a, b, tv, fv] x) : FaceR w F [tv, fv] x.face := by
  obtain ⟨tv', fv', h0, _, h1⟩ := h
  injection h0 with _ h0
  injection h0 with _ h0
  injection h0 with h2 h0
  injection h0 with h3 _
  subst h2; subst h3
  exact h1
theorem ImportR.okName {w : World} {F : Foot} {cs : List Value} {x : Import} (h : ImportR w F cs x) : okS x.name := by
  obtain ⟨_, _, _, h1, _⟩ := h
  exact h1

def importEq (a b : Import) : Bool := eqB a.name b.name && (a.there == b.there && faceEq a.face b.face)
def recIs (r : Record) (s : ByteArray) (l : List Import) : Bool := eqB r.source s && listEq importEq r.imports l

end Go.Proofs.YtafhepilcmimlaaDoor
