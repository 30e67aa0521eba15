/- A copy of a record: record.Copy. -/
import Derived.Test.YtoejhgbndehaiaaFaceCopy
import Derived.Test.YtoejhgbndehaiaaBase
import Derived.Test.YtoejhgbndehaiaaRecEq
import Derived.Deep.RegionWith
import Derived.Deep.DeepCutAuto
import Derived.Handy
namespace Go.Proofs.Ytoejhgbndehaiaa
open Go.RowKit Go.Shelf

theorem RecordR.parts {w : World} {F : Foot} {cs : List Value} {r : Record} (h : RecordR w F cs r) : ∃ I1 i1 T1 e1 T2 e2 D1 d1, cs = [.string r.name, .string r.source, .slice I1 r.imports.length i1, .slice T1 r.face.types.length e1, .slice T2 r.face.funcs.length e2, .slice D1 r.diags.length d1] ∧
    okS r.name ∧ okS r.source ∧ SliceOf ImportR 4 72 w F (.slice I1 r.imports.length i1) r.imports ∧ FaceR w F [.slice T1 r.face.types.length e1, .slice T2 r.face.funcs.length e2] r.face ∧ SliceOf DiagR 2 24 w F (.slice D1 r.diags.length d1) r.diags := by
  obtain ⟨iv, tv, fv, dv, rfl, h1, h2, hi, hf, hd⟩ := h
  obtain ⟨T1, e1, T2, e2, h3⟩ := hf.form
  injection h3 with h3 h4
  injection h4 with h4 _
  subst h3; subst h4
  obtain ⟨I1, i1, rfl, _⟩ := hi.form
  obtain ⟨D1, d1, rfl, _⟩ := hd.form
  exact ⟨_, _, _, _, _, _, _, _, rfl, h1, h2, hi, hf, hd⟩

end Go.Proofs.Ytoejhgbndehaiaa
