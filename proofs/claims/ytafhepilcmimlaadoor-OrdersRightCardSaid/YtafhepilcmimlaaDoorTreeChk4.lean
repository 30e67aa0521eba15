/- Modules that must be right: tree.Check. -/
import Derived.Test.YtafhepilcmimlaaDoorTreeChk3
import Derived.Test.YtafhepilcmimlaaDoorModErr
namespace Go.Proofs.YtafhepilcmimlaaDoor
open Go.RowKit Go.Shelf

theorem FuncR.cells {w : World} {F : Foot} {cs : List Value} {x : Func} (h : FuncR w F cs x) : ∃ P1 p1 A2 n2 A3 n3, cs = [.string x.name, .string x.var_, .slice P1 x.params.length p1, .int .i64 x.result.kind, .string x.result.of_, .string x.result.name, .slice A2 x.result.args.length n2,
    .int .i64 x.body.kind, .int .i64 x.body.n, .string x.body.of_, .string x.body.s, .slice A3 x.body.args.length n3] := by
  obtain ⟨P1, p1, a, b, c, d, e, f, g, i, j, rfl, _, _, _, h1, h2⟩ := FuncR.form h
  obtain ⟨A2, n2, hf⟩ := TyR.form h1
  obtain ⟨A3, n3, hg⟩ := ExR.form h2
  simp only [List.cons.injEq, and_true] at hf hg
  obtain ⟨rfl, rfl, rfl, rfl⟩ := hf
  obtain ⟨rfl, rfl, rfl, rfl, rfl⟩ := hg
  exact ⟨_, _, _, _, _, _, rfl⟩

end Go.Proofs.YtafhepilcmimlaaDoor
