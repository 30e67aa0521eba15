/- The program's data as plain Lean data, and how they stand in cells. No program is named here. -/
import Derived.Test.YtejiaimcgmpliaaRep
namespace Go.Proofs.Ytejiaimcgmpliaa
open Go.RowKit

/-- An int's range. -/
def I64 (n : Int) : Prop := -9223372036854775808 ≤ n ∧ n ≤ 9223372036854775807
def okS (s : ByteArray) : Prop := s.size ≤ 140737488355328

inductive Ty where
  | mk (kind : Int) (of_ : ByteArray) (name : ByteArray) (args : List Ty)
def Ty.kind : Ty → Int | .mk k _ _ _ => k
def Ty.of_ : Ty → ByteArray | .mk _ o _ _ => o
def Ty.name : Ty → ByteArray | .mk _ _ n _ => n
def Ty.args : Ty → List Ty | .mk _ _ _ a => a
inductive Ex where
  | mk (kind : Int) (n : Int) (of_ : ByteArray) (s : ByteArray) (args : List Ex)
def Ex.kind : Ex → Int | .mk k _ _ _ _ => k
def Ex.n : Ex → Int | .mk _ n _ _ _ => n
def Ex.of_ : Ex → ByteArray | .mk _ _ o _ _ => o
def Ex.s : Ex → ByteArray | .mk _ _ _ s _ => s
def Ex.args : Ex → List Ex | .mk _ _ _ _ a => a
structure Known where
  name : ByteArray
  is_ : ByteArray
structure Sig where
  name : ByteArray
  params : List ByteArray
  result : ByteArray
structure Face where
  types : List Known
  funcs : List Sig
structure Import where
  name : ByteArray
  there : Bool
  face : Face
structure Diag where
  where_ : ByteArray
  code : Int
structure Record where
  name : ByteArray
  source : ByteArray
  imports : List Import
  face : Face
  diags : List Diag
structure Node where
  name : ByteArray
  uses : List ByteArray
structure Field where
  name : ByteArray
  is_ : Ty
structure Func where
  name : ByteArray
  var_ : ByteArray
  params : List Field
  result : Ty
  body : Ex
structure Module where
  uses : List ByteArray
  types : List Field
  funcs : List Func

def TyRn : Nat → CR Ty
  | 0, _, _, _, _ => False
  | n + 1, w, F, cs, t => ∃ av, cs = [.int .i64 t.kind, .string t.of_, .string t.name, av] ∧ I64 t.kind ∧ okS t.of_ ∧ okS t.name ∧ SliceOf (TyRn n) 4 64 w F av t.args
def TyR : CR Ty := fun w F cs t => ∃ n, TyRn n w F cs t
def ExRn : Nat → CR Ex
  | 0, _, _, _, _ => False
  | n + 1, w, F, cs, x => ∃ av, cs = [.int .i64 x.kind, .int .i64 x.n, .string x.of_, .string x.s, av] ∧ I64 x.kind ∧ I64 x.n ∧ okS x.of_ ∧ okS x.s ∧ SliceOf (ExRn n) 5 72 w F av x.args
def ExR : CR Ex := fun w F cs x => ∃ n, ExRn n w F cs x
def KnownR : CR Known := fun _ _ cs x => cs = [.string x.name, .string x.is_] ∧ okS x.name ∧ okS x.is_
def SigR : CR Sig := fun w F cs x => ∃ pv, cs = [.string x.name, pv, .string x.result] ∧ okS x.name ∧ okS x.result ∧ SliceOf StrR 1 16 w F pv x.params
def FaceR : CR Face := fun w F cs x => ∃ tv fv, cs = [tv, fv] ∧ SliceOf KnownR 2 32 w F tv x.types ∧ SliceOf SigR 3 56 w F fv x.funcs
def ImportR : CR Import := fun w F cs x => ∃ tv fv, cs = [.string x.name, .bool x.there, tv, fv] ∧ okS x.name ∧ FaceR w F [tv, fv] x.face
def DiagR : CR Diag := fun _ _ cs x => cs = [.string x.where_, .int .i64 x.code] ∧ okS x.where_ ∧ I64 x.code
def RecordR : CR Record := fun w F cs x => ∃ iv tv fv dv, cs = [.string x.name, .string x.source, iv, tv, fv, dv] ∧ okS x.name ∧ okS x.source ∧ SliceOf ImportR 4 72 w F iv x.imports ∧ FaceR w F [tv, fv] x.face ∧ SliceOf DiagR 2 24 w F dv x.diags
def NodeR : CR Node := fun w F cs x => ∃ uv, cs = [.string x.name, uv] ∧ okS x.name ∧ SliceOf StrR 1 16 w F uv x.uses
def FieldR : CR Field := fun w F cs x => ∃ tc, cs = .string x.name :: tc ∧ okS x.name ∧ TyR w F tc x.is_
def FuncR : CR Func := fun w F cs x => ∃ pv tc bc, cs = .string x.name :: .string x.var_ :: pv :: (tc ++ bc) ∧ okS x.name ∧ okS x.var_ ∧ SliceOf FieldR 5 80 w F pv x.params ∧ TyR w F tc x.result ∧ ExR w F bc x.body
def ModuleR : CR Module := fun w F cs x => ∃ uv tv fv, cs = [uv, tv, fv] ∧ SliceOf StrR 1 16 w F uv x.uses ∧ SliceOf FieldR 5 80 w F tv x.types ∧ SliceOf FuncR 12 192 w F fv x.funcs

theorem TyRn.stays : ∀ n, Stays (TyRn n)
  | 0, _, _, _, _, _, _, h, _, _ => h
  | n + 1, _, _, _, _, _, _, ⟨av, h, h1, h2, h3, h4⟩, hF, hk => ⟨av, h, h1, h2, h3, h4.stays (TyRn.stays n) hF hk⟩
theorem TyR.stays : Stays TyR := fun _ _ _ _ _ _ ⟨n, h⟩ hF hk => ⟨n, TyRn.stays n _ _ _ _ _ _ h hF hk⟩
theorem ExRn.stays : ∀ n, Stays (ExRn n)
  | 0, _, _, _, _, _, _, h, _, _ => h
  | n + 1, _, _, _, _, _, _, ⟨av, h, h1, h2, h3, h4, h5⟩, hF, hk => ⟨av, h, h1, h2, h3, h4, h5.stays (ExRn.stays n) hF hk⟩
theorem ExR.stays : Stays ExR := fun _ _ _ _ _ _ ⟨n, h⟩ hF hk => ⟨n, ExRn.stays n _ _ _ _ _ _ h hF hk⟩
theorem KnownR.stays : Stays KnownR := fun _ _ _ _ _ _ h _ _ => h
theorem SigR.stays : Stays SigR := fun _ _ _ _ _ _ ⟨pv, h, h1, h2, h3⟩ hF hk => ⟨pv, h, h1, h2, h3.stays StrR.stays hF hk⟩
theorem FaceR.stays : Stays FaceR := fun _ _ _ _ _ _ ⟨tv, fv, h, h1, h2⟩ hF hk => ⟨tv, fv, h, h1.stays KnownR.stays hF hk, h2.stays SigR.stays hF hk⟩
theorem ImportR.stays : Stays ImportR := fun _ _ _ _ _ _ ⟨tv, fv, h, h1, h2⟩ hF hk => ⟨tv, fv, h, h1, FaceR.stays _ _ _ _ _ _ h2 hF hk⟩
theorem DiagR.stays : Stays DiagR := fun _ _ _ _ _ _ h _ _ => h
theorem RecordR.stays : Stays RecordR := fun _ _ _ _ _ _ ⟨iv, tv, fv, dv, h, h1, h2, h3, h4, h5⟩ hF hk => ⟨iv, tv, fv, dv, h, h1, h2, h3.stays ImportR.stays hF hk, FaceR.stays _ _ _ _ _ _ h4 hF hk, h5.stays DiagR.stays hF hk⟩
theorem NodeR.stays : Stays NodeR := fun _ _ _ _ _ _ ⟨uv, h, h1, h2⟩ hF hk => ⟨uv, h, h1, h2.stays StrR.stays hF hk⟩
theorem FieldR.stays : Stays FieldR := fun _ _ _ _ _ _ ⟨tc, h, h1, h2⟩ hF hk => ⟨tc, h, h1, TyR.stays _ _ _ _ _ _ h2 hF hk⟩
theorem FuncR.stays : Stays FuncR := fun _ _ _ _ _ _ ⟨pv, tc, bc, h, h1, h2, h3, h4, h5⟩ hF hk => ⟨pv, tc, bc, h, h1, h2, h3.stays FieldR.stays hF hk, TyR.stays _ _ _ _ _ _ h4 hF hk, ExR.stays _ _ _ _ _ _ h5 hF hk⟩
theorem ModuleR.stays : Stays ModuleR := fun _ _ _ _ _ _ ⟨uv, tv, fv, h, h1, h2, h3⟩ hF hk => ⟨uv, tv, fv, h, h1.stays StrR.stays hF hk, h2.stays FieldR.stays hF hk, h3.stays FuncR.stays hF hk⟩

end Go.Proofs.Ytejiaimcgmpliaa
