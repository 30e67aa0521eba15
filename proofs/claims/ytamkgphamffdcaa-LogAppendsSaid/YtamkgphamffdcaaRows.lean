/-
  NARROWER THAN 'FOR EVERY INPUT', by the rows' own cells (each row's printed sentence says how): AliasFroms: loops · AliasUses: loops · TreeChecks: loops · AliasSolves: loops · SignOnes: loops.
  DERIVED. THE GIVEN ROWS OF THIS SEAT. 32 by the template 'for every input the law returns true; each argument reads behind the call as it read before'; 0 by the template 'total and deterministic' (their statements: YtamkgphamffdcaaTotals.lean).
  GIVEN WITH THE SEED: the statements are not yours to turn. If you find one false, say at which input.
  Laid BY PROGRAM, IN A SANDBOX (cutbox-rows.mjs): the forced cells as the released guide's own fill.sh prints them over the translation 1c4904be05f514e5… (all of the seat's roots in one cut). By AI agents, Wed Nov 11 2026. No macro, syntax, notation, axiom, sorry.
-/
import Derived.Test.YtamkgphamffdcaaChecked
import GoSem.Claim
import GoSem.ClaimJoined
import GoSem.ClaimMapViews
import Derived.JoinedTies
import Derived.KernelRfl
namespace Go.Proofs.Ytamkgphamffdcaa
/- THE CELL 'sum', in the pinned program and in every row, IS THE sha256 OF THE DUMP (.gsa) THAT YtamkgphamffdcaaProg.lean LOADS. Nothing in Lean hashes anything: it is a label: what it is worth is what the hold of that sum in a sandbox is worth. -/
noncomputable def Try.pinned : Pinned := { name := "ytamkgphamffdcaa", sum := "1c4904be05f514e50bc4f05312b8cf6752ab95acb39c5039c696176bb4d7845e", checked := Try.checked }
namespace Rows
def none {H : Type} : Left H := { results := [], args := [] }

/-- 'scullerylaw.Names': WHATEVER THE INPUT: true; the input reads as it did. -/
def namesSpec : ChangeSpec := { name := "names", fn := fun _ => fun
  | [] => { results := [.lit (.bool true)], args := [] }
  | _ => none }
def namesRow : OpenClaim := { program := "ytamkgphamffdcaa", sum := "1c4904be05f514e50bc4f05312b8cf6752ab95acb39c5039c696176bb4d7845e", func := "scullery/scullerylaw.Names", spec := "names", apart := false }
def NamesSaid : Prop := namesRow.holds Try.pinned (OpenSpec.ofChange namesSpec)

/-- ITS FALSE NEIGHBOUR: 'it returns false'. Refute it at one input. -/
def namesWrong : ChangeSpec := { name := "names", fn := fun _ => fun
  | [] => { results := [.lit (.bool false)], args := [] }
  | _ => none }
def NamesWrongFalsely : Prop := namesRow.holds Try.pinned (OpenSpec.ofChange namesWrong)

/-- 'scullerylaw.KindElems': WHATEVER THE INPUT: true; the input reads as it did. -/
def kindElemsSpec : ChangeSpec := { name := "kindElems", fn := fun _ => fun
  | [d] => { results := [.lit (.bool true)], args := [d] }
  | _ => none }
def kindElemsRow : OpenClaim := { program := "ytamkgphamffdcaa", sum := "1c4904be05f514e50bc4f05312b8cf6752ab95acb39c5039c696176bb4d7845e", func := "scullery/scullerylaw.KindElems", spec := "kindElems", apart := false }
def KindElemsSaid : Prop := kindElemsRow.holds Try.pinned (OpenSpec.ofChange kindElemsSpec)

/-- ITS FALSE NEIGHBOUR: 'it returns false'. Refute it at one input. -/
def kindElemsWrong : ChangeSpec := { name := "kindElems", fn := fun _ => fun
  | [d] => { results := [.lit (.bool false)], args := [d] }
  | _ => none }
def KindElemsWrongFalsely : Prop := kindElemsRow.holds Try.pinned (OpenSpec.ofChange kindElemsWrong)

/-- 'scullerylaw.TokenQuotes': WHATEVER THE INPUT: true; the input reads as it did. -/
def tokenQuotesSpec : ChangeSpec := { name := "tokenQuotes", fn := fun _ => fun
  | [d] => { results := [.lit (.bool true)], args := [d] }
  | _ => none }
def tokenQuotesRow : OpenClaim := { program := "ytamkgphamffdcaa", sum := "1c4904be05f514e50bc4f05312b8cf6752ab95acb39c5039c696176bb4d7845e", func := "scullery/scullerylaw.TokenQuotes", spec := "tokenQuotes", unfollowed := true, recurses := true, apart := false }
def TokenQuotesSaid : Prop := tokenQuotesRow.holds Try.pinned (OpenSpec.ofChange tokenQuotesSpec)

/-- ITS FALSE NEIGHBOUR: 'it returns false'. Refute it at one input. -/
def tokenQuotesWrong : ChangeSpec := { name := "tokenQuotes", fn := fun _ => fun
  | [d] => { results := [.lit (.bool false)], args := [d] }
  | _ => none }
def TokenQuotesWrongFalsely : Prop := tokenQuotesRow.holds Try.pinned (OpenSpec.ofChange tokenQuotesWrong)

/-- 'scullerylaw.TokenWords': WHATEVER THE INPUT: true; the input reads as it did. -/
def tokenWordsSpec : ChangeSpec := { name := "tokenWords", fn := fun _ => fun
  | [d] => { results := [.lit (.bool true)], args := [d] }
  | _ => none }
def tokenWordsRow : OpenClaim := { program := "ytamkgphamffdcaa", sum := "1c4904be05f514e50bc4f05312b8cf6752ab95acb39c5039c696176bb4d7845e", func := "scullery/scullerylaw.TokenWords", spec := "tokenWords", unfollowed := true, recurses := true, apart := false }
def TokenWordsSaid : Prop := tokenWordsRow.holds Try.pinned (OpenSpec.ofChange tokenWordsSpec)

/-- ITS FALSE NEIGHBOUR: 'it returns false'. Refute it at one input. -/
def tokenWordsWrong : ChangeSpec := { name := "tokenWords", fn := fun _ => fun
  | [d] => { results := [.lit (.bool false)], args := [d] }
  | _ => none }
def TokenWordsWrongFalsely : Prop := tokenWordsRow.holds Try.pinned (OpenSpec.ofChange tokenWordsWrong)

/-- 'scullerylaw.FaceCopies': WHATEVER THE INPUT: true; the input reads as it did. -/
def faceCopiesSpec : ChangeSpec := { name := "faceCopies", fn := fun _ => fun
  | [d] => { results := [.lit (.bool true)], args := [d] }
  | _ => none }
def faceCopiesRow : OpenClaim := { program := "ytamkgphamffdcaa", sum := "1c4904be05f514e50bc4f05312b8cf6752ab95acb39c5039c696176bb4d7845e", func := "scullery/scullerylaw.FaceCopies", spec := "faceCopies", apart := false }
def FaceCopiesSaid : Prop := faceCopiesRow.holds Try.pinned (OpenSpec.ofChange faceCopiesSpec)

/-- ITS FALSE NEIGHBOUR: 'it returns false'. Refute it at one input. -/
def faceCopiesWrong : ChangeSpec := { name := "faceCopies", fn := fun _ => fun
  | [d] => { results := [.lit (.bool false)], args := [d] }
  | _ => none }
def FaceCopiesWrongFalsely : Prop := faceCopiesRow.holds Try.pinned (OpenSpec.ofChange faceCopiesWrong)

/-- 'scullerylaw.KindChecks': WHATEVER THE INPUT: true; the input reads as it did. -/
def kindChecksSpec : ChangeSpec := { name := "kindChecks", fn := fun _ => fun
  | [d] => { results := [.lit (.bool true)], args := [d] }
  | _ => none }
def kindChecksRow : OpenClaim := { program := "ytamkgphamffdcaa", sum := "1c4904be05f514e50bc4f05312b8cf6752ab95acb39c5039c696176bb4d7845e", func := "scullery/scullerylaw.KindChecks", spec := "kindChecks", apart := false }
def KindChecksSaid : Prop := kindChecksRow.holds Try.pinned (OpenSpec.ofChange kindChecksSpec)

/-- ITS FALSE NEIGHBOUR: 'it returns false'. Refute it at one input. -/
def kindChecksWrong : ChangeSpec := { name := "kindChecks", fn := fun _ => fun
  | [d] => { results := [.lit (.bool false)], args := [d] }
  | _ => none }
def KindChecksWrongFalsely : Prop := kindChecksRow.holds Try.pinned (OpenSpec.ofChange kindChecksWrong)

/-- 'scullerylaw.RecordCopies': WHATEVER THE INPUT: true; the input reads as it did. -/
def recordCopiesSpec : ChangeSpec := { name := "recordCopies", fn := fun _ => fun
  | [d] => { results := [.lit (.bool true)], args := [d] }
  | _ => none }
def recordCopiesRow : OpenClaim := { program := "ytamkgphamffdcaa", sum := "1c4904be05f514e50bc4f05312b8cf6752ab95acb39c5039c696176bb4d7845e", func := "scullery/scullerylaw.RecordCopies", spec := "recordCopies", apart := false }
def RecordCopiesSaid : Prop := recordCopiesRow.holds Try.pinned (OpenSpec.ofChange recordCopiesSpec)

/-- ITS FALSE NEIGHBOUR: 'it returns false'. Refute it at one input. -/
def recordCopiesWrong : ChangeSpec := { name := "recordCopies", fn := fun _ => fun
  | [d] => { results := [.lit (.bool false)], args := [d] }
  | _ => none }
def RecordCopiesWrongFalsely : Prop := recordCopiesRow.holds Try.pinned (OpenSpec.ofChange recordCopiesWrong)

/-- 'scullerylaw.FaceSames': WHATEVER THE INPUT: true; the input reads as it did. -/
def faceSamesSpec : ChangeSpec := { name := "faceSames", fn := fun _ => fun
  | [d1, d2] => { results := [.lit (.bool true)], args := [d1, d2] }
  | _ => none }
def faceSamesRow : OpenClaim := { program := "ytamkgphamffdcaa", sum := "1c4904be05f514e50bc4f05312b8cf6752ab95acb39c5039c696176bb4d7845e", func := "scullery/scullerylaw.FaceSames", spec := "faceSames", unfollowed := true, recurses := true, apart := false }
def FaceSamesSaid : Prop := faceSamesRow.holds Try.pinned (OpenSpec.ofChange faceSamesSpec)

/-- ITS FALSE NEIGHBOUR: 'it returns false'. Refute it at one input. -/
def faceSamesWrong : ChangeSpec := { name := "faceSames", fn := fun _ => fun
  | [d1, d2] => { results := [.lit (.bool false)], args := [d1, d2] }
  | _ => none }
def FaceSamesWrongFalsely : Prop := faceSamesRow.holds Try.pinned (OpenSpec.ofChange faceSamesWrong)

/-- 'scullerylaw.TreeIdents': WHATEVER THE INPUT: true; the input reads as it did. -/
def treeIdentsSpec : ChangeSpec := { name := "treeIdents", fn := fun _ => fun
  | [d] => { results := [.lit (.bool true)], args := [d] }
  | _ => none }
def treeIdentsRow : OpenClaim := { program := "ytamkgphamffdcaa", sum := "1c4904be05f514e50bc4f05312b8cf6752ab95acb39c5039c696176bb4d7845e", func := "scullery/scullerylaw.TreeIdents", spec := "treeIdents", unfollowed := true, recurses := true, apart := false }
def TreeIdentsSaid : Prop := treeIdentsRow.holds Try.pinned (OpenSpec.ofChange treeIdentsSpec)

/-- ITS FALSE NEIGHBOUR: 'it returns false'. Refute it at one input. -/
def treeIdentsWrong : ChangeSpec := { name := "treeIdents", fn := fun _ => fun
  | [d] => { results := [.lit (.bool false)], args := [d] }
  | _ => none }
def TreeIdentsWrongFalsely : Prop := treeIdentsRow.holds Try.pinned (OpenSpec.ofChange treeIdentsWrong)

/-- 'scullerylaw.FaceTypes': WHATEVER THE INPUT: true; the input reads as it did. -/
def faceTypesSpec : ChangeSpec := { name := "faceTypes", fn := fun _ => fun
  | [d1, d2] => { results := [.lit (.bool true)], args := [d1, d2] }
  | _ => none }
def faceTypesRow : OpenClaim := { program := "ytamkgphamffdcaa", sum := "1c4904be05f514e50bc4f05312b8cf6752ab95acb39c5039c696176bb4d7845e", func := "scullery/scullerylaw.FaceTypes", spec := "faceTypes", inPlace := ["internal/bytealg.abigen_runtime_cmpstring"], unfollowed := true, recurses := true, apart := false }
def FaceTypesSaid : Prop := faceTypesRow.holds Try.pinned (OpenSpec.ofChange faceTypesSpec)

/-- ITS FALSE NEIGHBOUR: 'it returns false'. Refute it at one input. -/
def faceTypesWrong : ChangeSpec := { name := "faceTypes", fn := fun _ => fun
  | [d1, d2] => { results := [.lit (.bool false)], args := [d1, d2] }
  | _ => none }
def FaceTypesWrongFalsely : Prop := faceTypesRow.holds Try.pinned (OpenSpec.ofChange faceTypesWrong)

/-- 'scullerylaw.KindLists': WHATEVER THE INPUT: true; the input reads as it did. -/
def kindListsSpec : ChangeSpec := { name := "kindLists", fn := fun _ => fun
  | [d] => { results := [.lit (.bool true)], args := [d] }
  | _ => none }
def kindListsRow : OpenClaim := { program := "ytamkgphamffdcaa", sum := "1c4904be05f514e50bc4f05312b8cf6752ab95acb39c5039c696176bb4d7845e", func := "scullery/scullerylaw.KindLists", spec := "kindLists", apart := false }
def KindListsSaid : Prop := kindListsRow.holds Try.pinned (OpenSpec.ofChange kindListsSpec)

/-- ITS FALSE NEIGHBOUR: 'it returns false'. Refute it at one input. -/
def kindListsWrong : ChangeSpec := { name := "kindLists", fn := fun _ => fun
  | [d] => { results := [.lit (.bool false)], args := [d] }
  | _ => none }
def KindListsWrongFalsely : Prop := kindListsRow.holds Try.pinned (OpenSpec.ofChange kindListsWrong)

/-- 'scullerylaw.RecordIs': WHATEVER THE INPUT: true; the input reads as it did. -/
def recordIsSpec : ChangeSpec := { name := "recordIs", fn := fun _ => fun
  | [d1, d2, d3] => { results := [.lit (.bool true)], args := [d1, d2, d3] }
  | _ => none }
def recordIsRow : OpenClaim := { program := "ytamkgphamffdcaa", sum := "1c4904be05f514e50bc4f05312b8cf6752ab95acb39c5039c696176bb4d7845e", func := "scullery/scullerylaw.RecordIs", spec := "recordIs", unfollowed := true, recurses := true, apart := false }
def RecordIsSaid : Prop := recordIsRow.holds Try.pinned (OpenSpec.ofChange recordIsSpec)

/-- ITS FALSE NEIGHBOUR: 'it returns false'. Refute it at one input. -/
def recordIsWrong : ChangeSpec := { name := "recordIs", fn := fun _ => fun
  | [d1, d2, d3] => { results := [.lit (.bool false)], args := [d1, d2, d3] }
  | _ => none }
def RecordIsWrongFalsely : Prop := recordIsRow.holds Try.pinned (OpenSpec.ofChange recordIsWrong)

/-- 'scullerylaw.FaceFuncs': WHATEVER THE INPUT: true; the input reads as it did. -/
def faceFuncsSpec : ChangeSpec := { name := "faceFuncs", fn := fun _ => fun
  | [d1, d2] => { results := [.lit (.bool true)], args := [d1, d2] }
  | _ => none }
def faceFuncsRow : OpenClaim := { program := "ytamkgphamffdcaa", sum := "1c4904be05f514e50bc4f05312b8cf6752ab95acb39c5039c696176bb4d7845e", func := "scullery/scullerylaw.FaceFuncs", spec := "faceFuncs", inPlace := ["internal/bytealg.abigen_runtime_cmpstring"], unfollowed := true, recurses := true, apart := false }
def FaceFuncsSaid : Prop := faceFuncsRow.holds Try.pinned (OpenSpec.ofChange faceFuncsSpec)

/-- ITS FALSE NEIGHBOUR: 'it returns false'. Refute it at one input. -/
def faceFuncsWrong : ChangeSpec := { name := "faceFuncs", fn := fun _ => fun
  | [d1, d2] => { results := [.lit (.bool false)], args := [d1, d2] }
  | _ => none }
def FaceFuncsWrongFalsely : Prop := faceFuncsRow.holds Try.pinned (OpenSpec.ofChange faceFuncsWrong)

/-- 'scullerylaw.AliasFroms': WHATEVER THE INPUT: true; the input reads as it did. -/
def aliasFromsSpec : ChangeSpec := { name := "aliasFroms", fn := fun _ => fun
  | [d1, d2, d3] => { results := [.lit (.bool true)], args := [d1, d2, d3] }
  | _ => none }
def aliasFromsRow : OpenClaim := { program := "ytamkgphamffdcaa", sum := "1c4904be05f514e50bc4f05312b8cf6752ab95acb39c5039c696176bb4d7845e", func := "scullery/scullerylaw.AliasFroms", spec := "aliasFroms", unfollowed := true, recurses := true, loops := true, apart := false }
def AliasFromsSaid : Prop := aliasFromsRow.holds Try.pinned (OpenSpec.ofChange aliasFromsSpec)

/-- ITS FALSE NEIGHBOUR: 'it returns false'. Refute it at one input. -/
def aliasFromsWrong : ChangeSpec := { name := "aliasFroms", fn := fun _ => fun
  | [d1, d2, d3] => { results := [.lit (.bool false)], args := [d1, d2, d3] }
  | _ => none }
def AliasFromsWrongFalsely : Prop := aliasFromsRow.holds Try.pinned (OpenSpec.ofChange aliasFromsWrong)

/-- 'scullerylaw.GraphChecks': WHATEVER THE INPUT: true; the input reads as it did. -/
def graphChecksSpec : ChangeSpec := { name := "graphChecks", fn := fun _ => fun
  | [d] => { results := [.lit (.bool true)], args := [d] }
  | _ => none }
def graphChecksRow : OpenClaim := { program := "ytamkgphamffdcaa", sum := "1c4904be05f514e50bc4f05312b8cf6752ab95acb39c5039c696176bb4d7845e", func := "scullery/scullerylaw.GraphChecks", spec := "graphChecks", unfollowed := true, recurses := true, apart := false }
def GraphChecksSaid : Prop := graphChecksRow.holds Try.pinned (OpenSpec.ofChange graphChecksSpec)

/-- ITS FALSE NEIGHBOUR: 'it returns false'. Refute it at one input. -/
def graphChecksWrong : ChangeSpec := { name := "graphChecks", fn := fun _ => fun
  | [d] => { results := [.lit (.bool false)], args := [d] }
  | _ => none }
def GraphChecksWrongFalsely : Prop := graphChecksRow.holds Try.pinned (OpenSpec.ofChange graphChecksWrong)

/-- 'scullerylaw.UnifyMatches': WHATEVER THE INPUT: true; the input reads as it did. -/
def unifyMatchesSpec : ChangeSpec := { name := "unifyMatches", fn := fun _ => fun
  | [d1, d2, d3] => { results := [.lit (.bool true)], args := [d1, d2, d3] }
  | _ => none }
def unifyMatchesRow : OpenClaim := { program := "ytamkgphamffdcaa", sum := "1c4904be05f514e50bc4f05312b8cf6752ab95acb39c5039c696176bb4d7845e", func := "scullery/scullerylaw.UnifyMatches", spec := "unifyMatches", recurses := true, apart := false }
def UnifyMatchesSaid : Prop := unifyMatchesRow.holds Try.pinned (OpenSpec.ofChange unifyMatchesSpec)

/-- ITS FALSE NEIGHBOUR: 'it returns false'. Refute it at one input. -/
def unifyMatchesWrong : ChangeSpec := { name := "unifyMatches", fn := fun _ => fun
  | [d1, d2, d3] => { results := [.lit (.bool false)], args := [d1, d2, d3] }
  | _ => none }
def UnifyMatchesWrongFalsely : Prop := unifyMatchesRow.holds Try.pinned (OpenSpec.ofChange unifyMatchesWrong)

/-- 'scullerylaw.AliasUses': WHATEVER THE INPUT: true; the input reads as it did. -/
def aliasUsesSpec : ChangeSpec := { name := "aliasUses", fn := fun _ => fun
  | [d1, d2] => { results := [.lit (.bool true)], args := [d1, d2] }
  | _ => none }
def aliasUsesRow : OpenClaim := { program := "ytamkgphamffdcaa", sum := "1c4904be05f514e50bc4f05312b8cf6752ab95acb39c5039c696176bb4d7845e", func := "scullery/scullerylaw.AliasUses", spec := "aliasUses", unfollowed := true, recurses := true, loops := true, apart := false }
def AliasUsesSaid : Prop := aliasUsesRow.holds Try.pinned (OpenSpec.ofChange aliasUsesSpec)

/-- ITS FALSE NEIGHBOUR: 'it returns false'. Refute it at one input. -/
def aliasUsesWrong : ChangeSpec := { name := "aliasUses", fn := fun _ => fun
  | [d1, d2] => { results := [.lit (.bool false)], args := [d1, d2] }
  | _ => none }
def AliasUsesWrongFalsely : Prop := aliasUsesRow.holds Try.pinned (OpenSpec.ofChange aliasUsesWrong)

/-- 'scullerylaw.KindOpens': WHATEVER THE INPUT: true; the input reads as it did. -/
def kindOpensSpec : ChangeSpec := { name := "kindOpens", fn := fun _ => fun
  | [d] => { results := [.lit (.bool true)], args := [d] }
  | _ => none }
def kindOpensRow : OpenClaim := { program := "ytamkgphamffdcaa", sum := "1c4904be05f514e50bc4f05312b8cf6752ab95acb39c5039c696176bb4d7845e", func := "scullery/scullerylaw.KindOpens", spec := "kindOpens", inPlace := ["internal/bytealg.IndexByteString", "internal/bytealg.IndexString"], named := ["internal/bytealg.MaxLen"], apart := false }
def KindOpensSaid : Prop := kindOpensRow.holds Try.pinned (OpenSpec.ofChange kindOpensSpec)

/-- ITS FALSE NEIGHBOUR: 'it returns false'. Refute it at one input. -/
def kindOpensWrong : ChangeSpec := { name := "kindOpens", fn := fun _ => fun
  | [d] => { results := [.lit (.bool false)], args := [d] }
  | _ => none }
def KindOpensWrongFalsely : Prop := kindOpensRow.holds Try.pinned (OpenSpec.ofChange kindOpensWrong)

/-- 'scullerylaw.TreeChecks': WHATEVER THE INPUT: true; the input reads as it did. -/
def treeChecksSpec : ChangeSpec := { name := "treeChecks", fn := fun _ => fun
  | [d] => { results := [.lit (.bool true)], args := [d] }
  | _ => none }
def treeChecksRow : OpenClaim := { program := "ytamkgphamffdcaa", sum := "1c4904be05f514e50bc4f05312b8cf6752ab95acb39c5039c696176bb4d7845e", func := "scullery/scullerylaw.TreeChecks", spec := "treeChecks", unfollowed := true, recurses := true, loops := true, apart := false }
def TreeChecksSaid : Prop := treeChecksRow.holds Try.pinned (OpenSpec.ofChange treeChecksSpec)

/-- ITS FALSE NEIGHBOUR: 'it returns false'. Refute it at one input. -/
def treeChecksWrong : ChangeSpec := { name := "treeChecks", fn := fun _ => fun
  | [d] => { results := [.lit (.bool false)], args := [d] }
  | _ => none }
def TreeChecksWrongFalsely : Prop := treeChecksRow.holds Try.pinned (OpenSpec.ofChange treeChecksWrong)

/-- 'scullerylaw.GraphOrders': WHATEVER THE INPUT: true; the input reads as it did. -/
def graphOrdersSpec : ChangeSpec := { name := "graphOrders", fn := fun _ => fun
  | [d] => { results := [.lit (.bool true)], args := [d] }
  | _ => none }
def graphOrdersRow : OpenClaim := { program := "ytamkgphamffdcaa", sum := "1c4904be05f514e50bc4f05312b8cf6752ab95acb39c5039c696176bb4d7845e", func := "scullery/scullerylaw.GraphOrders", spec := "graphOrders", inPlace := ["internal/bytealg.abigen_runtime_cmpstring"], unfollowed := true, recurses := true, apart := false }
def GraphOrdersSaid : Prop := graphOrdersRow.holds Try.pinned (OpenSpec.ofChange graphOrdersSpec)

/-- ITS FALSE NEIGHBOUR: 'it returns false'. Refute it at one input. -/
def graphOrdersWrong : ChangeSpec := { name := "graphOrders", fn := fun _ => fun
  | [d] => { results := [.lit (.bool false)], args := [d] }
  | _ => none }
def GraphOrdersWrongFalsely : Prop := graphOrdersRow.holds Try.pinned (OpenSpec.ofChange graphOrdersWrong)

/-- 'scullerylaw.AliasSolves': WHATEVER THE INPUT: true; the input reads as it did. -/
def aliasSolvesSpec : ChangeSpec := { name := "aliasSolves", fn := fun _ => fun
  | [d1, d2, d3, d4] => { results := [.lit (.bool true)], args := [d1, d2, d3, d4] }
  | _ => none }
def aliasSolvesRow : OpenClaim := { program := "ytamkgphamffdcaa", sum := "1c4904be05f514e50bc4f05312b8cf6752ab95acb39c5039c696176bb4d7845e", func := "scullery/scullerylaw.AliasSolves", spec := "aliasSolves", inPlace := ["internal/bytealg.abigen_runtime_cmpstring"], unfollowed := true, recurses := true, loops := true, apart := false }
def AliasSolvesSaid : Prop := aliasSolvesRow.holds Try.pinned (OpenSpec.ofChange aliasSolvesSpec)

/-- ITS FALSE NEIGHBOUR: 'it returns false'. Refute it at one input. -/
def aliasSolvesWrong : ChangeSpec := { name := "aliasSolves", fn := fun _ => fun
  | [d1, d2, d3, d4] => { results := [.lit (.bool false)], args := [d1, d2, d3, d4] }
  | _ => none }
def AliasSolvesWrongFalsely : Prop := aliasSolvesRow.holds Try.pinned (OpenSpec.ofChange aliasSolvesWrong)

/-- 'scullerylaw.SignOnes': WHATEVER THE INPUT: true; the input reads as it did. -/
def signOnesSpec : ChangeSpec := { name := "signOnes", fn := fun _ => fun
  | [d1, d2, d3] => { results := [.lit (.bool true)], args := [d1, d2, d3] }
  | _ => none }
def signOnesRow : OpenClaim := { program := "ytamkgphamffdcaa", sum := "1c4904be05f514e50bc4f05312b8cf6752ab95acb39c5039c696176bb4d7845e", func := "scullery/scullerylaw.SignOnes", spec := "signOnes", inPlace := ["internal/bytealg.abigen_runtime_cmpstring"], unfollowed := true, recurses := true, loops := true, apart := false }
def SignOnesSaid : Prop := signOnesRow.holds Try.pinned (OpenSpec.ofChange signOnesSpec)

/-- ITS FALSE NEIGHBOUR: 'it returns false'. Refute it at one input. -/
def signOnesWrong : ChangeSpec := { name := "signOnes", fn := fun _ => fun
  | [d1, d2, d3] => { results := [.lit (.bool false)], args := [d1, d2, d3] }
  | _ => none }
def SignOnesWrongFalsely : Prop := signOnesRow.holds Try.pinned (OpenSpec.ofChange signOnesWrong)

/-- 'scullerylaw.FaceChecks': WHATEVER THE INPUT: true; the input reads as it did. -/
def faceChecksSpec : ChangeSpec := { name := "faceChecks", fn := fun _ => fun
  | [d] => { results := [.lit (.bool true)], args := [d] }
  | _ => none }
def faceChecksRow : OpenClaim := { program := "ytamkgphamffdcaa", sum := "1c4904be05f514e50bc4f05312b8cf6752ab95acb39c5039c696176bb4d7845e", func := "scullery/scullerylaw.FaceChecks", spec := "faceChecks", inPlace := ["internal/bytealg.IndexByteString", "internal/bytealg.IndexString"], unfollowed := true, recurses := true, named := ["internal/bytealg.MaxLen"], apart := false }
def FaceChecksSaid : Prop := faceChecksRow.holds Try.pinned (OpenSpec.ofChange faceChecksSpec)

/-- ITS FALSE NEIGHBOUR: 'it returns false'. Refute it at one input. -/
def faceChecksWrong : ChangeSpec := { name := "faceChecks", fn := fun _ => fun
  | [d] => { results := [.lit (.bool false)], args := [d] }
  | _ => none }
def FaceChecksWrongFalsely : Prop := faceChecksRow.holds Try.pinned (OpenSpec.ofChange faceChecksWrong)

/-- 'scullerylaw.FaceImports': WHATEVER THE INPUT: true; the input reads as it did. -/
def faceImportsSpec : ChangeSpec := { name := "faceImports", fn := fun _ => fun
  | [d] => { results := [.lit (.bool true)], args := [d] }
  | _ => none }
def faceImportsRow : OpenClaim := { program := "ytamkgphamffdcaa", sum := "1c4904be05f514e50bc4f05312b8cf6752ab95acb39c5039c696176bb4d7845e", func := "scullery/scullerylaw.FaceImports", spec := "faceImports", inPlace := ["internal/bytealg.IndexByteString", "internal/bytealg.IndexString"], unfollowed := true, recurses := true, named := ["internal/bytealg.MaxLen"], apart := false }
def FaceImportsSaid : Prop := faceImportsRow.holds Try.pinned (OpenSpec.ofChange faceImportsSpec)

/-- ITS FALSE NEIGHBOUR: 'it returns false'. Refute it at one input. -/
def faceImportsWrong : ChangeSpec := { name := "faceImports", fn := fun _ => fun
  | [d] => { results := [.lit (.bool false)], args := [d] }
  | _ => none }
def FaceImportsWrongFalsely : Prop := faceImportsRow.holds Try.pinned (OpenSpec.ofChange faceImportsWrong)

/-- 'scullerylaw.RecordChecks': WHATEVER THE INPUT: true; the input reads as it did. -/
def recordChecksSpec : ChangeSpec := { name := "recordChecks", fn := fun _ => fun
  | [d] => { results := [.lit (.bool true)], args := [d] }
  | _ => none }
def recordChecksRow : OpenClaim := { program := "ytamkgphamffdcaa", sum := "1c4904be05f514e50bc4f05312b8cf6752ab95acb39c5039c696176bb4d7845e", func := "scullery/scullerylaw.RecordChecks", spec := "recordChecks", inPlace := ["internal/bytealg.IndexByteString", "internal/bytealg.IndexString"], unfollowed := true, recurses := true, named := ["internal/bytealg.MaxLen"], apart := false }
def RecordChecksSaid : Prop := recordChecksRow.holds Try.pinned (OpenSpec.ofChange recordChecksSpec)

/-- ITS FALSE NEIGHBOUR: 'it returns false'. Refute it at one input. -/
def recordChecksWrong : ChangeSpec := { name := "recordChecks", fn := fun _ => fun
  | [d] => { results := [.lit (.bool false)], args := [d] }
  | _ => none }
def RecordChecksWrongFalsely : Prop := recordChecksRow.holds Try.pinned (OpenSpec.ofChange recordChecksWrong)

/-- 'scullerylaw.FaceShows': WHATEVER THE INPUT: true; the input reads as it did. -/
def faceShowsSpec : ChangeSpec := { name := "faceShows", fn := fun _ => fun
  | [d] => { results := [.lit (.bool true)], args := [d] }
  | _ => none }
def faceShowsRow : OpenClaim := { program := "ytamkgphamffdcaa", sum := "1c4904be05f514e50bc4f05312b8cf6752ab95acb39c5039c696176bb4d7845e", func := "scullery/scullerylaw.FaceShows", spec := "faceShows", inPlace := ["internal/bytealg.IndexByteString", "internal/bytealg.IndexString", "internal/abi.NoEscape", "internal/bytealg.MakeNoZero"], unfollowed := true, recurses := true, named := ["internal/bytealg.MaxLen"], apart := false }
def FaceShowsSaid : Prop := faceShowsRow.holds Try.pinned (OpenSpec.ofChange faceShowsSpec)

/-- ITS FALSE NEIGHBOUR: 'it returns false'. Refute it at one input. -/
def faceShowsWrong : ChangeSpec := { name := "faceShows", fn := fun _ => fun
  | [d] => { results := [.lit (.bool false)], args := [d] }
  | _ => none }
def FaceShowsWrongFalsely : Prop := faceShowsRow.holds Try.pinned (OpenSpec.ofChange faceShowsWrong)

/-- 'scullerylaw.RecordEncodes': WHATEVER THE INPUT: true; the input reads as it did. -/
def recordEncodesSpec : ChangeSpec := { name := "recordEncodes", fn := fun _ => fun
  | [d] => { results := [.lit (.bool true)], args := [d] }
  | _ => none }
def recordEncodesRow : OpenClaim := { program := "ytamkgphamffdcaa", sum := "1c4904be05f514e50bc4f05312b8cf6752ab95acb39c5039c696176bb4d7845e", func := "scullery/scullerylaw.RecordEncodes", spec := "recordEncodes", inPlace := ["internal/bytealg.IndexByteString", "internal/bytealg.IndexString"], unfollowed := true, recurses := true, named := ["internal/bytealg.MaxLen"], apart := false }
def RecordEncodesSaid : Prop := recordEncodesRow.holds Try.pinned (OpenSpec.ofChange recordEncodesSpec)

/-- ITS FALSE NEIGHBOUR: 'it returns false'. Refute it at one input. -/
def recordEncodesWrong : ChangeSpec := { name := "recordEncodes", fn := fun _ => fun
  | [d] => { results := [.lit (.bool false)], args := [d] }
  | _ => none }
def RecordEncodesWrongFalsely : Prop := recordEncodesRow.holds Try.pinned (OpenSpec.ofChange recordEncodesWrong)

/-- 'scullerykeep.KindsBack': WHATEVER THE INPUT: true; the input reads as it did. -/
def kindsBackSpec : ChangeSpec := { name := "kindsBack", fn := fun _ => fun
  | [d] => { results := [.lit (.bool true)], args := [d] }
  | _ => none }
def kindsBackRow : OpenClaim := { program := "ytamkgphamffdcaa", sum := "1c4904be05f514e50bc4f05312b8cf6752ab95acb39c5039c696176bb4d7845e", func := "scullery/scullerykeep.KindsBack", spec := "kindsBack", inPlace := ["internal/abi.NoEscape", "internal/bytealg.MakeNoZero", "internal/bytealg.IndexByteString", "internal/bytealg.IndexString"], named := ["internal/bytealg.MaxLen"], apart := false }
def KindsBackSaid : Prop := kindsBackRow.holds Try.pinned (OpenSpec.ofChange kindsBackSpec)

/-- ITS FALSE NEIGHBOUR: 'it returns false'. Refute it at one input. -/
def kindsBackWrong : ChangeSpec := { name := "kindsBack", fn := fun _ => fun
  | [d] => { results := [.lit (.bool false)], args := [d] }
  | _ => none }
def KindsBackWrongFalsely : Prop := kindsBackRow.holds Try.pinned (OpenSpec.ofChange kindsBackWrong)

/-- 'scullerylaw.RecordDecodes': WHATEVER THE INPUT: true; the input reads as it did. -/
def recordDecodesSpec : ChangeSpec := { name := "recordDecodes", fn := fun _ => fun
  | [d] => { results := [.lit (.bool true)], args := [d] }
  | _ => none }
def recordDecodesRow : OpenClaim := { program := "ytamkgphamffdcaa", sum := "1c4904be05f514e50bc4f05312b8cf6752ab95acb39c5039c696176bb4d7845e", func := "scullery/scullerylaw.RecordDecodes", spec := "recordDecodes", inPlace := ["internal/bytealg.IndexByteString", "internal/bytealg.IndexString"], unfollowed := true, recurses := true, named := ["internal/bytealg.MaxLen"], apart := false }
def RecordDecodesSaid : Prop := recordDecodesRow.holds Try.pinned (OpenSpec.ofChange recordDecodesSpec)

/-- ITS FALSE NEIGHBOUR: 'it returns false'. Refute it at one input. -/
def recordDecodesWrong : ChangeSpec := { name := "recordDecodes", fn := fun _ => fun
  | [d] => { results := [.lit (.bool false)], args := [d] }
  | _ => none }
def RecordDecodesWrongFalsely : Prop := recordDecodesRow.holds Try.pinned (OpenSpec.ofChange recordDecodesWrong)

/-- 'scullerylaw.LogAppends': WHATEVER THE INPUT: true; the input reads as it did. -/
def logAppendsSpec : ChangeSpec := { name := "logAppends", fn := fun _ => fun
  | [d1, d2] => { results := [.lit (.bool true)], args := [d1, d2] }
  | _ => none }
def logAppendsRow : OpenClaim := { program := "ytamkgphamffdcaa", sum := "1c4904be05f514e50bc4f05312b8cf6752ab95acb39c5039c696176bb4d7845e", func := "scullery/scullerylaw.LogAppends", spec := "logAppends", inPlace := ["internal/bytealg.IndexByteString", "internal/bytealg.IndexString"], unfollowed := true, recurses := true, named := ["internal/bytealg.MaxLen"], apart := false }
def LogAppendsSaid : Prop := logAppendsRow.holds Try.pinned (OpenSpec.ofChange logAppendsSpec)

/-- ITS FALSE NEIGHBOUR: 'it returns false'. Refute it at one input. -/
def logAppendsWrong : ChangeSpec := { name := "logAppends", fn := fun _ => fun
  | [d1, d2] => { results := [.lit (.bool false)], args := [d1, d2] }
  | _ => none }
def LogAppendsWrongFalsely : Prop := logAppendsRow.holds Try.pinned (OpenSpec.ofChange logAppendsWrong)

/-- 'scullerylaw.LogScans': WHATEVER THE INPUT: true; the input reads as it did. -/
def logScansSpec : ChangeSpec := { name := "logScans", fn := fun _ => fun
  | [d] => { results := [.lit (.bool true)], args := [d] }
  | _ => none }
def logScansRow : OpenClaim := { program := "ytamkgphamffdcaa", sum := "1c4904be05f514e50bc4f05312b8cf6752ab95acb39c5039c696176bb4d7845e", func := "scullery/scullerylaw.LogScans", spec := "logScans", inPlace := ["internal/bytealg.IndexByteString", "internal/bytealg.IndexString"], unfollowed := true, recurses := true, named := ["internal/bytealg.MaxLen"], apart := false }
def LogScansSaid : Prop := logScansRow.holds Try.pinned (OpenSpec.ofChange logScansSpec)

/-- ITS FALSE NEIGHBOUR: 'it returns false'. Refute it at one input. -/
def logScansWrong : ChangeSpec := { name := "logScans", fn := fun _ => fun
  | [d] => { results := [.lit (.bool false)], args := [d] }
  | _ => none }
def LogScansWrongFalsely : Prop := logScansRow.holds Try.pinned (OpenSpec.ofChange logScansWrong)

/-- 'scullerykeep.RecordsOnce': WHATEVER THE INPUT: true; the input reads as it did. -/
def recordsOnceSpec : ChangeSpec := { name := "recordsOnce", fn := fun _ => fun
  | [d] => { results := [.lit (.bool true)], args := [d] }
  | _ => none }
def recordsOnceRow : OpenClaim := { program := "ytamkgphamffdcaa", sum := "1c4904be05f514e50bc4f05312b8cf6752ab95acb39c5039c696176bb4d7845e", func := "scullery/scullerykeep.RecordsOnce", spec := "recordsOnce", inPlace := ["internal/bytealg.IndexByteString", "internal/bytealg.IndexString"], unfollowed := true, recurses := true, named := ["internal/bytealg.MaxLen"], apart := false }
def RecordsOnceSaid : Prop := recordsOnceRow.holds Try.pinned (OpenSpec.ofChange recordsOnceSpec)

/-- ITS FALSE NEIGHBOUR: 'it returns false'. Refute it at one input. -/
def recordsOnceWrong : ChangeSpec := { name := "recordsOnce", fn := fun _ => fun
  | [d] => { results := [.lit (.bool false)], args := [d] }
  | _ => none }
def RecordsOnceWrongFalsely : Prop := recordsOnceRow.holds Try.pinned (OpenSpec.ofChange recordsOnceWrong)

/- THE SECOND FORM. 'bulk': how many values and letters a reading holds, each counted each time it is reached (what is shared counts as often as it is met; a slice's spare places count too). A statement '..UptoSaid' is the law's where the arguments, and the package variables that the reading takes, are together of bulk at most 1048576: NARROWER than '..Said'. Prove '..Said' where nothing that the law and all that it calls make is longer than what came in: it says more and counts as full. Else prove '..UptoSaid'. A law counts once. -/
mutual
def uptoBulk {H : Type} : DataW H → Nat
  | .lit (.string bytes) => bytes.length + 1
  | .lit _ => 1
  | .nil => 1
  | .ptr d => uptoBulk d + 1
  | .slice elems spare => uptoBulkAll elems + uptoBulkAll spare + 1
  | .agg parts => uptoBulkAll parts + 1
  | .iface _ d => uptoBulk d + 1
  | .map entries => uptoBulkEntries entries + 1
  | .held _ => 1
def uptoBulkAll {H : Type} : List (DataW H) → Nat
  | [] => 0
  | d :: r => uptoBulk d + uptoBulkAll r
def uptoBulkEntries {H : Type} : List (Lit × DataW H) → Nat
  | [] => 0
  | x :: r => uptoBulkEntry x + uptoBulkEntries r
def uptoBulkEntry {H : Type} : Lit × DataW H → Nat
  | (.string bytes, d) => bytes.length + uptoBulk d + 1
  | (_, d) => uptoBulk d + 1
 end
def uptoSmall : (H : Type) → List (DataW H) → Bool := fun _ ds => decide (uptoBulkAll ds ≤ 1048576)
def OpenSpec.upto (s : _root_.Go.ChangeSpec) : _root_.Go.OpenSpec := { _root_.Go.OpenSpec.ofChange s with cond := some uptoSmall }

/-- 'scullerylaw.Names', WHERE WHAT IT READS IS OF BULK AT MOST 1048576: true; the input reads as it did. -/
def namesUptoRow : OpenClaim := { program := "ytamkgphamffdcaa", sum := "1c4904be05f514e50bc4f05312b8cf6752ab95acb39c5039c696176bb4d7845e", func := "scullery/scullerylaw.Names", spec := "names", apart := false, narrowed := true }
def NamesUptoSaid : Prop := namesUptoRow.holds Try.pinned (OpenSpec.upto namesSpec)

/-- 'scullerylaw.KindElems', WHERE WHAT IT READS IS OF BULK AT MOST 1048576: true; the input reads as it did. -/
def kindElemsUptoRow : OpenClaim := { program := "ytamkgphamffdcaa", sum := "1c4904be05f514e50bc4f05312b8cf6752ab95acb39c5039c696176bb4d7845e", func := "scullery/scullerylaw.KindElems", spec := "kindElems", apart := false, narrowed := true }
def KindElemsUptoSaid : Prop := kindElemsUptoRow.holds Try.pinned (OpenSpec.upto kindElemsSpec)

/-- 'scullerylaw.TokenQuotes', WHERE WHAT IT READS IS OF BULK AT MOST 1048576: true; the input reads as it did. -/
def tokenQuotesUptoRow : OpenClaim := { program := "ytamkgphamffdcaa", sum := "1c4904be05f514e50bc4f05312b8cf6752ab95acb39c5039c696176bb4d7845e", func := "scullery/scullerylaw.TokenQuotes", spec := "tokenQuotes", unfollowed := true, recurses := true, apart := false, narrowed := true }
def TokenQuotesUptoSaid : Prop := tokenQuotesUptoRow.holds Try.pinned (OpenSpec.upto tokenQuotesSpec)

/-- 'scullerylaw.TokenWords', WHERE WHAT IT READS IS OF BULK AT MOST 1048576: true; the input reads as it did. -/
def tokenWordsUptoRow : OpenClaim := { program := "ytamkgphamffdcaa", sum := "1c4904be05f514e50bc4f05312b8cf6752ab95acb39c5039c696176bb4d7845e", func := "scullery/scullerylaw.TokenWords", spec := "tokenWords", unfollowed := true, recurses := true, apart := false, narrowed := true }
def TokenWordsUptoSaid : Prop := tokenWordsUptoRow.holds Try.pinned (OpenSpec.upto tokenWordsSpec)

/-- 'scullerylaw.FaceCopies', WHERE WHAT IT READS IS OF BULK AT MOST 1048576: true; the input reads as it did. -/
def faceCopiesUptoRow : OpenClaim := { program := "ytamkgphamffdcaa", sum := "1c4904be05f514e50bc4f05312b8cf6752ab95acb39c5039c696176bb4d7845e", func := "scullery/scullerylaw.FaceCopies", spec := "faceCopies", apart := false, narrowed := true }
def FaceCopiesUptoSaid : Prop := faceCopiesUptoRow.holds Try.pinned (OpenSpec.upto faceCopiesSpec)

/-- 'scullerylaw.KindChecks', WHERE WHAT IT READS IS OF BULK AT MOST 1048576: true; the input reads as it did. -/
def kindChecksUptoRow : OpenClaim := { program := "ytamkgphamffdcaa", sum := "1c4904be05f514e50bc4f05312b8cf6752ab95acb39c5039c696176bb4d7845e", func := "scullery/scullerylaw.KindChecks", spec := "kindChecks", apart := false, narrowed := true }
def KindChecksUptoSaid : Prop := kindChecksUptoRow.holds Try.pinned (OpenSpec.upto kindChecksSpec)

/-- 'scullerylaw.RecordCopies', WHERE WHAT IT READS IS OF BULK AT MOST 1048576: true; the input reads as it did. -/
def recordCopiesUptoRow : OpenClaim := { program := "ytamkgphamffdcaa", sum := "1c4904be05f514e50bc4f05312b8cf6752ab95acb39c5039c696176bb4d7845e", func := "scullery/scullerylaw.RecordCopies", spec := "recordCopies", apart := false, narrowed := true }
def RecordCopiesUptoSaid : Prop := recordCopiesUptoRow.holds Try.pinned (OpenSpec.upto recordCopiesSpec)

/-- 'scullerylaw.FaceSames', WHERE WHAT IT READS IS OF BULK AT MOST 1048576: true; the input reads as it did. -/
def faceSamesUptoRow : OpenClaim := { program := "ytamkgphamffdcaa", sum := "1c4904be05f514e50bc4f05312b8cf6752ab95acb39c5039c696176bb4d7845e", func := "scullery/scullerylaw.FaceSames", spec := "faceSames", unfollowed := true, recurses := true, apart := false, narrowed := true }
def FaceSamesUptoSaid : Prop := faceSamesUptoRow.holds Try.pinned (OpenSpec.upto faceSamesSpec)

/-- 'scullerylaw.TreeIdents', WHERE WHAT IT READS IS OF BULK AT MOST 1048576: true; the input reads as it did. -/
def treeIdentsUptoRow : OpenClaim := { program := "ytamkgphamffdcaa", sum := "1c4904be05f514e50bc4f05312b8cf6752ab95acb39c5039c696176bb4d7845e", func := "scullery/scullerylaw.TreeIdents", spec := "treeIdents", unfollowed := true, recurses := true, apart := false, narrowed := true }
def TreeIdentsUptoSaid : Prop := treeIdentsUptoRow.holds Try.pinned (OpenSpec.upto treeIdentsSpec)

/-- 'scullerylaw.FaceTypes', WHERE WHAT IT READS IS OF BULK AT MOST 1048576: true; the input reads as it did. -/
def faceTypesUptoRow : OpenClaim := { program := "ytamkgphamffdcaa", sum := "1c4904be05f514e50bc4f05312b8cf6752ab95acb39c5039c696176bb4d7845e", func := "scullery/scullerylaw.FaceTypes", spec := "faceTypes", inPlace := ["internal/bytealg.abigen_runtime_cmpstring"], unfollowed := true, recurses := true, apart := false, narrowed := true }
def FaceTypesUptoSaid : Prop := faceTypesUptoRow.holds Try.pinned (OpenSpec.upto faceTypesSpec)

/-- 'scullerylaw.KindLists', WHERE WHAT IT READS IS OF BULK AT MOST 1048576: true; the input reads as it did. -/
def kindListsUptoRow : OpenClaim := { program := "ytamkgphamffdcaa", sum := "1c4904be05f514e50bc4f05312b8cf6752ab95acb39c5039c696176bb4d7845e", func := "scullery/scullerylaw.KindLists", spec := "kindLists", apart := false, narrowed := true }
def KindListsUptoSaid : Prop := kindListsUptoRow.holds Try.pinned (OpenSpec.upto kindListsSpec)

/-- 'scullerylaw.RecordIs', WHERE WHAT IT READS IS OF BULK AT MOST 1048576: true; the input reads as it did. -/
def recordIsUptoRow : OpenClaim := { program := "ytamkgphamffdcaa", sum := "1c4904be05f514e50bc4f05312b8cf6752ab95acb39c5039c696176bb4d7845e", func := "scullery/scullerylaw.RecordIs", spec := "recordIs", unfollowed := true, recurses := true, apart := false, narrowed := true }
def RecordIsUptoSaid : Prop := recordIsUptoRow.holds Try.pinned (OpenSpec.upto recordIsSpec)

/-- 'scullerylaw.FaceFuncs', WHERE WHAT IT READS IS OF BULK AT MOST 1048576: true; the input reads as it did. -/
def faceFuncsUptoRow : OpenClaim := { program := "ytamkgphamffdcaa", sum := "1c4904be05f514e50bc4f05312b8cf6752ab95acb39c5039c696176bb4d7845e", func := "scullery/scullerylaw.FaceFuncs", spec := "faceFuncs", inPlace := ["internal/bytealg.abigen_runtime_cmpstring"], unfollowed := true, recurses := true, apart := false, narrowed := true }
def FaceFuncsUptoSaid : Prop := faceFuncsUptoRow.holds Try.pinned (OpenSpec.upto faceFuncsSpec)

/-- 'scullerylaw.AliasFroms', WHERE WHAT IT READS IS OF BULK AT MOST 1048576: true; the input reads as it did. -/
def aliasFromsUptoRow : OpenClaim := { program := "ytamkgphamffdcaa", sum := "1c4904be05f514e50bc4f05312b8cf6752ab95acb39c5039c696176bb4d7845e", func := "scullery/scullerylaw.AliasFroms", spec := "aliasFroms", unfollowed := true, recurses := true, loops := true, apart := false, narrowed := true }
def AliasFromsUptoSaid : Prop := aliasFromsUptoRow.holds Try.pinned (OpenSpec.upto aliasFromsSpec)

/-- 'scullerylaw.GraphChecks', WHERE WHAT IT READS IS OF BULK AT MOST 1048576: true; the input reads as it did. -/
def graphChecksUptoRow : OpenClaim := { program := "ytamkgphamffdcaa", sum := "1c4904be05f514e50bc4f05312b8cf6752ab95acb39c5039c696176bb4d7845e", func := "scullery/scullerylaw.GraphChecks", spec := "graphChecks", unfollowed := true, recurses := true, apart := false, narrowed := true }
def GraphChecksUptoSaid : Prop := graphChecksUptoRow.holds Try.pinned (OpenSpec.upto graphChecksSpec)

/-- 'scullerylaw.UnifyMatches', WHERE WHAT IT READS IS OF BULK AT MOST 1048576: true; the input reads as it did. -/
def unifyMatchesUptoRow : OpenClaim := { program := "ytamkgphamffdcaa", sum := "1c4904be05f514e50bc4f05312b8cf6752ab95acb39c5039c696176bb4d7845e", func := "scullery/scullerylaw.UnifyMatches", spec := "unifyMatches", recurses := true, apart := false, narrowed := true }
def UnifyMatchesUptoSaid : Prop := unifyMatchesUptoRow.holds Try.pinned (OpenSpec.upto unifyMatchesSpec)

/-- 'scullerylaw.AliasUses', WHERE WHAT IT READS IS OF BULK AT MOST 1048576: true; the input reads as it did. -/
def aliasUsesUptoRow : OpenClaim := { program := "ytamkgphamffdcaa", sum := "1c4904be05f514e50bc4f05312b8cf6752ab95acb39c5039c696176bb4d7845e", func := "scullery/scullerylaw.AliasUses", spec := "aliasUses", unfollowed := true, recurses := true, loops := true, apart := false, narrowed := true }
def AliasUsesUptoSaid : Prop := aliasUsesUptoRow.holds Try.pinned (OpenSpec.upto aliasUsesSpec)

/-- 'scullerylaw.KindOpens', WHERE WHAT IT READS IS OF BULK AT MOST 1048576: true; the input reads as it did. -/
def kindOpensUptoRow : OpenClaim := { program := "ytamkgphamffdcaa", sum := "1c4904be05f514e50bc4f05312b8cf6752ab95acb39c5039c696176bb4d7845e", func := "scullery/scullerylaw.KindOpens", spec := "kindOpens", inPlace := ["internal/bytealg.IndexByteString", "internal/bytealg.IndexString"], named := ["internal/bytealg.MaxLen"], apart := false, narrowed := true }
def KindOpensUptoSaid : Prop := kindOpensUptoRow.holds Try.pinned (OpenSpec.upto kindOpensSpec)

/-- 'scullerylaw.TreeChecks', WHERE WHAT IT READS IS OF BULK AT MOST 1048576: true; the input reads as it did. -/
def treeChecksUptoRow : OpenClaim := { program := "ytamkgphamffdcaa", sum := "1c4904be05f514e50bc4f05312b8cf6752ab95acb39c5039c696176bb4d7845e", func := "scullery/scullerylaw.TreeChecks", spec := "treeChecks", unfollowed := true, recurses := true, loops := true, apart := false, narrowed := true }
def TreeChecksUptoSaid : Prop := treeChecksUptoRow.holds Try.pinned (OpenSpec.upto treeChecksSpec)

/-- 'scullerylaw.GraphOrders', WHERE WHAT IT READS IS OF BULK AT MOST 1048576: true; the input reads as it did. -/
def graphOrdersUptoRow : OpenClaim := { program := "ytamkgphamffdcaa", sum := "1c4904be05f514e50bc4f05312b8cf6752ab95acb39c5039c696176bb4d7845e", func := "scullery/scullerylaw.GraphOrders", spec := "graphOrders", inPlace := ["internal/bytealg.abigen_runtime_cmpstring"], unfollowed := true, recurses := true, apart := false, narrowed := true }
def GraphOrdersUptoSaid : Prop := graphOrdersUptoRow.holds Try.pinned (OpenSpec.upto graphOrdersSpec)

/-- 'scullerylaw.AliasSolves', WHERE WHAT IT READS IS OF BULK AT MOST 1048576: true; the input reads as it did. -/
def aliasSolvesUptoRow : OpenClaim := { program := "ytamkgphamffdcaa", sum := "1c4904be05f514e50bc4f05312b8cf6752ab95acb39c5039c696176bb4d7845e", func := "scullery/scullerylaw.AliasSolves", spec := "aliasSolves", inPlace := ["internal/bytealg.abigen_runtime_cmpstring"], unfollowed := true, recurses := true, loops := true, apart := false, narrowed := true }
def AliasSolvesUptoSaid : Prop := aliasSolvesUptoRow.holds Try.pinned (OpenSpec.upto aliasSolvesSpec)

/-- 'scullerylaw.SignOnes', WHERE WHAT IT READS IS OF BULK AT MOST 1048576: true; the input reads as it did. -/
def signOnesUptoRow : OpenClaim := { program := "ytamkgphamffdcaa", sum := "1c4904be05f514e50bc4f05312b8cf6752ab95acb39c5039c696176bb4d7845e", func := "scullery/scullerylaw.SignOnes", spec := "signOnes", inPlace := ["internal/bytealg.abigen_runtime_cmpstring"], unfollowed := true, recurses := true, loops := true, apart := false, narrowed := true }
def SignOnesUptoSaid : Prop := signOnesUptoRow.holds Try.pinned (OpenSpec.upto signOnesSpec)

/-- 'scullerylaw.FaceChecks', WHERE WHAT IT READS IS OF BULK AT MOST 1048576: true; the input reads as it did. -/
def faceChecksUptoRow : OpenClaim := { program := "ytamkgphamffdcaa", sum := "1c4904be05f514e50bc4f05312b8cf6752ab95acb39c5039c696176bb4d7845e", func := "scullery/scullerylaw.FaceChecks", spec := "faceChecks", inPlace := ["internal/bytealg.IndexByteString", "internal/bytealg.IndexString"], unfollowed := true, recurses := true, named := ["internal/bytealg.MaxLen"], apart := false, narrowed := true }
def FaceChecksUptoSaid : Prop := faceChecksUptoRow.holds Try.pinned (OpenSpec.upto faceChecksSpec)

/-- 'scullerylaw.FaceImports', WHERE WHAT IT READS IS OF BULK AT MOST 1048576: true; the input reads as it did. -/
def faceImportsUptoRow : OpenClaim := { program := "ytamkgphamffdcaa", sum := "1c4904be05f514e50bc4f05312b8cf6752ab95acb39c5039c696176bb4d7845e", func := "scullery/scullerylaw.FaceImports", spec := "faceImports", inPlace := ["internal/bytealg.IndexByteString", "internal/bytealg.IndexString"], unfollowed := true, recurses := true, named := ["internal/bytealg.MaxLen"], apart := false, narrowed := true }
def FaceImportsUptoSaid : Prop := faceImportsUptoRow.holds Try.pinned (OpenSpec.upto faceImportsSpec)

/-- 'scullerylaw.RecordChecks', WHERE WHAT IT READS IS OF BULK AT MOST 1048576: true; the input reads as it did. -/
def recordChecksUptoRow : OpenClaim := { program := "ytamkgphamffdcaa", sum := "1c4904be05f514e50bc4f05312b8cf6752ab95acb39c5039c696176bb4d7845e", func := "scullery/scullerylaw.RecordChecks", spec := "recordChecks", inPlace := ["internal/bytealg.IndexByteString", "internal/bytealg.IndexString"], unfollowed := true, recurses := true, named := ["internal/bytealg.MaxLen"], apart := false, narrowed := true }
def RecordChecksUptoSaid : Prop := recordChecksUptoRow.holds Try.pinned (OpenSpec.upto recordChecksSpec)

/-- 'scullerylaw.FaceShows', WHERE WHAT IT READS IS OF BULK AT MOST 1048576: true; the input reads as it did. -/
def faceShowsUptoRow : OpenClaim := { program := "ytamkgphamffdcaa", sum := "1c4904be05f514e50bc4f05312b8cf6752ab95acb39c5039c696176bb4d7845e", func := "scullery/scullerylaw.FaceShows", spec := "faceShows", inPlace := ["internal/bytealg.IndexByteString", "internal/bytealg.IndexString", "internal/abi.NoEscape", "internal/bytealg.MakeNoZero"], unfollowed := true, recurses := true, named := ["internal/bytealg.MaxLen"], apart := false, narrowed := true }
def FaceShowsUptoSaid : Prop := faceShowsUptoRow.holds Try.pinned (OpenSpec.upto faceShowsSpec)

/-- 'scullerylaw.RecordEncodes', WHERE WHAT IT READS IS OF BULK AT MOST 1048576: true; the input reads as it did. -/
def recordEncodesUptoRow : OpenClaim := { program := "ytamkgphamffdcaa", sum := "1c4904be05f514e50bc4f05312b8cf6752ab95acb39c5039c696176bb4d7845e", func := "scullery/scullerylaw.RecordEncodes", spec := "recordEncodes", inPlace := ["internal/bytealg.IndexByteString", "internal/bytealg.IndexString"], unfollowed := true, recurses := true, named := ["internal/bytealg.MaxLen"], apart := false, narrowed := true }
def RecordEncodesUptoSaid : Prop := recordEncodesUptoRow.holds Try.pinned (OpenSpec.upto recordEncodesSpec)

/-- 'scullerykeep.KindsBack', WHERE WHAT IT READS IS OF BULK AT MOST 1048576: true; the input reads as it did. -/
def kindsBackUptoRow : OpenClaim := { program := "ytamkgphamffdcaa", sum := "1c4904be05f514e50bc4f05312b8cf6752ab95acb39c5039c696176bb4d7845e", func := "scullery/scullerykeep.KindsBack", spec := "kindsBack", inPlace := ["internal/abi.NoEscape", "internal/bytealg.MakeNoZero", "internal/bytealg.IndexByteString", "internal/bytealg.IndexString"], named := ["internal/bytealg.MaxLen"], apart := false, narrowed := true }
def KindsBackUptoSaid : Prop := kindsBackUptoRow.holds Try.pinned (OpenSpec.upto kindsBackSpec)

/-- 'scullerylaw.RecordDecodes', WHERE WHAT IT READS IS OF BULK AT MOST 1048576: true; the input reads as it did. -/
def recordDecodesUptoRow : OpenClaim := { program := "ytamkgphamffdcaa", sum := "1c4904be05f514e50bc4f05312b8cf6752ab95acb39c5039c696176bb4d7845e", func := "scullery/scullerylaw.RecordDecodes", spec := "recordDecodes", inPlace := ["internal/bytealg.IndexByteString", "internal/bytealg.IndexString"], unfollowed := true, recurses := true, named := ["internal/bytealg.MaxLen"], apart := false, narrowed := true }
def RecordDecodesUptoSaid : Prop := recordDecodesUptoRow.holds Try.pinned (OpenSpec.upto recordDecodesSpec)

/-- 'scullerylaw.LogAppends', WHERE WHAT IT READS IS OF BULK AT MOST 1048576: true; the input reads as it did. -/
def logAppendsUptoRow : OpenClaim := { program := "ytamkgphamffdcaa", sum := "1c4904be05f514e50bc4f05312b8cf6752ab95acb39c5039c696176bb4d7845e", func := "scullery/scullerylaw.LogAppends", spec := "logAppends", inPlace := ["internal/bytealg.IndexByteString", "internal/bytealg.IndexString"], unfollowed := true, recurses := true, named := ["internal/bytealg.MaxLen"], apart := false, narrowed := true }
def LogAppendsUptoSaid : Prop := logAppendsUptoRow.holds Try.pinned (OpenSpec.upto logAppendsSpec)

/-- 'scullerylaw.LogScans', WHERE WHAT IT READS IS OF BULK AT MOST 1048576: true; the input reads as it did. -/
def logScansUptoRow : OpenClaim := { program := "ytamkgphamffdcaa", sum := "1c4904be05f514e50bc4f05312b8cf6752ab95acb39c5039c696176bb4d7845e", func := "scullery/scullerylaw.LogScans", spec := "logScans", inPlace := ["internal/bytealg.IndexByteString", "internal/bytealg.IndexString"], unfollowed := true, recurses := true, named := ["internal/bytealg.MaxLen"], apart := false, narrowed := true }
def LogScansUptoSaid : Prop := logScansUptoRow.holds Try.pinned (OpenSpec.upto logScansSpec)

/-- 'scullerykeep.RecordsOnce', WHERE WHAT IT READS IS OF BULK AT MOST 1048576: true; the input reads as it did. -/
def recordsOnceUptoRow : OpenClaim := { program := "ytamkgphamffdcaa", sum := "1c4904be05f514e50bc4f05312b8cf6752ab95acb39c5039c696176bb4d7845e", func := "scullery/scullerykeep.RecordsOnce", spec := "recordsOnce", inPlace := ["internal/bytealg.IndexByteString", "internal/bytealg.IndexString"], unfollowed := true, recurses := true, named := ["internal/bytealg.MaxLen"], apart := false, narrowed := true }
def RecordsOnceUptoSaid : Prop := recordsOnceUptoRow.holds Try.pinned (OpenSpec.upto recordsOnceSpec)

end Rows
end Go.Proofs.Ytamkgphamffdcaa
