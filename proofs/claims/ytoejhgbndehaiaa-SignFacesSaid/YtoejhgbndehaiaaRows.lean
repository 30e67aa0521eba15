/-
  NARROWER THAN 'FOR EVERY INPUT', by the rows' own cells (each row's printed sentence says how): AliasTypes: loops · SignFaces: loops.
  DERIVED. THE GIVEN ROWS OF THIS SEAT. 3 by the template 'for every input the law returns true; each argument reads behind the call as it read before'; 0 by the template 'total and deterministic' (their statements: YtoejhgbndehaiaaTotals.lean).
  GIVEN WITH THE SEED: the statements are not yours to turn. If you find one false, say at which input.
  Laid BY PROGRAM, IN A SANDBOX (cutbox-rows.mjs): the forced cells as the released guide's own fill.sh prints them over the translation 50aad5386227fc2e… (all of the seat's roots in one cut). By AI agents, Wed Nov 11 2026. No macro, syntax, notation, axiom, sorry.
-/
import Derived.Test.YtoejhgbndehaiaaChecked
import GoSem.Claim
import GoSem.ClaimJoined
import GoSem.ClaimMapViews
import Derived.JoinedTies
import Derived.KernelRfl
namespace Go.Proofs.Ytoejhgbndehaiaa
/- THE CELL 'sum', in the pinned program and in every row, IS THE sha256 OF THE DUMP (.gsa) THAT YtoejhgbndehaiaaProg.lean LOADS. Nothing in Lean hashes anything: it is a label: what it is worth is what the hold of that sum in a sandbox is worth. -/
noncomputable def Try.pinned : Pinned := { name := "ytoejhgbndehaiaa", sum := "50aad5386227fc2e244dbd2abad90f32b64643c931a1441bd410e5280b035194", checked := Try.checked }
namespace Rows
def none {H : Type} : Left H := { results := [], args := [] }

/-- 'scullerylaw.LogScans': WHATEVER THE INPUT: true; the input reads as it did. -/
def logScansSpec : ChangeSpec := { name := "logScans", fn := fun _ => fun
  | [d] => { results := [.lit (.bool true)], args := [d] }
  | _ => none }
def logScansRow : OpenClaim := { program := "ytoejhgbndehaiaa", sum := "50aad5386227fc2e244dbd2abad90f32b64643c931a1441bd410e5280b035194", func := "scullery/scullerylaw.LogScans", spec := "logScans", inPlace := ["internal/bytealg.IndexByteString", "internal/bytealg.IndexString"], unfollowed := true, recurses := true, named := ["internal/bytealg.MaxLen"], apart := false }
def LogScansSaid : Prop := logScansRow.holds Try.pinned (OpenSpec.ofChange logScansSpec)

/-- ITS FALSE NEIGHBOUR: 'it returns false'. Refute it at one input. -/
def logScansWrong : ChangeSpec := { name := "logScans", fn := fun _ => fun
  | [d] => { results := [.lit (.bool false)], args := [d] }
  | _ => none }
def LogScansWrongFalsely : Prop := logScansRow.holds Try.pinned (OpenSpec.ofChange logScansWrong)

/-- 'scullerylaw.AliasTypes': WHATEVER THE INPUT: true; the input reads as it did. -/
def aliasTypesSpec : ChangeSpec := { name := "aliasTypes", fn := fun _ => fun
  | [d1, d2] => { results := [.lit (.bool true)], args := [d1, d2] }
  | _ => none }
def aliasTypesRow : OpenClaim := { program := "ytoejhgbndehaiaa", sum := "50aad5386227fc2e244dbd2abad90f32b64643c931a1441bd410e5280b035194", func := "scullery/scullerylaw.AliasTypes", spec := "aliasTypes", inPlace := ["internal/bytealg.abigen_runtime_cmpstring"], unfollowed := true, recurses := true, loops := true, apart := false }
def AliasTypesSaid : Prop := aliasTypesRow.holds Try.pinned (OpenSpec.ofChange aliasTypesSpec)

/-- ITS FALSE NEIGHBOUR: 'it returns false'. Refute it at one input. -/
def aliasTypesWrong : ChangeSpec := { name := "aliasTypes", fn := fun _ => fun
  | [d1, d2] => { results := [.lit (.bool false)], args := [d1, d2] }
  | _ => none }
def AliasTypesWrongFalsely : Prop := aliasTypesRow.holds Try.pinned (OpenSpec.ofChange aliasTypesWrong)

/-- 'scullerylaw.SignFaces': WHATEVER THE INPUT: true; the input reads as it did. -/
def signFacesSpec : ChangeSpec := { name := "signFaces", fn := fun _ => fun
  | [d1, d2] => { results := [.lit (.bool true)], args := [d1, d2] }
  | _ => none }
def signFacesRow : OpenClaim := { program := "ytoejhgbndehaiaa", sum := "50aad5386227fc2e244dbd2abad90f32b64643c931a1441bd410e5280b035194", func := "scullery/scullerylaw.SignFaces", spec := "signFaces", inPlace := ["internal/bytealg.abigen_runtime_cmpstring"], unfollowed := true, recurses := true, loops := true, apart := false }
def SignFacesSaid : Prop := signFacesRow.holds Try.pinned (OpenSpec.ofChange signFacesSpec)

/-- ITS FALSE NEIGHBOUR: 'it returns false'. Refute it at one input. -/
def signFacesWrong : ChangeSpec := { name := "signFaces", fn := fun _ => fun
  | [d1, d2] => { results := [.lit (.bool false)], args := [d1, d2] }
  | _ => none }
def SignFacesWrongFalsely : Prop := signFacesRow.holds Try.pinned (OpenSpec.ofChange signFacesWrong)

/- THE SECOND FORM. 'bulk': how many values and letters a reading holds, each counted each time it is reached (what is shared counts as often as it is met; a slice's spare places count too). A statement '..UptoSaid' is the law's where the arguments, and the package variables that the reading takes, are together of bulk at most 1048576: NARROWER than '..Said'. Prove '..Said' where nothing that the law and all that it calls make is longer than what came in: it says more and counts as full. Else prove '..UptoSaid'. A law counts once. -/
mutual
def uptoBulk {H : Type} : DataW H → Nat
  | .lit (.string bytes) => bytes.length + 1
  | .lit _ => 1
  | .nil => 1
  | .ptr d => uptoBulk d + 1
  | .slice elems spare => uptoBulkAll elems + uptoBulkAll spare + 1
  | .agg parts => uptoBulkAll parts + 1
  | .iface _ d => uptoBulk d + 1
  | .map entries => uptoBulkEntries entries + 1
  | .held _ => 1
def uptoBulkAll {H : Type} : List (DataW H) → Nat
  | [] => 0
  | d :: r => uptoBulk d + uptoBulkAll r
def uptoBulkEntries {H : Type} : List (Lit × DataW H) → Nat
  | [] => 0
  | x :: r => uptoBulkEntry x + uptoBulkEntries r
def uptoBulkEntry {H : Type} : Lit × DataW H → Nat
  | (.string bytes, d) => bytes.length + uptoBulk d + 1
  | (_, d) => uptoBulk d + 1
 end
def uptoSmall : (H : Type) → List (DataW H) → Bool := fun _ ds => decide (uptoBulkAll ds ≤ 1048576)
def OpenSpec.upto (s : _root_.Go.ChangeSpec) : _root_.Go.OpenSpec := { _root_.Go.OpenSpec.ofChange s with cond := some uptoSmall }

/-- 'scullerylaw.LogScans', WHERE WHAT IT READS IS OF BULK AT MOST 1048576: true; the input reads as it did. -/
def logScansUptoRow : OpenClaim := { program := "ytoejhgbndehaiaa", sum := "50aad5386227fc2e244dbd2abad90f32b64643c931a1441bd410e5280b035194", func := "scullery/scullerylaw.LogScans", spec := "logScans", inPlace := ["internal/bytealg.IndexByteString", "internal/bytealg.IndexString"], unfollowed := true, recurses := true, named := ["internal/bytealg.MaxLen"], apart := false, narrowed := true }
def LogScansUptoSaid : Prop := logScansUptoRow.holds Try.pinned (OpenSpec.upto logScansSpec)

/-- 'scullerylaw.AliasTypes', WHERE WHAT IT READS IS OF BULK AT MOST 1048576: true; the input reads as it did. -/
def aliasTypesUptoRow : OpenClaim := { program := "ytoejhgbndehaiaa", sum := "50aad5386227fc2e244dbd2abad90f32b64643c931a1441bd410e5280b035194", func := "scullery/scullerylaw.AliasTypes", spec := "aliasTypes", inPlace := ["internal/bytealg.abigen_runtime_cmpstring"], unfollowed := true, recurses := true, loops := true, apart := false, narrowed := true }
def AliasTypesUptoSaid : Prop := aliasTypesUptoRow.holds Try.pinned (OpenSpec.upto aliasTypesSpec)

/-- 'scullerylaw.SignFaces', WHERE WHAT IT READS IS OF BULK AT MOST 1048576: true; the input reads as it did. -/
def signFacesUptoRow : OpenClaim := { program := "ytoejhgbndehaiaa", sum := "50aad5386227fc2e244dbd2abad90f32b64643c931a1441bd410e5280b035194", func := "scullery/scullerylaw.SignFaces", spec := "signFaces", inPlace := ["internal/bytealg.abigen_runtime_cmpstring"], unfollowed := true, recurses := true, loops := true, apart := false, narrowed := true }
def SignFacesUptoSaid : Prop := signFacesUptoRow.holds Try.pinned (OpenSpec.upto signFacesSpec)

end Rows
end Go.Proofs.Ytoejhgbndehaiaa
