/-
  NARROWER THAN 'FOR EVERY INPUT', by the rows' own cells (each row's printed sentence says how): AliasSolves: loops · SignOnes: loops · AliasTypes: loops · SignFaces: loops.
  DERIVED. THE GIVEN ROWS OF THIS SEAT. 9 by the template 'for every input the law returns true; each argument reads behind the call as it read before'; 0 by the template 'total and deterministic' (their statements: YtejiaimcgmpliaaTotals.lean).
  GIVEN WITH THE SEED: the statements are not yours to turn. If you find one false, say at which input.
  Laid BY PROGRAM, IN A SANDBOX (cutbox-rows.mjs): the forced cells as the released guide's own fill.sh prints them over the translation c0128aa771261cba… (all of the seat's roots in one cut). By AI agents, Wed Nov 11 2026. No macro, syntax, notation, axiom, sorry.
-/
import Derived.Test.YtejiaimcgmpliaaChecked
import GoSem.Claim
import GoSem.ClaimJoined
import GoSem.ClaimMapViews
import Derived.JoinedTies
import Derived.KernelRfl
namespace Go.Proofs.Ytejiaimcgmpliaa
/- THE CELL 'sum', in the pinned program and in every row, IS THE sha256 OF THE DUMP (.gsa) THAT YtejiaimcgmpliaaProg.lean LOADS. Nothing in Lean hashes anything: it is a label: what it is worth is what the hold of that sum in a sandbox is worth. -/
noncomputable def Try.pinned : Pinned := { name := "ytejiaimcgmpliaa", sum := "c0128aa771261cba368e02f2781762e614ae6a2d226084acdb4ea9a54fda112b", checked := Try.checked }
namespace Rows
def none {H : Type} : Left H := { results := [], args := [] }

/-- 'scullerylaw.GraphOrders': WHATEVER THE INPUT: true; the input reads as it did. -/
def graphOrdersSpec : ChangeSpec := { name := "graphOrders", fn := fun _ => fun
  | [d] => { results := [.lit (.bool true)], args := [d] }
  | _ => none }
def graphOrdersRow : OpenClaim := { program := "ytejiaimcgmpliaa", sum := "c0128aa771261cba368e02f2781762e614ae6a2d226084acdb4ea9a54fda112b", func := "scullery/scullerylaw.GraphOrders", spec := "graphOrders", inPlace := ["internal/bytealg.abigen_runtime_cmpstring"], unfollowed := true, recurses := true, apart := false }
def GraphOrdersSaid : Prop := graphOrdersRow.holds Try.pinned (OpenSpec.ofChange graphOrdersSpec)

/-- ITS FALSE NEIGHBOUR: 'it returns false'. Refute it at one input. -/
def graphOrdersWrong : ChangeSpec := { name := "graphOrders", fn := fun _ => fun
  | [d] => { results := [.lit (.bool false)], args := [d] }
  | _ => none }
def GraphOrdersWrongFalsely : Prop := graphOrdersRow.holds Try.pinned (OpenSpec.ofChange graphOrdersWrong)

/-- 'scullerylaw.AliasSolves': WHATEVER THE INPUT: true; the input reads as it did. -/
def aliasSolvesSpec : ChangeSpec := { name := "aliasSolves", fn := fun _ => fun
  | [d1, d2, d3, d4] => { results := [.lit (.bool true)], args := [d1, d2, d3, d4] }
  | _ => none }
def aliasSolvesRow : OpenClaim := { program := "ytejiaimcgmpliaa", sum := "c0128aa771261cba368e02f2781762e614ae6a2d226084acdb4ea9a54fda112b", func := "scullery/scullerylaw.AliasSolves", spec := "aliasSolves", inPlace := ["internal/bytealg.abigen_runtime_cmpstring"], unfollowed := true, recurses := true, loops := true, apart := false }
def AliasSolvesSaid : Prop := aliasSolvesRow.holds Try.pinned (OpenSpec.ofChange aliasSolvesSpec)

/-- ITS FALSE NEIGHBOUR: 'it returns false'. Refute it at one input. -/
def aliasSolvesWrong : ChangeSpec := { name := "aliasSolves", fn := fun _ => fun
  | [d1, d2, d3, d4] => { results := [.lit (.bool false)], args := [d1, d2, d3, d4] }
  | _ => none }
def AliasSolvesWrongFalsely : Prop := aliasSolvesRow.holds Try.pinned (OpenSpec.ofChange aliasSolvesWrong)

/-- 'scullerylaw.SignOnes': WHATEVER THE INPUT: true; the input reads as it did. -/
def signOnesSpec : ChangeSpec := { name := "signOnes", fn := fun _ => fun
  | [d1, d2, d3] => { results := [.lit (.bool true)], args := [d1, d2, d3] }
  | _ => none }
def signOnesRow : OpenClaim := { program := "ytejiaimcgmpliaa", sum := "c0128aa771261cba368e02f2781762e614ae6a2d226084acdb4ea9a54fda112b", func := "scullery/scullerylaw.SignOnes", spec := "signOnes", inPlace := ["internal/bytealg.abigen_runtime_cmpstring"], unfollowed := true, recurses := true, loops := true, apart := false }
def SignOnesSaid : Prop := signOnesRow.holds Try.pinned (OpenSpec.ofChange signOnesSpec)

/-- ITS FALSE NEIGHBOUR: 'it returns false'. Refute it at one input. -/
def signOnesWrong : ChangeSpec := { name := "signOnes", fn := fun _ => fun
  | [d1, d2, d3] => { results := [.lit (.bool false)], args := [d1, d2, d3] }
  | _ => none }
def SignOnesWrongFalsely : Prop := signOnesRow.holds Try.pinned (OpenSpec.ofChange signOnesWrong)

/-- 'scullerykeep.KindsBack': WHATEVER THE INPUT: true; the input reads as it did. -/
def kindsBackSpec : ChangeSpec := { name := "kindsBack", fn := fun _ => fun
  | [d] => { results := [.lit (.bool true)], args := [d] }
  | _ => none }
def kindsBackRow : OpenClaim := { program := "ytejiaimcgmpliaa", sum := "c0128aa771261cba368e02f2781762e614ae6a2d226084acdb4ea9a54fda112b", func := "scullery/scullerykeep.KindsBack", spec := "kindsBack", inPlace := ["internal/abi.NoEscape", "internal/bytealg.MakeNoZero", "internal/bytealg.IndexByteString", "internal/bytealg.IndexString"], named := ["internal/bytealg.MaxLen"], apart := false }
def KindsBackSaid : Prop := kindsBackRow.holds Try.pinned (OpenSpec.ofChange kindsBackSpec)

/-- ITS FALSE NEIGHBOUR: 'it returns false'. Refute it at one input. -/
def kindsBackWrong : ChangeSpec := { name := "kindsBack", fn := fun _ => fun
  | [d] => { results := [.lit (.bool false)], args := [d] }
  | _ => none }
def KindsBackWrongFalsely : Prop := kindsBackRow.holds Try.pinned (OpenSpec.ofChange kindsBackWrong)

/-- 'scullerylaw.RecordDecodes': WHATEVER THE INPUT: true; the input reads as it did. -/
def recordDecodesSpec : ChangeSpec := { name := "recordDecodes", fn := fun _ => fun
  | [d] => { results := [.lit (.bool true)], args := [d] }
  | _ => none }
def recordDecodesRow : OpenClaim := { program := "ytejiaimcgmpliaa", sum := "c0128aa771261cba368e02f2781762e614ae6a2d226084acdb4ea9a54fda112b", func := "scullery/scullerylaw.RecordDecodes", spec := "recordDecodes", inPlace := ["internal/bytealg.IndexByteString", "internal/bytealg.IndexString"], unfollowed := true, recurses := true, named := ["internal/bytealg.MaxLen"], apart := false }
def RecordDecodesSaid : Prop := recordDecodesRow.holds Try.pinned (OpenSpec.ofChange recordDecodesSpec)

/-- ITS FALSE NEIGHBOUR: 'it returns false'. Refute it at one input. -/
def recordDecodesWrong : ChangeSpec := { name := "recordDecodes", fn := fun _ => fun
  | [d] => { results := [.lit (.bool false)], args := [d] }
  | _ => none }
def RecordDecodesWrongFalsely : Prop := recordDecodesRow.holds Try.pinned (OpenSpec.ofChange recordDecodesWrong)

/-- 'scullerylaw.LogScans': WHATEVER THE INPUT: true; the input reads as it did. -/
def logScansSpec : ChangeSpec := { name := "logScans", fn := fun _ => fun
  | [d] => { results := [.lit (.bool true)], args := [d] }
  | _ => none }
def logScansRow : OpenClaim := { program := "ytejiaimcgmpliaa", sum := "c0128aa771261cba368e02f2781762e614ae6a2d226084acdb4ea9a54fda112b", func := "scullery/scullerylaw.LogScans", spec := "logScans", inPlace := ["internal/bytealg.IndexByteString", "internal/bytealg.IndexString"], unfollowed := true, recurses := true, named := ["internal/bytealg.MaxLen"], apart := false }
def LogScansSaid : Prop := logScansRow.holds Try.pinned (OpenSpec.ofChange logScansSpec)

/-- ITS FALSE NEIGHBOUR: 'it returns false'. Refute it at one input. -/
def logScansWrong : ChangeSpec := { name := "logScans", fn := fun _ => fun
  | [d] => { results := [.lit (.bool false)], args := [d] }
  | _ => none }
def LogScansWrongFalsely : Prop := logScansRow.holds Try.pinned (OpenSpec.ofChange logScansWrong)

/-- 'scullerykeep.RecordsOnce': WHATEVER THE INPUT: true; the input reads as it did. -/
def recordsOnceSpec : ChangeSpec := { name := "recordsOnce", fn := fun _ => fun
  | [d] => { results := [.lit (.bool true)], args := [d] }
  | _ => none }
def recordsOnceRow : OpenClaim := { program := "ytejiaimcgmpliaa", sum := "c0128aa771261cba368e02f2781762e614ae6a2d226084acdb4ea9a54fda112b", func := "scullery/scullerykeep.RecordsOnce", spec := "recordsOnce", inPlace := ["internal/bytealg.IndexByteString", "internal/bytealg.IndexString"], unfollowed := true, recurses := true, named := ["internal/bytealg.MaxLen"], apart := false }
def RecordsOnceSaid : Prop := recordsOnceRow.holds Try.pinned (OpenSpec.ofChange recordsOnceSpec)

/-- ITS FALSE NEIGHBOUR: 'it returns false'. Refute it at one input. -/
def recordsOnceWrong : ChangeSpec := { name := "recordsOnce", fn := fun _ => fun
  | [d] => { results := [.lit (.bool false)], args := [d] }
  | _ => none }
def RecordsOnceWrongFalsely : Prop := recordsOnceRow.holds Try.pinned (OpenSpec.ofChange recordsOnceWrong)

/-- 'scullerylaw.AliasTypes': WHATEVER THE INPUT: true; the input reads as it did. -/
def aliasTypesSpec : ChangeSpec := { name := "aliasTypes", fn := fun _ => fun
  | [d1, d2] => { results := [.lit (.bool true)], args := [d1, d2] }
  | _ => none }
def aliasTypesRow : OpenClaim := { program := "ytejiaimcgmpliaa", sum := "c0128aa771261cba368e02f2781762e614ae6a2d226084acdb4ea9a54fda112b", func := "scullery/scullerylaw.AliasTypes", spec := "aliasTypes", inPlace := ["internal/bytealg.abigen_runtime_cmpstring"], unfollowed := true, recurses := true, loops := true, apart := false }
def AliasTypesSaid : Prop := aliasTypesRow.holds Try.pinned (OpenSpec.ofChange aliasTypesSpec)

/-- ITS FALSE NEIGHBOUR: 'it returns false'. Refute it at one input. -/
def aliasTypesWrong : ChangeSpec := { name := "aliasTypes", fn := fun _ => fun
  | [d1, d2] => { results := [.lit (.bool false)], args := [d1, d2] }
  | _ => none }
def AliasTypesWrongFalsely : Prop := aliasTypesRow.holds Try.pinned (OpenSpec.ofChange aliasTypesWrong)

/-- 'scullerylaw.SignFaces': WHATEVER THE INPUT: true; the input reads as it did. -/
def signFacesSpec : ChangeSpec := { name := "signFaces", fn := fun _ => fun
  | [d1, d2] => { results := [.lit (.bool true)], args := [d1, d2] }
  | _ => none }
def signFacesRow : OpenClaim := { program := "ytejiaimcgmpliaa", sum := "c0128aa771261cba368e02f2781762e614ae6a2d226084acdb4ea9a54fda112b", func := "scullery/scullerylaw.SignFaces", spec := "signFaces", inPlace := ["internal/bytealg.abigen_runtime_cmpstring"], unfollowed := true, recurses := true, loops := true, apart := false }
def SignFacesSaid : Prop := signFacesRow.holds Try.pinned (OpenSpec.ofChange signFacesSpec)

/-- ITS FALSE NEIGHBOUR: 'it returns false'. Refute it at one input. -/
def signFacesWrong : ChangeSpec := { name := "signFaces", fn := fun _ => fun
  | [d1, d2] => { results := [.lit (.bool false)], args := [d1, d2] }
  | _ => none }
def SignFacesWrongFalsely : Prop := signFacesRow.holds Try.pinned (OpenSpec.ofChange signFacesWrong)

/- THE SECOND FORM. 'bulk': how many values and letters a reading holds, each counted each time it is reached (what is shared counts as often as it is met; a slice's spare places count too). A statement '..UptoSaid' is the law's where the arguments, and the package variables that the reading takes, are together of bulk at most 1048576: NARROWER than '..Said'. Prove '..Said' where nothing that the law and all that it calls make is longer than what came in: it says more and counts as full. Else prove '..UptoSaid'. A law counts once. -/
mutual
def uptoBulk {H : Type} : DataW H → Nat
  | .lit (.string bytes) => bytes.length + 1
  | .lit _ => 1
  | .nil => 1
  | .ptr d => uptoBulk d + 1
  | .slice elems spare => uptoBulkAll elems + uptoBulkAll spare + 1
  | .agg parts => uptoBulkAll parts + 1
  | .iface _ d => uptoBulk d + 1
  | .map entries => uptoBulkEntries entries + 1
  | .held _ => 1
def uptoBulkAll {H : Type} : List (DataW H) → Nat
  | [] => 0
  | d :: r => uptoBulk d + uptoBulkAll r
def uptoBulkEntries {H : Type} : List (Lit × DataW H) → Nat
  | [] => 0
  | x :: r => uptoBulkEntry x + uptoBulkEntries r
def uptoBulkEntry {H : Type} : Lit × DataW H → Nat
  | (.string bytes, d) => bytes.length + uptoBulk d + 1
  | (_, d) => uptoBulk d + 1
 end
def uptoSmall : (H : Type) → List (DataW H) → Bool := fun _ ds => decide (uptoBulkAll ds ≤ 1048576)
def OpenSpec.upto (s : _root_.Go.ChangeSpec) : _root_.Go.OpenSpec := { _root_.Go.OpenSpec.ofChange s with cond := some uptoSmall }

/-- 'scullerylaw.GraphOrders', WHERE WHAT IT READS IS OF BULK AT MOST 1048576: true; the input reads as it did. -/
def graphOrdersUptoRow : OpenClaim := { program := "ytejiaimcgmpliaa", sum := "c0128aa771261cba368e02f2781762e614ae6a2d226084acdb4ea9a54fda112b", func := "scullery/scullerylaw.GraphOrders", spec := "graphOrders", inPlace := ["internal/bytealg.abigen_runtime_cmpstring"], unfollowed := true, recurses := true, apart := false, narrowed := true }
def GraphOrdersUptoSaid : Prop := graphOrdersUptoRow.holds Try.pinned (OpenSpec.upto graphOrdersSpec)

/-- 'scullerylaw.AliasSolves', WHERE WHAT IT READS IS OF BULK AT MOST 1048576: true; the input reads as it did. -/
def aliasSolvesUptoRow : OpenClaim := { program := "ytejiaimcgmpliaa", sum := "c0128aa771261cba368e02f2781762e614ae6a2d226084acdb4ea9a54fda112b", func := "scullery/scullerylaw.AliasSolves", spec := "aliasSolves", inPlace := ["internal/bytealg.abigen_runtime_cmpstring"], unfollowed := true, recurses := true, loops := true, apart := false, narrowed := true }
def AliasSolvesUptoSaid : Prop := aliasSolvesUptoRow.holds Try.pinned (OpenSpec.upto aliasSolvesSpec)

/-- 'scullerylaw.SignOnes', WHERE WHAT IT READS IS OF BULK AT MOST 1048576: true; the input reads as it did. -/
def signOnesUptoRow : OpenClaim := { program := "ytejiaimcgmpliaa", sum := "c0128aa771261cba368e02f2781762e614ae6a2d226084acdb4ea9a54fda112b", func := "scullery/scullerylaw.SignOnes", spec := "signOnes", inPlace := ["internal/bytealg.abigen_runtime_cmpstring"], unfollowed := true, recurses := true, loops := true, apart := false, narrowed := true }
def SignOnesUptoSaid : Prop := signOnesUptoRow.holds Try.pinned (OpenSpec.upto signOnesSpec)

/-- 'scullerykeep.KindsBack', WHERE WHAT IT READS IS OF BULK AT MOST 1048576: true; the input reads as it did. -/
def kindsBackUptoRow : OpenClaim := { program := "ytejiaimcgmpliaa", sum := "c0128aa771261cba368e02f2781762e614ae6a2d226084acdb4ea9a54fda112b", func := "scullery/scullerykeep.KindsBack", spec := "kindsBack", inPlace := ["internal/abi.NoEscape", "internal/bytealg.MakeNoZero", "internal/bytealg.IndexByteString", "internal/bytealg.IndexString"], named := ["internal/bytealg.MaxLen"], apart := false, narrowed := true }
def KindsBackUptoSaid : Prop := kindsBackUptoRow.holds Try.pinned (OpenSpec.upto kindsBackSpec)

/-- 'scullerylaw.RecordDecodes', WHERE WHAT IT READS IS OF BULK AT MOST 1048576: true; the input reads as it did. -/
def recordDecodesUptoRow : OpenClaim := { program := "ytejiaimcgmpliaa", sum := "c0128aa771261cba368e02f2781762e614ae6a2d226084acdb4ea9a54fda112b", func := "scullery/scullerylaw.RecordDecodes", spec := "recordDecodes", inPlace := ["internal/bytealg.IndexByteString", "internal/bytealg.IndexString"], unfollowed := true, recurses := true, named := ["internal/bytealg.MaxLen"], apart := false, narrowed := true }
def RecordDecodesUptoSaid : Prop := recordDecodesUptoRow.holds Try.pinned (OpenSpec.upto recordDecodesSpec)

/-- 'scullerylaw.LogScans', WHERE WHAT IT READS IS OF BULK AT MOST 1048576: true; the input reads as it did. -/
def logScansUptoRow : OpenClaim := { program := "ytejiaimcgmpliaa", sum := "c0128aa771261cba368e02f2781762e614ae6a2d226084acdb4ea9a54fda112b", func := "scullery/scullerylaw.LogScans", spec := "logScans", inPlace := ["internal/bytealg.IndexByteString", "internal/bytealg.IndexString"], unfollowed := true, recurses := true, named := ["internal/bytealg.MaxLen"], apart := false, narrowed := true }
def LogScansUptoSaid : Prop := logScansUptoRow.holds Try.pinned (OpenSpec.upto logScansSpec)

/-- 'scullerykeep.RecordsOnce', WHERE WHAT IT READS IS OF BULK AT MOST 1048576: true; the input reads as it did. -/
def recordsOnceUptoRow : OpenClaim := { program := "ytejiaimcgmpliaa", sum := "c0128aa771261cba368e02f2781762e614ae6a2d226084acdb4ea9a54fda112b", func := "scullery/scullerykeep.RecordsOnce", spec := "recordsOnce", inPlace := ["internal/bytealg.IndexByteString", "internal/bytealg.IndexString"], unfollowed := true, recurses := true, named := ["internal/bytealg.MaxLen"], apart := false, narrowed := true }
def RecordsOnceUptoSaid : Prop := recordsOnceUptoRow.holds Try.pinned (OpenSpec.upto recordsOnceSpec)

/-- 'scullerylaw.AliasTypes', WHERE WHAT IT READS IS OF BULK AT MOST 1048576: true; the input reads as it did. -/
def aliasTypesUptoRow : OpenClaim := { program := "ytejiaimcgmpliaa", sum := "c0128aa771261cba368e02f2781762e614ae6a2d226084acdb4ea9a54fda112b", func := "scullery/scullerylaw.AliasTypes", spec := "aliasTypes", inPlace := ["internal/bytealg.abigen_runtime_cmpstring"], unfollowed := true, recurses := true, loops := true, apart := false, narrowed := true }
def AliasTypesUptoSaid : Prop := aliasTypesUptoRow.holds Try.pinned (OpenSpec.upto aliasTypesSpec)

/-- 'scullerylaw.SignFaces', WHERE WHAT IT READS IS OF BULK AT MOST 1048576: true; the input reads as it did. -/
def signFacesUptoRow : OpenClaim := { program := "ytejiaimcgmpliaa", sum := "c0128aa771261cba368e02f2781762e614ae6a2d226084acdb4ea9a54fda112b", func := "scullery/scullerylaw.SignFaces", spec := "signFaces", inPlace := ["internal/bytealg.abigen_runtime_cmpstring"], unfollowed := true, recurses := true, loops := true, apart := false, narrowed := true }
def SignFacesUptoSaid : Prop := signFacesUptoRow.holds Try.pinned (OpenSpec.upto signFacesSpec)

end Rows
end Go.Proofs.Ytejiaimcgmpliaa
