/-
  DERIVED. GIVEN WITH THE SEED: THE CARDS: each row of YtafhepilcmimlaaGreatDoorRows.lean that lists a variable, with what it lists TIED to the program's text (the seventh form; the later family's looks); each row that meets fmt, with fmt's text TOLD by the authors' own Lean function (tested against real Go, not proved from fmt's source: count such statements apart). THE CARD IS WHAT COUNTS. Prove the row's statement (the work); the ties are given (YtafhepilcmimlaaGreatDoorTie.lean); close each card by the builder's one call (the guide's Derived/Test/ToyasCard.lean, 'card_holds'). Laid BY PROGRAM, IN A SANDBOX (cutbox-door.mjs). By AI agents, Wed Nov 11 2026. No macro, syntax, notation, axiom, sorry.
-/
import Derived.Test.YtafhepilcmimlaaGreatDoorRows
import GoSem.ClaimSeven
namespace Go.Proofs.YtafhepilcmimlaaGreatDoor
namespace Rows

/-- THE TIED CARD OF 'scullerylaw.TreeReads'. -/
def treeReadsCard : Claim7 := { stood := { row := treeReadsRow, standIns := [], harness := (true, "ae1148ba146db0679089542831df3cb57097d7e782a9e61125c469ceb79fd289"), looks := true }, kinds := [], alts := [], laidByText := true, laidKinds := [.data, .data, .data, .data, .sentinel, .sentinel, .pinned], laidTests := true, laidLooks := .later }
def TreeReadsCardSaid : Prop := Claim7.holds Tryz.pinned (.plain (OpenSpec.ofChange treeReadsSpec)) treeReadsCard

/-- THE TIED CARD OF 'scullerykeep.TreesBack'. -/
def treesBackCard : Claim7 := { stood := { row := treesBackRow, standIns := [], harness := (true, "ae1148ba146db0679089542831df3cb57097d7e782a9e61125c469ceb79fd289"), looks := true }, kinds := [], alts := [], laidByText := true, laidKinds := [.data, .data, .data, .data, .sentinel, .sentinel, .data, .pinned], laidTests := true, laidLooks := .later }
def TreesBackCardSaid : Prop := Claim7.holds Tryz.pinned (.plain (OpenSpec.ofChange treesBackSpec)) treesBackCard

/-- THE TIED CARD OF 'scullerykeep.TreesBad'. -/
def treesBadCard : Claim7 := { stood := { row := treesBadRow, standIns := [], harness := (true, "ae1148ba146db0679089542831df3cb57097d7e782a9e61125c469ceb79fd289"), looks := true }, kinds := [], alts := [], laidByText := true, laidKinds := [.data, .data, .data, .data, .sentinel, .sentinel, .pinned], laidTests := true, laidLooks := .later }
def TreesBadCardSaid : Prop := Claim7.holds Tryz.pinned (.plain (OpenSpec.ofChange treesBadSpec)) treesBadCard

/-- THE SECOND FORM's CARD OF 'scullerylaw.TreeReads'. -/
def treeReadsUptoCard : Claim7 := { stood := { row := treeReadsUptoRow, standIns := [], harness := (true, "ae1148ba146db0679089542831df3cb57097d7e782a9e61125c469ceb79fd289"), looks := true }, kinds := [], alts := [], laidByText := true, laidKinds := [.data, .data, .data, .data, .sentinel, .sentinel, .pinned], laidTests := true, laidLooks := .later }
def TreeReadsUptoCardSaid : Prop := Claim7.holds Tryz.pinned (.plain (OpenSpec.upto treeReadsSpec)) treeReadsUptoCard

/-- THE SECOND FORM's CARD OF 'scullerykeep.TreesBack'. -/
def treesBackUptoCard : Claim7 := { stood := { row := treesBackUptoRow, standIns := [], harness := (true, "ae1148ba146db0679089542831df3cb57097d7e782a9e61125c469ceb79fd289"), looks := true }, kinds := [], alts := [], laidByText := true, laidKinds := [.data, .data, .data, .data, .sentinel, .sentinel, .data, .pinned], laidTests := true, laidLooks := .later }
def TreesBackUptoCardSaid : Prop := Claim7.holds Tryz.pinned (.plain (OpenSpec.upto treesBackSpec)) treesBackUptoCard

/-- THE SECOND FORM's CARD OF 'scullerykeep.TreesBad'. -/
def treesBadUptoCard : Claim7 := { stood := { row := treesBadUptoRow, standIns := [], harness := (true, "ae1148ba146db0679089542831df3cb57097d7e782a9e61125c469ceb79fd289"), looks := true }, kinds := [], alts := [], laidByText := true, laidKinds := [.data, .data, .data, .data, .sentinel, .sentinel, .pinned], laidTests := true, laidLooks := .later }
def TreesBadUptoCardSaid : Prop := Claim7.holds Tryz.pinned (.plain (OpenSpec.upto treesBadSpec)) treesBadUptoCard
end Rows
end Go.Proofs.YtafhepilcmimlaaGreatDoor
