/-
  DERIVED. GIVEN WITH THE SEED: THE CARDS: each row of YtjaladhdnbhliaaGreatDoorRows.lean that lists a variable, with what it lists TIED to the program's text (the seventh form; the later family's looks); each row that meets fmt, with fmt's text TOLD by the authors' own Lean function (tested against real Go, not proved from fmt's source: count such statements apart). THE CARD IS WHAT COUNTS. Prove the row's statement (the work); the ties are given (YtjaladhdnbhliaaGreatDoorTie.lean); close each card by the builder's one call (the guide's Derived/Test/ToyasCard.lean, 'card_holds'). Laid BY PROGRAM, IN A SANDBOX (cutbox-door.mjs). By AI agents, Wed Nov 11 2026. No macro, syntax, notation, axiom, sorry.
-/
import Derived.Test.YtjaladhdnbhliaaGreatDoorRows
import GoSem.ClaimSeven
namespace Go.Proofs.YtjaladhdnbhliaaGreatDoor
namespace Rows

/-- THE TIED CARD OF 'scullerykeep.TreesBack'. -/
def treesBackCard : Claim7 := { stood := { row := treesBackRow, standIns := [], harness := (true, "590f9b174fb5fdd0d1c39e82d80e6bbdf2f633f6d11b9bedd79e949bf5b5192c"), looks := true }, kinds := [], alts := [], laidByText := true, laidKinds := [.data, .data, .data, .data, .sentinel, .sentinel, .data, .pinned], laidTests := true, laidLooks := .later }
def TreesBackCardSaid : Prop := Claim7.holds Tryz.pinned (.plain (OpenSpec.ofChange treesBackSpec)) treesBackCard

/-- THE TIED CARD OF 'scullerylaw.ModuleUses'. -/
def moduleUsesCard : Claim7 := { stood := { row := moduleUsesRow, standIns := [], harness := (true, "590f9b174fb5fdd0d1c39e82d80e6bbdf2f633f6d11b9bedd79e949bf5b5192c"), looks := true }, kinds := [], alts := [], laidByText := true, laidKinds := [.data, .data, .data, .data, .sentinel, .sentinel, .pinned], laidTests := true, laidLooks := .later }
def ModuleUsesCardSaid : Prop := Claim7.holds Tryz.pinned (.plain (OpenSpec.ofChange moduleUsesSpec)) moduleUsesCard

/-- THE TIED CARD OF 'scullerylaw.ModuleChecks'. -/
def moduleChecksCard : Claim7 := { stood := { row := moduleChecksRow, standIns := [], harness := (true, "590f9b174fb5fdd0d1c39e82d80e6bbdf2f633f6d11b9bedd79e949bf5b5192c"), looks := true }, kinds := [], alts := [], laidByText := true, laidKinds := [.data, .data, .data, .data, .sentinel, .sentinel, .pinned], laidTests := true, laidLooks := .later }
def ModuleChecksCardSaid : Prop := Claim7.holds Tryz.pinned (.plain (OpenSpec.ofChange moduleChecksSpec)) moduleChecksCard

/-- THE TIED CARD OF 'scullerykeep.LiteralsFit'. -/
def literalsFitCard : Claim7 := { stood := { row := literalsFitRow, standIns := [], harness := (true, "590f9b174fb5fdd0d1c39e82d80e6bbdf2f633f6d11b9bedd79e949bf5b5192c"), looks := true }, kinds := [], alts := [], laidByText := true, laidKinds := [.data, .data, .data, .data, .sentinel, .sentinel, .pinned], laidTests := true, laidLooks := .later }
def LiteralsFitCardSaid : Prop := Claim7.holds Tryz.pinned (.plain (OpenSpec.ofChange literalsFitSpec)) literalsFitCard

/-- THE TIED CARD OF 'scullerykeep.VarsFit'. -/
def varsFitCard : Claim7 := { stood := { row := varsFitRow, standIns := [], harness := (true, "590f9b174fb5fdd0d1c39e82d80e6bbdf2f633f6d11b9bedd79e949bf5b5192c"), looks := true }, kinds := [], alts := [], laidByText := true, laidKinds := [.data, .data, .data, .data, .sentinel, .sentinel, .pinned], laidTests := true, laidLooks := .later }
def VarsFitCardSaid : Prop := Claim7.holds Tryz.pinned (.plain (OpenSpec.ofChange varsFitSpec)) varsFitCard

/-- THE TIED CARD OF 'scullerykeep.AliasesSame'. -/
def aliasesSameCard : Claim7 := { stood := { row := aliasesSameRow, standIns := [], harness := (true, "590f9b174fb5fdd0d1c39e82d80e6bbdf2f633f6d11b9bedd79e949bf5b5192c"), looks := true }, kinds := [], alts := [], laidByText := true, laidKinds := [.data, .data, .data, .data, .sentinel, .sentinel, .pinned], laidTests := true, laidLooks := .later }
def AliasesSameCardSaid : Prop := Claim7.holds Tryz.pinned (.plain (OpenSpec.ofChange aliasesSameSpec)) aliasesSameCard

/-- THE TIED CARD OF 'scullerykeep.FacesGood'. -/
def facesGoodCard : Claim7 := { stood := { row := facesGoodRow, standIns := [], harness := (true, "590f9b174fb5fdd0d1c39e82d80e6bbdf2f633f6d11b9bedd79e949bf5b5192c"), looks := true }, kinds := [], alts := [], laidByText := true, laidKinds := [.data, .data, .data, .data, .sentinel, .sentinel, .data, .pinned], laidTests := true, laidLooks := .later }
def FacesGoodCardSaid : Prop := Claim7.holds Tryz.pinned (.plain (OpenSpec.ofChange facesGoodSpec)) facesGoodCard

/-- THE SECOND FORM's CARD OF 'scullerykeep.TreesBack'. -/
def treesBackUptoCard : Claim7 := { stood := { row := treesBackUptoRow, standIns := [], harness := (true, "590f9b174fb5fdd0d1c39e82d80e6bbdf2f633f6d11b9bedd79e949bf5b5192c"), looks := true }, kinds := [], alts := [], laidByText := true, laidKinds := [.data, .data, .data, .data, .sentinel, .sentinel, .data, .pinned], laidTests := true, laidLooks := .later }
def TreesBackUptoCardSaid : Prop := Claim7.holds Tryz.pinned (.plain (OpenSpec.upto treesBackSpec)) treesBackUptoCard

/-- THE SECOND FORM's CARD OF 'scullerylaw.ModuleUses'. -/
def moduleUsesUptoCard : Claim7 := { stood := { row := moduleUsesUptoRow, standIns := [], harness := (true, "590f9b174fb5fdd0d1c39e82d80e6bbdf2f633f6d11b9bedd79e949bf5b5192c"), looks := true }, kinds := [], alts := [], laidByText := true, laidKinds := [.data, .data, .data, .data, .sentinel, .sentinel, .pinned], laidTests := true, laidLooks := .later }
def ModuleUsesUptoCardSaid : Prop := Claim7.holds Tryz.pinned (.plain (OpenSpec.upto moduleUsesSpec)) moduleUsesUptoCard

/-- THE SECOND FORM's CARD OF 'scullerylaw.ModuleChecks'. -/
def moduleChecksUptoCard : Claim7 := { stood := { row := moduleChecksUptoRow, standIns := [], harness := (true, "590f9b174fb5fdd0d1c39e82d80e6bbdf2f633f6d11b9bedd79e949bf5b5192c"), looks := true }, kinds := [], alts := [], laidByText := true, laidKinds := [.data, .data, .data, .data, .sentinel, .sentinel, .pinned], laidTests := true, laidLooks := .later }
def ModuleChecksUptoCardSaid : Prop := Claim7.holds Tryz.pinned (.plain (OpenSpec.upto moduleChecksSpec)) moduleChecksUptoCard

/-- THE SECOND FORM's CARD OF 'scullerykeep.LiteralsFit'. -/
def literalsFitUptoCard : Claim7 := { stood := { row := literalsFitUptoRow, standIns := [], harness := (true, "590f9b174fb5fdd0d1c39e82d80e6bbdf2f633f6d11b9bedd79e949bf5b5192c"), looks := true }, kinds := [], alts := [], laidByText := true, laidKinds := [.data, .data, .data, .data, .sentinel, .sentinel, .pinned], laidTests := true, laidLooks := .later }
def LiteralsFitUptoCardSaid : Prop := Claim7.holds Tryz.pinned (.plain (OpenSpec.upto literalsFitSpec)) literalsFitUptoCard

/-- THE SECOND FORM's CARD OF 'scullerykeep.VarsFit'. -/
def varsFitUptoCard : Claim7 := { stood := { row := varsFitUptoRow, standIns := [], harness := (true, "590f9b174fb5fdd0d1c39e82d80e6bbdf2f633f6d11b9bedd79e949bf5b5192c"), looks := true }, kinds := [], alts := [], laidByText := true, laidKinds := [.data, .data, .data, .data, .sentinel, .sentinel, .pinned], laidTests := true, laidLooks := .later }
def VarsFitUptoCardSaid : Prop := Claim7.holds Tryz.pinned (.plain (OpenSpec.upto varsFitSpec)) varsFitUptoCard

/-- THE SECOND FORM's CARD OF 'scullerykeep.AliasesSame'. -/
def aliasesSameUptoCard : Claim7 := { stood := { row := aliasesSameUptoRow, standIns := [], harness := (true, "590f9b174fb5fdd0d1c39e82d80e6bbdf2f633f6d11b9bedd79e949bf5b5192c"), looks := true }, kinds := [], alts := [], laidByText := true, laidKinds := [.data, .data, .data, .data, .sentinel, .sentinel, .pinned], laidTests := true, laidLooks := .later }
def AliasesSameUptoCardSaid : Prop := Claim7.holds Tryz.pinned (.plain (OpenSpec.upto aliasesSameSpec)) aliasesSameUptoCard

/-- THE SECOND FORM's CARD OF 'scullerykeep.FacesGood'. -/
def facesGoodUptoCard : Claim7 := { stood := { row := facesGoodUptoRow, standIns := [], harness := (true, "590f9b174fb5fdd0d1c39e82d80e6bbdf2f633f6d11b9bedd79e949bf5b5192c"), looks := true }, kinds := [], alts := [], laidByText := true, laidKinds := [.data, .data, .data, .data, .sentinel, .sentinel, .data, .pinned], laidTests := true, laidLooks := .later }
def FacesGoodUptoCardSaid : Prop := Claim7.holds Tryz.pinned (.plain (OpenSpec.upto facesGoodSpec)) facesGoodUptoCard
end Rows
end Go.Proofs.YtjaladhdnbhliaaGreatDoor
