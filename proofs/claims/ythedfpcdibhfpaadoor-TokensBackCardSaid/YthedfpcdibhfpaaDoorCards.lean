/-
  DERIVED. GIVEN WITH THE SEED: THE CARDS: each row of YthedfpcdibhfpaaDoorRows.lean that lists a variable, with what it lists TIED to the program's text (the seventh form; the later family's looks); each row that meets fmt, with fmt's text TOLD by the authors' own Lean function (tested against real Go, not proved from fmt's source: count such statements apart). THE CARD IS WHAT COUNTS. Prove the row's statement (the work); the ties are given (YthedfpcdibhfpaaDoorTie.lean); close each card by the builder's one call (the guide's Derived/Test/ToyasCard.lean, 'card_holds'). Laid BY PROGRAM, IN A SANDBOX (cutbox-door.mjs). By AI agents, Wed Nov 11 2026. No macro, syntax, notation, axiom, sorry.
-/
import Derived.Test.YthedfpcdibhfpaaDoorRows
import GoSem.ClaimSeven
namespace Go.Proofs.YthedfpcdibhfpaaDoor
namespace Rows

/-- THE TIED CARD OF 'scullerylaw.BodyOnes'. -/
def bodyOnesCard : Claim7 := { stood := { row := bodyOnesRow, standIns := [], harness := (true, "b6b1a4825acaed5cb39d3294caf282cd9f8b27f07896ffd04c5578cd89781f4c"), looks := true }, kinds := [], alts := [], laidByText := true, laidKinds := [.data, .pinned], laidTests := true, laidLooks := .later }
def BodyOnesCardSaid : Prop := Claim7.holds Tryd.pinned (.plain (OpenSpec.ofChange bodyOnesSpec)) bodyOnesCard

/-- THE TIED CARD OF 'scullerylaw.TokenChecks'. -/
def tokenChecksCard : Claim7 := { stood := { row := tokenChecksRow, standIns := [], harness := (true, "b6b1a4825acaed5cb39d3294caf282cd9f8b27f07896ffd04c5578cd89781f4c"), looks := true }, kinds := [], alts := [], laidByText := true, laidKinds := [.data, .data, .data, .sentinel, .sentinel], laidTests := true, laidLooks := .later }
def TokenChecksCardSaid : Prop := Claim7.holds Tryd.pinned (.plain (OpenSpec.ofChange tokenChecksSpec)) tokenChecksCard

/-- THE TIED CARD OF 'scullerylaw.TokenShows'. -/
def tokenShowsCard : Claim7 := { stood := { row := tokenShowsRow, standIns := [], harness := (true, "b6b1a4825acaed5cb39d3294caf282cd9f8b27f07896ffd04c5578cd89781f4c"), looks := true }, kinds := [], alts := [], laidByText := true, laidKinds := [.data, .data, .data, .sentinel, .sentinel], laidTests := true, laidLooks := .later }
def TokenShowsCardSaid : Prop := Claim7.holds Tryd.pinned (.plain (OpenSpec.ofChange tokenShowsSpec)) tokenShowsCard

/-- THE TIED CARD OF 'scullerykeep.OrdersRight'. -/
def ordersRightCard : Claim7 := { stood := { row := ordersRightRow, standIns := [], harness := (true, "b6b1a4825acaed5cb39d3294caf282cd9f8b27f07896ffd04c5578cd89781f4c"), looks := true }, kinds := [], alts := [], laidByText := true, laidKinds := [.data], laidTests := true, laidLooks := .later }
def OrdersRightCardSaid : Prop := Claim7.holds Tryd.pinned (.plain (OpenSpec.ofChange ordersRightSpec)) ordersRightCard

/-- THE TIED CARD OF 'scullerylaw.TokenCuts'. -/
def tokenCutsCard : Claim7 := { stood := { row := tokenCutsRow, standIns := [], harness := (true, "b6b1a4825acaed5cb39d3294caf282cd9f8b27f07896ffd04c5578cd89781f4c"), looks := true }, kinds := [], alts := [], laidByText := true, laidKinds := [.data, .data, .data, .data, .sentinel, .sentinel, .pinned], laidTests := true, laidLooks := .later }
def TokenCutsCardSaid : Prop := Claim7.holds Tryd.pinned (.plain (OpenSpec.ofChange tokenCutsSpec)) tokenCutsCard

/-- THE TIED CARD OF 'scullerykeep.TokensBad'. -/
def tokensBadCard : Claim7 := { stood := { row := tokensBadRow, standIns := [], harness := (true, "b6b1a4825acaed5cb39d3294caf282cd9f8b27f07896ffd04c5578cd89781f4c"), looks := true }, kinds := [], alts := [], laidByText := true, laidKinds := [.data, .data, .data, .data, .sentinel, .sentinel, .pinned], laidTests := true, laidLooks := .later }
def TokensBadCardSaid : Prop := Claim7.holds Tryd.pinned (.plain (OpenSpec.ofChange tokensBadSpec)) tokensBadCard

/-- THE TIED CARD OF 'scullerykeep.TokensBack'. -/
def tokensBackCard : Claim7 := { stood := { row := tokensBackRow, standIns := [], harness := (true, "b6b1a4825acaed5cb39d3294caf282cd9f8b27f07896ffd04c5578cd89781f4c"), looks := true }, kinds := [], alts := [], laidByText := true, laidKinds := [.data, .data, .data, .data, .sentinel, .sentinel, .pinned], laidTests := true, laidLooks := .later }
def TokensBackCardSaid : Prop := Claim7.holds Tryd.pinned (.plain (OpenSpec.ofChange tokensBackSpec)) tokensBackCard

/-- THE SECOND FORM's CARD OF 'scullerylaw.BodyOnes'. -/
def bodyOnesUptoCard : Claim7 := { stood := { row := bodyOnesUptoRow, standIns := [], harness := (true, "b6b1a4825acaed5cb39d3294caf282cd9f8b27f07896ffd04c5578cd89781f4c"), looks := true }, kinds := [], alts := [], laidByText := true, laidKinds := [.data, .pinned], laidTests := true, laidLooks := .later }
def BodyOnesUptoCardSaid : Prop := Claim7.holds Tryd.pinned (.plain (OpenSpec.upto bodyOnesSpec)) bodyOnesUptoCard

/-- THE SECOND FORM's CARD OF 'scullerylaw.TokenChecks'. -/
def tokenChecksUptoCard : Claim7 := { stood := { row := tokenChecksUptoRow, standIns := [], harness := (true, "b6b1a4825acaed5cb39d3294caf282cd9f8b27f07896ffd04c5578cd89781f4c"), looks := true }, kinds := [], alts := [], laidByText := true, laidKinds := [.data, .data, .data, .sentinel, .sentinel], laidTests := true, laidLooks := .later }
def TokenChecksUptoCardSaid : Prop := Claim7.holds Tryd.pinned (.plain (OpenSpec.upto tokenChecksSpec)) tokenChecksUptoCard

/-- THE SECOND FORM's CARD OF 'scullerylaw.TokenShows'. -/
def tokenShowsUptoCard : Claim7 := { stood := { row := tokenShowsUptoRow, standIns := [], harness := (true, "b6b1a4825acaed5cb39d3294caf282cd9f8b27f07896ffd04c5578cd89781f4c"), looks := true }, kinds := [], alts := [], laidByText := true, laidKinds := [.data, .data, .data, .sentinel, .sentinel], laidTests := true, laidLooks := .later }
def TokenShowsUptoCardSaid : Prop := Claim7.holds Tryd.pinned (.plain (OpenSpec.upto tokenShowsSpec)) tokenShowsUptoCard

/-- THE SECOND FORM's CARD OF 'scullerykeep.OrdersRight'. -/
def ordersRightUptoCard : Claim7 := { stood := { row := ordersRightUptoRow, standIns := [], harness := (true, "b6b1a4825acaed5cb39d3294caf282cd9f8b27f07896ffd04c5578cd89781f4c"), looks := true }, kinds := [], alts := [], laidByText := true, laidKinds := [.data], laidTests := true, laidLooks := .later }
def OrdersRightUptoCardSaid : Prop := Claim7.holds Tryd.pinned (.plain (OpenSpec.upto ordersRightSpec)) ordersRightUptoCard

/-- THE SECOND FORM's CARD OF 'scullerylaw.TokenCuts'. -/
def tokenCutsUptoCard : Claim7 := { stood := { row := tokenCutsUptoRow, standIns := [], harness := (true, "b6b1a4825acaed5cb39d3294caf282cd9f8b27f07896ffd04c5578cd89781f4c"), looks := true }, kinds := [], alts := [], laidByText := true, laidKinds := [.data, .data, .data, .data, .sentinel, .sentinel, .pinned], laidTests := true, laidLooks := .later }
def TokenCutsUptoCardSaid : Prop := Claim7.holds Tryd.pinned (.plain (OpenSpec.upto tokenCutsSpec)) tokenCutsUptoCard

/-- THE SECOND FORM's CARD OF 'scullerykeep.TokensBad'. -/
def tokensBadUptoCard : Claim7 := { stood := { row := tokensBadUptoRow, standIns := [], harness := (true, "b6b1a4825acaed5cb39d3294caf282cd9f8b27f07896ffd04c5578cd89781f4c"), looks := true }, kinds := [], alts := [], laidByText := true, laidKinds := [.data, .data, .data, .data, .sentinel, .sentinel, .pinned], laidTests := true, laidLooks := .later }
def TokensBadUptoCardSaid : Prop := Claim7.holds Tryd.pinned (.plain (OpenSpec.upto tokensBadSpec)) tokensBadUptoCard

/-- THE SECOND FORM's CARD OF 'scullerykeep.TokensBack'. -/
def tokensBackUptoCard : Claim7 := { stood := { row := tokensBackUptoRow, standIns := [], harness := (true, "b6b1a4825acaed5cb39d3294caf282cd9f8b27f07896ffd04c5578cd89781f4c"), looks := true }, kinds := [], alts := [], laidByText := true, laidKinds := [.data, .data, .data, .data, .sentinel, .sentinel, .pinned], laidTests := true, laidLooks := .later }
def TokensBackUptoCardSaid : Prop := Claim7.holds Tryd.pinned (.plain (OpenSpec.upto tokensBackSpec)) tokensBackUptoCard
end Rows
end Go.Proofs.YthedfpcdibhfpaaDoor
