/-
  DERIVED. GIVEN WITH THE SEED: THE CARDS: each row of YtoejhgbndehaiaaDoorRows.lean that lists a variable, with what it lists TIED to the program's text (the seventh form; the later family's looks); each row that meets fmt, with fmt's text TOLD by the authors' own Lean function (tested against real Go, not proved from fmt's source: count such statements apart). THE CARD IS WHAT COUNTS. Prove the row's statement (the work); the ties are given (YtoejhgbndehaiaaDoorTie.lean); close each card by the builder's one call (the guide's Derived/Test/ToyasCard.lean, 'card_holds'). Laid BY PROGRAM, IN A SANDBOX (cutbox-door.mjs). By AI agents, Wed Nov 11 2026. No macro, syntax, notation, axiom, sorry.
-/
import Derived.Test.YtoejhgbndehaiaaDoorRows
import GoSem.ClaimSeven
namespace Go.Proofs.YtoejhgbndehaiaaDoor
namespace Rows

/-- THE TIED CARD OF 'scullerylaw.UnifyPuts'. -/
def unifyPutsCard : Claim7 := { stood := { row := unifyPutsRow, standIns := [], harness := (true, "900419d550c836b2a073931c9d304bc93a783dc8b36c11cb776fe842b706921d"), looks := true }, kinds := [], alts := [], laidByText := true, laidKinds := [.data, .pinned], laidTests := true, laidLooks := .later }
def UnifyPutsCardSaid : Prop := Claim7.holds Tryd.pinned (.plain (OpenSpec.ofChange unifyPutsSpec)) unifyPutsCard

/-- THE TIED CARD OF 'scullerylaw.UnifyAlls'. -/
def unifyAllsCard : Claim7 := { stood := { row := unifyAllsRow, standIns := [], harness := (true, "900419d550c836b2a073931c9d304bc93a783dc8b36c11cb776fe842b706921d"), looks := true }, kinds := [], alts := [], laidByText := true, laidKinds := [.data, .pinned], laidTests := true, laidLooks := .later }
def UnifyAllsCardSaid : Prop := Claim7.holds Tryd.pinned (.plain (OpenSpec.ofChange unifyAllsSpec)) unifyAllsCard

/-- THE TIED CARD OF 'scullerykeep.MatchesPut'. -/
def matchesPutCard : Claim7 := { stood := { row := matchesPutRow, standIns := [], harness := (true, "900419d550c836b2a073931c9d304bc93a783dc8b36c11cb776fe842b706921d"), looks := true }, kinds := [], alts := [], laidByText := true, laidKinds := [.data, .pinned], laidTests := true, laidLooks := .later }
def MatchesPutCardSaid : Prop := Claim7.holds Tryd.pinned (.plain (OpenSpec.ofChange matchesPutSpec)) matchesPutCard

/-- THE TIED CARD OF 'scullerylaw.TreeShows'. -/
def treeShowsCard : Claim7 := { stood := { row := treeShowsRow, standIns := [], harness := (true, "900419d550c836b2a073931c9d304bc93a783dc8b36c11cb776fe842b706921d"), looks := true }, kinds := [], alts := [], laidByText := true, laidKinds := [.data, .data, .data], laidTests := true, laidLooks := .later }
def TreeShowsCardSaid : Prop := Claim7.holds Tryd.pinned (.plain (OpenSpec.ofChange treeShowsSpec)) treeShowsCard

/-- THE TIED CARD OF 'scullerylaw.BodyOnes'. -/
def bodyOnesCard : Claim7 := { stood := { row := bodyOnesRow, standIns := [], harness := (true, "900419d550c836b2a073931c9d304bc93a783dc8b36c11cb776fe842b706921d"), looks := true }, kinds := [], alts := [], laidByText := true, laidKinds := [.data, .pinned], laidTests := true, laidLooks := .later }
def BodyOnesCardSaid : Prop := Claim7.holds Tryd.pinned (.plain (OpenSpec.ofChange bodyOnesSpec)) bodyOnesCard

/-- THE SECOND FORM's CARD OF 'scullerylaw.UnifyPuts'. -/
def unifyPutsUptoCard : Claim7 := { stood := { row := unifyPutsUptoRow, standIns := [], harness := (true, "900419d550c836b2a073931c9d304bc93a783dc8b36c11cb776fe842b706921d"), looks := true }, kinds := [], alts := [], laidByText := true, laidKinds := [.data, .pinned], laidTests := true, laidLooks := .later }
def UnifyPutsUptoCardSaid : Prop := Claim7.holds Tryd.pinned (.plain (OpenSpec.upto unifyPutsSpec)) unifyPutsUptoCard

/-- THE SECOND FORM's CARD OF 'scullerylaw.UnifyAlls'. -/
def unifyAllsUptoCard : Claim7 := { stood := { row := unifyAllsUptoRow, standIns := [], harness := (true, "900419d550c836b2a073931c9d304bc93a783dc8b36c11cb776fe842b706921d"), looks := true }, kinds := [], alts := [], laidByText := true, laidKinds := [.data, .pinned], laidTests := true, laidLooks := .later }
def UnifyAllsUptoCardSaid : Prop := Claim7.holds Tryd.pinned (.plain (OpenSpec.upto unifyAllsSpec)) unifyAllsUptoCard

/-- THE SECOND FORM's CARD OF 'scullerykeep.MatchesPut'. -/
def matchesPutUptoCard : Claim7 := { stood := { row := matchesPutUptoRow, standIns := [], harness := (true, "900419d550c836b2a073931c9d304bc93a783dc8b36c11cb776fe842b706921d"), looks := true }, kinds := [], alts := [], laidByText := true, laidKinds := [.data, .pinned], laidTests := true, laidLooks := .later }
def MatchesPutUptoCardSaid : Prop := Claim7.holds Tryd.pinned (.plain (OpenSpec.upto matchesPutSpec)) matchesPutUptoCard

/-- THE SECOND FORM's CARD OF 'scullerylaw.TreeShows'. -/
def treeShowsUptoCard : Claim7 := { stood := { row := treeShowsUptoRow, standIns := [], harness := (true, "900419d550c836b2a073931c9d304bc93a783dc8b36c11cb776fe842b706921d"), looks := true }, kinds := [], alts := [], laidByText := true, laidKinds := [.data, .data, .data], laidTests := true, laidLooks := .later }
def TreeShowsUptoCardSaid : Prop := Claim7.holds Tryd.pinned (.plain (OpenSpec.upto treeShowsSpec)) treeShowsUptoCard

/-- THE SECOND FORM's CARD OF 'scullerylaw.BodyOnes'. -/
def bodyOnesUptoCard : Claim7 := { stood := { row := bodyOnesUptoRow, standIns := [], harness := (true, "900419d550c836b2a073931c9d304bc93a783dc8b36c11cb776fe842b706921d"), looks := true }, kinds := [], alts := [], laidByText := true, laidKinds := [.data, .pinned], laidTests := true, laidLooks := .later }
def BodyOnesUptoCardSaid : Prop := Claim7.holds Tryd.pinned (.plain (OpenSpec.upto bodyOnesSpec)) bodyOnesUptoCard
end Rows
end Go.Proofs.YtoejhgbndehaiaaDoor
