/-
  DERIVED. GIVEN WITH THE SEED: THE CARDS: each row of YtafhepilcmimlaaDoorRows.lean that lists a variable, with what it lists TIED to the program's text (the seventh form; the later family's looks); each row that meets fmt, with fmt's text TOLD by the authors' own Lean function (tested against real Go, not proved from fmt's source: count such statements apart). THE CARD IS WHAT COUNTS. Prove the row's statement (the work); the ties are given (YtafhepilcmimlaaDoorTie.lean); close each card by the builder's one call (the guide's Derived/Test/ToyasCard.lean, 'card_holds'). Laid BY PROGRAM, IN A SANDBOX (cutbox-door.mjs). By AI agents, Wed Nov 11 2026. No macro, syntax, notation, axiom, sorry.
-/
import Derived.Test.YtafhepilcmimlaaDoorRows
import GoSem.ClaimSeven
namespace Go.Proofs.YtafhepilcmimlaaDoor
namespace Rows

/-- THE TIED CARD OF 'scullerykeep.OrdersRight'. -/
def ordersRightCard : Claim7 := { stood := { row := ordersRightRow, standIns := [], harness := (true, "cb04e2d4f27873b7ddbedade7c49562d8937ae04711c9173ffa6a621e054f4df"), looks := false }, kinds := [], alts := [], laidByText := true, laidKinds := [.data], laidTests := true, laidLooks := .later }
def OrdersRightCardSaid : Prop := Claim7.holds Tryd.pinned (.plain (OpenSpec.ofChange ordersRightSpec)) ordersRightCard

/-- THE SECOND FORM's CARD OF 'scullerykeep.OrdersRight'. -/
def ordersRightUptoCard : Claim7 := { stood := { row := ordersRightUptoRow, standIns := [], harness := (true, "cb04e2d4f27873b7ddbedade7c49562d8937ae04711c9173ffa6a621e054f4df"), looks := false }, kinds := [], alts := [], laidByText := true, laidKinds := [.data], laidTests := true, laidLooks := .later }
def OrdersRightUptoCardSaid : Prop := Claim7.holds Tryd.pinned (.plain (OpenSpec.upto ordersRightSpec)) ordersRightUptoCard
end Rows
end Go.Proofs.YtafhepilcmimlaaDoor
