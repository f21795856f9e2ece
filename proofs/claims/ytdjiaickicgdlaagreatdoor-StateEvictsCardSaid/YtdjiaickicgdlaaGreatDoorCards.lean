/-
  DERIVED. GIVEN WITH THE SEED: THE CARDS: each row of YtdjiaickicgdlaaGreatDoorRows.lean that lists a variable, with what it lists TIED to the program's text (the seventh form; the later family's looks); each row that meets fmt, with fmt's text TOLD by the authors' own Lean function (tested against real Go, not proved from fmt's source: count such statements apart). THE CARD IS WHAT COUNTS. Prove the row's statement (the work); the ties are given (YtdjiaickicgdlaaGreatDoorTie.lean); close each card by the builder's one call (the guide's Derived/Test/ToyasCard.lean, 'card_holds'). Laid BY PROGRAM, IN A SANDBOX (cutbox-door.mjs). By AI agents, Wed Nov 11 2026. No macro, syntax, notation, axiom, sorry.
-/
import Derived.Test.YtdjiaickicgdlaaGreatDoorRows
import GoSem.ClaimSeven
namespace Go.Proofs.YtdjiaickicgdlaaGreatDoor
namespace Rows

/-- THE TIED CARD OF 'petrellaw28.StateEvicts'. -/
def stateEvictsCard : Claim7 := { stood := { row := stateEvictsRow, standIns := [], harness := (true, "549fe3fdd43b7c6a43b0da2314cedae92d563890f014adbe99ec9f118090a9a7"), looks := true }, kinds := [], alts := [], laidByText := true, laidKinds := [.data, .data, .data], laidTests := true, laidLooks := .later }
def StateEvictsCardSaid : Prop := Claim7.holds Tryz.pinned (.plain (OpenSpec.ofChange stateEvictsSpec)) stateEvictsCard

/-- THE TIED CARD OF 'petrellaw28.StateMissing'. -/
def stateMissingCard : Claim7 := { stood := { row := stateMissingRow, standIns := [], harness := (true, "549fe3fdd43b7c6a43b0da2314cedae92d563890f014adbe99ec9f118090a9a7"), looks := true }, kinds := [], alts := [], laidByText := true, laidKinds := [.data, .data, .data], laidTests := true, laidLooks := .later }
def StateMissingCardSaid : Prop := Claim7.holds Tryz.pinned (.plain (OpenSpec.ofChange stateMissingSpec)) stateMissingCard

/-- THE TIED CARD OF 'petrellaw28.StateBound'. -/
def stateBoundCard : Claim7 := { stood := { row := stateBoundRow, standIns := [], harness := (true, "549fe3fdd43b7c6a43b0da2314cedae92d563890f014adbe99ec9f118090a9a7"), looks := true }, kinds := [], alts := [], laidByText := true, laidKinds := [.data, .data, .data], laidTests := true, laidLooks := .later }
def StateBoundCardSaid : Prop := Claim7.holds Tryz.pinned (.plain (OpenSpec.ofChange stateBoundSpec)) stateBoundCard

/-- THE SECOND FORM's CARD OF 'petrellaw28.StateEvicts'. -/
def stateEvictsUptoCard : Claim7 := { stood := { row := stateEvictsUptoRow, standIns := [], harness := (true, "549fe3fdd43b7c6a43b0da2314cedae92d563890f014adbe99ec9f118090a9a7"), looks := true }, kinds := [], alts := [], laidByText := true, laidKinds := [.data, .data, .data], laidTests := true, laidLooks := .later }
def StateEvictsUptoCardSaid : Prop := Claim7.holds Tryz.pinned (.plain (OpenSpec.upto stateEvictsSpec)) stateEvictsUptoCard

/-- THE SECOND FORM's CARD OF 'petrellaw28.StateMissing'. -/
def stateMissingUptoCard : Claim7 := { stood := { row := stateMissingUptoRow, standIns := [], harness := (true, "549fe3fdd43b7c6a43b0da2314cedae92d563890f014adbe99ec9f118090a9a7"), looks := true }, kinds := [], alts := [], laidByText := true, laidKinds := [.data, .data, .data], laidTests := true, laidLooks := .later }
def StateMissingUptoCardSaid : Prop := Claim7.holds Tryz.pinned (.plain (OpenSpec.upto stateMissingSpec)) stateMissingUptoCard

/-- THE SECOND FORM's CARD OF 'petrellaw28.StateBound'. -/
def stateBoundUptoCard : Claim7 := { stood := { row := stateBoundUptoRow, standIns := [], harness := (true, "549fe3fdd43b7c6a43b0da2314cedae92d563890f014adbe99ec9f118090a9a7"), looks := true }, kinds := [], alts := [], laidByText := true, laidKinds := [.data, .data, .data], laidTests := true, laidLooks := .later }
def StateBoundUptoCardSaid : Prop := Claim7.holds Tryz.pinned (.plain (OpenSpec.upto stateBoundSpec)) stateBoundUptoCard
end Rows
end Go.Proofs.YtdjiaickicgdlaaGreatDoor
