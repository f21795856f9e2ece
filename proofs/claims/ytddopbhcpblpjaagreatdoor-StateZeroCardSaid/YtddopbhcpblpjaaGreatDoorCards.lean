/-
  DERIVED. GIVEN WITH THE SEED: THE CARDS: each row of YtddopbhcpblpjaaGreatDoorRows.lean that lists a variable, with what it lists TIED to the program's text (the seventh form; the later family's looks); each row that meets fmt, with fmt's text TOLD by the authors' own Lean function (tested against real Go, not proved from fmt's source: count such statements apart). THE CARD IS WHAT COUNTS. Prove the row's statement (the work); the ties are given (YtddopbhcpblpjaaGreatDoorTie.lean); close each card by the builder's one call (the guide's Derived/Test/ToyasCard.lean, 'card_holds'). Laid BY PROGRAM, IN A SANDBOX (cutbox-door.mjs). By AI agents, Wed Nov 11 2026. No macro, syntax, notation, axiom, sorry.
-/
import Derived.Test.YtddopbhcpblpjaaGreatDoorRows
import GoSem.ClaimSeven
namespace Go.Proofs.YtddopbhcpblpjaaGreatDoor
namespace Rows

/-- THE TIED CARD OF 'petrellaw28.StateZero'. -/
def stateZeroCard : Claim7 := { stood := { row := stateZeroRow, standIns := [], harness := (true, "ee2daf89f4141042e7c287148041bab1e6288daa23ba2dbc1e1eae44cf8b4564"), looks := true }, kinds := [], alts := [], laidByText := true, laidKinds := [.data, .data, .data], laidTests := true, laidLooks := .later }
def StateZeroCardSaid : Prop := Claim7.holds Tryz.pinned (.plain (OpenSpec.ofChange stateZeroSpec)) stateZeroCard

/-- THE SECOND FORM's CARD OF 'petrellaw28.StateZero'. -/
def stateZeroUptoCard : Claim7 := { stood := { row := stateZeroUptoRow, standIns := [], harness := (true, "ee2daf89f4141042e7c287148041bab1e6288daa23ba2dbc1e1eae44cf8b4564"), looks := true }, kinds := [], alts := [], laidByText := true, laidKinds := [.data, .data, .data], laidTests := true, laidLooks := .later }
def StateZeroUptoCardSaid : Prop := Claim7.holds Tryz.pinned (.plain (OpenSpec.upto stateZeroSpec)) stateZeroUptoCard
end Rows
end Go.Proofs.YtddopbhcpblpjaaGreatDoor
