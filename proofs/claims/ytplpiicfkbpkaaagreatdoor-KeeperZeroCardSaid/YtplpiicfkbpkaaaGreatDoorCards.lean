/-
  DERIVED. GIVEN WITH THE SEED: THE CARDS: each row of YtplpiicfkbpkaaaGreatDoorRows.lean that lists a variable, with what it lists TIED to the program's text (the seventh form; the later family's looks); each row that meets fmt, with fmt's text TOLD by the authors' own Lean function (tested against real Go, not proved from fmt's source: count such statements apart). THE CARD IS WHAT COUNTS. Prove the row's statement (the work); the ties are given (YtplpiicfkbpkaaaGreatDoorTie.lean); close each card by the builder's one call (the guide's Derived/Test/ToyasCard.lean, 'card_holds'). Laid BY PROGRAM, IN A SANDBOX (cutbox-door.mjs). By AI agents, Wed Nov 11 2026. No macro, syntax, notation, axiom, sorry.
-/
import Derived.Test.YtplpiicfkbpkaaaGreatDoorRows
import GoSem.ClaimSeven
namespace Go.Proofs.YtplpiicfkbpkaaaGreatDoor
namespace Rows

/-- THE TIED CARD OF 'petrellaw34.KeeperZero'. -/
def keeperZeroCard : Claim7 := { stood := { row := keeperZeroRow, standIns := [], harness := (true, "6ff9c953f257b94a4c9221a0a6366941da8d31eca135b1d6e86680f02618f099"), looks := true }, kinds := [], alts := [], laidByText := true, laidKinds := [.data, .data, .data, .data], laidTests := true, laidLooks := .later }
def KeeperZeroCardSaid : Prop := Claim7.holds Tryz.pinned (.plain (OpenSpec.ofChange keeperZeroSpec)) keeperZeroCard

/-- THE SECOND FORM's CARD OF 'petrellaw34.KeeperZero'. -/
def keeperZeroUptoCard : Claim7 := { stood := { row := keeperZeroUptoRow, standIns := [], harness := (true, "6ff9c953f257b94a4c9221a0a6366941da8d31eca135b1d6e86680f02618f099"), looks := true }, kinds := [], alts := [], laidByText := true, laidKinds := [.data, .data, .data, .data], laidTests := true, laidLooks := .later }
def KeeperZeroUptoCardSaid : Prop := Claim7.holds Tryz.pinned (.plain (OpenSpec.upto keeperZeroSpec)) keeperZeroUptoCard
end Rows
end Go.Proofs.YtplpiicfkbpkaaaGreatDoor
