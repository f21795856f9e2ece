/-
  DERIVED. GIVEN WITH THE SEED: THE CARDS: each row of YtgedpfebepdcmaaGreatDoorRows.lean that lists a variable, with what it lists TIED to the program's text (the seventh form; the later family's looks); each row that meets fmt, with fmt's text TOLD by the authors' own Lean function (tested against real Go, not proved from fmt's source: count such statements apart). THE CARD IS WHAT COUNTS. Prove the row's statement (the work); the ties are given (YtgedpfebepdcmaaGreatDoorTie.lean); close each card by the builder's one call (the guide's Derived/Test/ToyasCard.lean, 'card_holds'). Laid BY PROGRAM, IN A SANDBOX (cutbox-door.mjs). By AI agents, Wed Nov 11 2026. No macro, syntax, notation, axiom, sorry.
-/
import Derived.Test.YtgedpfebepdcmaaGreatDoorRows
import GoSem.ClaimSeven
namespace Go.Proofs.YtgedpfebepdcmaaGreatDoor
namespace Rows

/-- THE TIED CARD OF 'petrellaw40.AuditSpoilt'. -/
def auditSpoiltCard : Claim7 := { stood := { row := auditSpoiltRow, standIns := [], harness := (true, "5e2a8e9e73b40d0215eaf3d79a29b0726411c486ff2ce8d5d8fd83bb4065abc8"), looks := false }, kinds := [], alts := [], laidByText := true, laidKinds := [.data, .data, .data], laidTests := true, laidLooks := .later }
def AuditSpoiltCardSaid : Prop := Claim7.holds Tryz.pinned (.plain (OpenSpec.ofChange auditSpoiltSpec)) auditSpoiltCard

/-- THE TIED CARD OF 'petrellaw40.AuditPayloads'. -/
def auditPayloadsCard : Claim7 := { stood := { row := auditPayloadsRow, standIns := [], harness := (true, "5e2a8e9e73b40d0215eaf3d79a29b0726411c486ff2ce8d5d8fd83bb4065abc8"), looks := false }, kinds := [], alts := [], laidByText := true, laidKinds := [.data, .data, .data], laidTests := true, laidLooks := .later }
def AuditPayloadsCardSaid : Prop := Claim7.holds Tryz.pinned (.plain (OpenSpec.ofChange auditPayloadsSpec)) auditPayloadsCard

/-- THE SECOND FORM's CARD OF 'petrellaw40.AuditSpoilt'. -/
def auditSpoiltUptoCard : Claim7 := { stood := { row := auditSpoiltUptoRow, standIns := [], harness := (true, "5e2a8e9e73b40d0215eaf3d79a29b0726411c486ff2ce8d5d8fd83bb4065abc8"), looks := false }, kinds := [], alts := [], laidByText := true, laidKinds := [.data, .data, .data], laidTests := true, laidLooks := .later }
def AuditSpoiltUptoCardSaid : Prop := Claim7.holds Tryz.pinned (.plain (OpenSpec.upto auditSpoiltSpec)) auditSpoiltUptoCard

/-- THE SECOND FORM's CARD OF 'petrellaw40.AuditPayloads'. -/
def auditPayloadsUptoCard : Claim7 := { stood := { row := auditPayloadsUptoRow, standIns := [], harness := (true, "5e2a8e9e73b40d0215eaf3d79a29b0726411c486ff2ce8d5d8fd83bb4065abc8"), looks := false }, kinds := [], alts := [], laidByText := true, laidKinds := [.data, .data, .data], laidTests := true, laidLooks := .later }
def AuditPayloadsUptoCardSaid : Prop := Claim7.holds Tryz.pinned (.plain (OpenSpec.upto auditPayloadsSpec)) auditPayloadsUptoCard
end Rows
end Go.Proofs.YtgedpfebepdcmaaGreatDoor
