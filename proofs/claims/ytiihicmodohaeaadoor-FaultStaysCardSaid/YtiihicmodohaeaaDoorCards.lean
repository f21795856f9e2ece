/-
  DERIVED. GIVEN WITH THE SEED: THE CARDS: each row of YtiihicmodohaeaaDoorRows.lean that lists a variable, with what it lists TIED to the program's text (the seventh form; the later family's looks); each row that meets fmt, with fmt's text TOLD by the authors' own Lean function (tested against real Go, not proved from fmt's source: count such statements apart). THE CARD IS WHAT COUNTS. Prove the row's statement (the work); the ties are given (YtiihicmodohaeaaDoorTie.lean); close each card by the builder's one call (the guide's Derived/Test/ToyasCard.lean, 'card_holds'). Laid BY PROGRAM, IN A SANDBOX (cutbox-door.mjs). By AI agents, Wed Nov 11 2026. No macro, syntax, notation, axiom, sorry.
-/
import Derived.Test.YtiihicmodohaeaaDoorRows
import GoSem.ClaimSeven
namespace Go.Proofs.YtiihicmodohaeaaDoor
namespace Rows

/-- THE TIED CARD OF 'petrellaw04.FaultOwn'. -/
def faultOwnCard : Claim7 := { stood := { row := faultOwnRow, standIns := [], harness := (true, "e02dc8bc73a33cd3a7e708c9e03e3b4b49222b84b69e73221b36b9d904c3e5af"), looks := true }, kinds := [], alts := [], laidByText := true, laidKinds := [.handle], laidTests := true, laidLooks := .later }
def FaultOwnCardSaid : Prop := Claim7.holds Tryd.pinned (.plain (OpenSpec.ofChange faultOwnSpec)) faultOwnCard

/-- THE TIED CARD OF 'petrellaw04.FaultStays'. -/
def faultStaysCard : Claim7 := { stood := { row := faultStaysRow, standIns := [], harness := (true, "e02dc8bc73a33cd3a7e708c9e03e3b4b49222b84b69e73221b36b9d904c3e5af"), looks := true }, kinds := [], alts := [], laidByText := true, laidKinds := [.handle], laidTests := true, laidLooks := .later }
def FaultStaysCardSaid : Prop := Claim7.holds Tryd.pinned (.plain (OpenSpec.ofChange faultStaysSpec)) faultStaysCard

/-- THE TIED CARD OF 'petrellaw04.FaultTells'. -/
def faultTellsCard : Claim7 := { stood := { row := faultTellsRow, standIns := [], harness := (true, "e02dc8bc73a33cd3a7e708c9e03e3b4b49222b84b69e73221b36b9d904c3e5af"), looks := true }, kinds := [], alts := [], laidByText := true, laidKinds := [.handle], laidTests := true, laidLooks := .later }
def FaultTellsCardSaid : Prop := Claim7.holds Tryd.pinned (.plain (OpenSpec.ofChange faultTellsSpec)) faultTellsCard

/-- THE TIED CARD OF 'petrellaw04.FaultNone'. -/
def faultNoneCard : Claim7 := { stood := { row := faultNoneRow, standIns := [], harness := (true, "e02dc8bc73a33cd3a7e708c9e03e3b4b49222b84b69e73221b36b9d904c3e5af"), looks := true }, kinds := [], alts := [], laidByText := true, laidKinds := [.handle], laidTests := true, laidLooks := .later }
def FaultNoneCardSaid : Prop := Claim7.holds Tryd.pinned (.plain (OpenSpec.ofChange faultNoneSpec)) faultNoneCard

/-- THE SECOND FORM's CARD OF 'petrellaw04.FaultOwn'. -/
def faultOwnUptoCard : Claim7 := { stood := { row := faultOwnUptoRow, standIns := [], harness := (true, "e02dc8bc73a33cd3a7e708c9e03e3b4b49222b84b69e73221b36b9d904c3e5af"), looks := true }, kinds := [], alts := [], laidByText := true, laidKinds := [.handle], laidTests := true, laidLooks := .later }
def FaultOwnUptoCardSaid : Prop := Claim7.holds Tryd.pinned (.plain (OpenSpec.upto faultOwnSpec)) faultOwnUptoCard

/-- THE SECOND FORM's CARD OF 'petrellaw04.FaultStays'. -/
def faultStaysUptoCard : Claim7 := { stood := { row := faultStaysUptoRow, standIns := [], harness := (true, "e02dc8bc73a33cd3a7e708c9e03e3b4b49222b84b69e73221b36b9d904c3e5af"), looks := true }, kinds := [], alts := [], laidByText := true, laidKinds := [.handle], laidTests := true, laidLooks := .later }
def FaultStaysUptoCardSaid : Prop := Claim7.holds Tryd.pinned (.plain (OpenSpec.upto faultStaysSpec)) faultStaysUptoCard

/-- THE SECOND FORM's CARD OF 'petrellaw04.FaultTells'. -/
def faultTellsUptoCard : Claim7 := { stood := { row := faultTellsUptoRow, standIns := [], harness := (true, "e02dc8bc73a33cd3a7e708c9e03e3b4b49222b84b69e73221b36b9d904c3e5af"), looks := true }, kinds := [], alts := [], laidByText := true, laidKinds := [.handle], laidTests := true, laidLooks := .later }
def FaultTellsUptoCardSaid : Prop := Claim7.holds Tryd.pinned (.plain (OpenSpec.upto faultTellsSpec)) faultTellsUptoCard

/-- THE SECOND FORM's CARD OF 'petrellaw04.FaultNone'. -/
def faultNoneUptoCard : Claim7 := { stood := { row := faultNoneUptoRow, standIns := [], harness := (true, "e02dc8bc73a33cd3a7e708c9e03e3b4b49222b84b69e73221b36b9d904c3e5af"), looks := true }, kinds := [], alts := [], laidByText := true, laidKinds := [.handle], laidTests := true, laidLooks := .later }
def FaultNoneUptoCardSaid : Prop := Claim7.holds Tryd.pinned (.plain (OpenSpec.upto faultNoneSpec)) faultNoneUptoCard
end Rows
end Go.Proofs.YtiihicmodohaeaaDoor
