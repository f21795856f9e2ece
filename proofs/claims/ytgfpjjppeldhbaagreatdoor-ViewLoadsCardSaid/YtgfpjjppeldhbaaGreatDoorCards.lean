/-
  DERIVED. GIVEN WITH THE SEED: THE CARDS: each row of YtgfpjjppeldhbaaGreatDoorRows.lean that lists a variable, with what it lists TIED to the program's text (the seventh form; the later family's looks); each row that meets fmt, with fmt's text TOLD by the authors' own Lean function (tested against real Go, not proved from fmt's source: count such statements apart). THE CARD IS WHAT COUNTS. Prove the row's statement (the work); the ties are given (YtgfpjjppeldhbaaGreatDoorTie.lean); close each card by the builder's one call (the guide's Derived/Test/ToyasCard.lean, 'card_holds'). Laid BY PROGRAM, IN A SANDBOX (cutbox-door.mjs). By AI agents, Wed Nov 11 2026. No macro, syntax, notation, axiom, sorry.
-/
import Derived.Test.YtgfpjjppeldhbaaGreatDoorRows
import GoSem.ClaimSeven
namespace Go.Proofs.YtgfpjjppeldhbaaGreatDoor
namespace Rows

/-- THE TIED CARD OF 'petrellaw27.DenotePlays'. -/
def denotePlaysCard : Claim7 := { stood := { row := denotePlaysRow, standIns := [], harness := (true, "f245672c1a817d2508774d6a3a2bceb9efc48028e5509a509eb3e4f8d9835711"), looks := true }, kinds := [], alts := [], laidByText := true, laidKinds := [.data], laidTests := true, laidLooks := .later }
def DenotePlaysCardSaid : Prop := Claim7.holds Tryz.pinned (.plain (OpenSpec.ofChange denotePlaysSpec)) denotePlaysCard

/-- THE TIED CARD OF 'petrellaw27.DenoteOrder'. -/
def denoteOrderCard : Claim7 := { stood := { row := denoteOrderRow, standIns := [], harness := (true, "f245672c1a817d2508774d6a3a2bceb9efc48028e5509a509eb3e4f8d9835711"), looks := true }, kinds := [], alts := [], laidByText := true, laidKinds := [.data], laidTests := true, laidLooks := .later }
def DenoteOrderCardSaid : Prop := Claim7.holds Tryz.pinned (.plain (OpenSpec.ofChange denoteOrderSpec)) denoteOrderCard

/-- THE TIED CARD OF 'petrellaw26.ViewOthers'. -/
def viewOthersCard : Claim7 := { stood := { row := viewOthersRow, standIns := [], harness := (true, "f245672c1a817d2508774d6a3a2bceb9efc48028e5509a509eb3e4f8d9835711"), looks := true }, kinds := [], alts := [], laidByText := true, laidKinds := [.data], laidTests := true, laidLooks := .later }
def ViewOthersCardSaid : Prop := Claim7.holds Tryz.pinned (.plain (OpenSpec.ofChange viewOthersSpec)) viewOthersCard

/-- THE TIED CARD OF 'petrellaw27.DenoteViews'. -/
def denoteViewsCard : Claim7 := { stood := { row := denoteViewsRow, standIns := [], harness := (true, "f245672c1a817d2508774d6a3a2bceb9efc48028e5509a509eb3e4f8d9835711"), looks := true }, kinds := [], alts := [], laidByText := true, laidKinds := [.data], laidTests := true, laidLooks := .later }
def DenoteViewsCardSaid : Prop := Claim7.holds Tryz.pinned (.plain (OpenSpec.ofChange denoteViewsSpec)) denoteViewsCard

/-- THE TIED CARD OF 'petrellaw26.ViewPlays'. -/
def viewPlaysCard : Claim7 := { stood := { row := viewPlaysRow, standIns := [], harness := (true, "f245672c1a817d2508774d6a3a2bceb9efc48028e5509a509eb3e4f8d9835711"), looks := true }, kinds := [], alts := [], laidByText := true, laidKinds := [.data], laidTests := true, laidLooks := .later }
def ViewPlaysCardSaid : Prop := Claim7.holds Tryz.pinned (.plain (OpenSpec.ofChange viewPlaysSpec)) viewPlaysCard

/-- THE TIED CARD OF 'petrellaw26.ViewZero'. -/
def viewZeroCard : Claim7 := { stood := { row := viewZeroRow, standIns := [], harness := (true, "f245672c1a817d2508774d6a3a2bceb9efc48028e5509a509eb3e4f8d9835711"), looks := true }, kinds := [], alts := [], laidByText := true, laidKinds := [.data], laidTests := true, laidLooks := .later }
def ViewZeroCardSaid : Prop := Claim7.holds Tryz.pinned (.plain (OpenSpec.ofChange viewZeroSpec)) viewZeroCard

/-- THE TIED CARD OF 'petrellaw26.ViewLoads'. -/
def viewLoadsCard : Claim7 := { stood := { row := viewLoadsRow, standIns := [], harness := (true, "f245672c1a817d2508774d6a3a2bceb9efc48028e5509a509eb3e4f8d9835711"), looks := true }, kinds := [], alts := [], laidByText := true, laidKinds := [.data], laidTests := true, laidLooks := .later }
def ViewLoadsCardSaid : Prop := Claim7.holds Tryz.pinned (.plain (OpenSpec.ofChange viewLoadsSpec)) viewLoadsCard

/-- THE TIED CARD OF 'petrellaw26.ViewOrder'. -/
def viewOrderCard : Claim7 := { stood := { row := viewOrderRow, standIns := [], harness := (true, "f245672c1a817d2508774d6a3a2bceb9efc48028e5509a509eb3e4f8d9835711"), looks := true }, kinds := [], alts := [], laidByText := true, laidKinds := [.data], laidTests := true, laidLooks := .later }
def ViewOrderCardSaid : Prop := Claim7.holds Tryz.pinned (.plain (OpenSpec.ofChange viewOrderSpec)) viewOrderCard

/-- THE SECOND FORM's CARD OF 'petrellaw27.DenotePlays'. -/
def denotePlaysUptoCard : Claim7 := { stood := { row := denotePlaysUptoRow, standIns := [], harness := (true, "f245672c1a817d2508774d6a3a2bceb9efc48028e5509a509eb3e4f8d9835711"), looks := true }, kinds := [], alts := [], laidByText := true, laidKinds := [.data], laidTests := true, laidLooks := .later }
def DenotePlaysUptoCardSaid : Prop := Claim7.holds Tryz.pinned (.plain (OpenSpec.upto denotePlaysSpec)) denotePlaysUptoCard

/-- THE SECOND FORM's CARD OF 'petrellaw27.DenoteOrder'. -/
def denoteOrderUptoCard : Claim7 := { stood := { row := denoteOrderUptoRow, standIns := [], harness := (true, "f245672c1a817d2508774d6a3a2bceb9efc48028e5509a509eb3e4f8d9835711"), looks := true }, kinds := [], alts := [], laidByText := true, laidKinds := [.data], laidTests := true, laidLooks := .later }
def DenoteOrderUptoCardSaid : Prop := Claim7.holds Tryz.pinned (.plain (OpenSpec.upto denoteOrderSpec)) denoteOrderUptoCard

/-- THE SECOND FORM's CARD OF 'petrellaw26.ViewOthers'. -/
def viewOthersUptoCard : Claim7 := { stood := { row := viewOthersUptoRow, standIns := [], harness := (true, "f245672c1a817d2508774d6a3a2bceb9efc48028e5509a509eb3e4f8d9835711"), looks := true }, kinds := [], alts := [], laidByText := true, laidKinds := [.data], laidTests := true, laidLooks := .later }
def ViewOthersUptoCardSaid : Prop := Claim7.holds Tryz.pinned (.plain (OpenSpec.upto viewOthersSpec)) viewOthersUptoCard

/-- THE SECOND FORM's CARD OF 'petrellaw27.DenoteViews'. -/
def denoteViewsUptoCard : Claim7 := { stood := { row := denoteViewsUptoRow, standIns := [], harness := (true, "f245672c1a817d2508774d6a3a2bceb9efc48028e5509a509eb3e4f8d9835711"), looks := true }, kinds := [], alts := [], laidByText := true, laidKinds := [.data], laidTests := true, laidLooks := .later }
def DenoteViewsUptoCardSaid : Prop := Claim7.holds Tryz.pinned (.plain (OpenSpec.upto denoteViewsSpec)) denoteViewsUptoCard

/-- THE SECOND FORM's CARD OF 'petrellaw26.ViewPlays'. -/
def viewPlaysUptoCard : Claim7 := { stood := { row := viewPlaysUptoRow, standIns := [], harness := (true, "f245672c1a817d2508774d6a3a2bceb9efc48028e5509a509eb3e4f8d9835711"), looks := true }, kinds := [], alts := [], laidByText := true, laidKinds := [.data], laidTests := true, laidLooks := .later }
def ViewPlaysUptoCardSaid : Prop := Claim7.holds Tryz.pinned (.plain (OpenSpec.upto viewPlaysSpec)) viewPlaysUptoCard

/-- THE SECOND FORM's CARD OF 'petrellaw26.ViewZero'. -/
def viewZeroUptoCard : Claim7 := { stood := { row := viewZeroUptoRow, standIns := [], harness := (true, "f245672c1a817d2508774d6a3a2bceb9efc48028e5509a509eb3e4f8d9835711"), looks := true }, kinds := [], alts := [], laidByText := true, laidKinds := [.data], laidTests := true, laidLooks := .later }
def ViewZeroUptoCardSaid : Prop := Claim7.holds Tryz.pinned (.plain (OpenSpec.upto viewZeroSpec)) viewZeroUptoCard

/-- THE SECOND FORM's CARD OF 'petrellaw26.ViewLoads'. -/
def viewLoadsUptoCard : Claim7 := { stood := { row := viewLoadsUptoRow, standIns := [], harness := (true, "f245672c1a817d2508774d6a3a2bceb9efc48028e5509a509eb3e4f8d9835711"), looks := true }, kinds := [], alts := [], laidByText := true, laidKinds := [.data], laidTests := true, laidLooks := .later }
def ViewLoadsUptoCardSaid : Prop := Claim7.holds Tryz.pinned (.plain (OpenSpec.upto viewLoadsSpec)) viewLoadsUptoCard

/-- THE SECOND FORM's CARD OF 'petrellaw26.ViewOrder'. -/
def viewOrderUptoCard : Claim7 := { stood := { row := viewOrderUptoRow, standIns := [], harness := (true, "f245672c1a817d2508774d6a3a2bceb9efc48028e5509a509eb3e4f8d9835711"), looks := true }, kinds := [], alts := [], laidByText := true, laidKinds := [.data], laidTests := true, laidLooks := .later }
def ViewOrderUptoCardSaid : Prop := Claim7.holds Tryz.pinned (.plain (OpenSpec.upto viewOrderSpec)) viewOrderUptoCard
end Rows
end Go.Proofs.YtgfpjjppeldhbaaGreatDoor
