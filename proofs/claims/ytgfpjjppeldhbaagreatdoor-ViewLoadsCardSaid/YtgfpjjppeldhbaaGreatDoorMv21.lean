/- ViewLoads: the card. -/
import Derived.Test.YtgfpjjppeldhbaaGreatDoorMv20
import Derived.Test.YtgfpjjppeldhbaaGreatDoorTie
import Derived.Test.YtgfpjjppeldhbaaGreatDoorCards
import Derived.SevenTiedAt
namespace Go.Proofs.YtgfpjjppeldhbaaGreatDoor
open Go.RowKit
set_option maxRecDepth 100000
set_option maxHeartbeats 8000000
section
open Go.ChangeShapes Go.WideShapes Go.ChangeAt Go.RowKit Go.WideMaps Go.WideElems
theorem viewLoadsCard_holds:Rows.ViewLoadsCardSaid :=
 Claim7.holds_tied_plain_at .later [] [.data] true (true, "f245672c1a817d2508774d6a3a2bceb9efc48028e5509a509eb3e4f8d9835711") true
  viewLoads_holds (λ_ h=>by cases h) XQ (λ_ h=>by cases h) viewLoads_row_tie rfl ⟨rfl,rfl⟩ eY rfl
  (λf fn hf d=>by
   obtain rfl:f=9:=Option.some.inj (XR.symm.trans hf) |>.symm
   obtain rfl:fn=Tryz.f9:=(Option.some.inj (Tryz.func9.symm.trans d)).symm;exact⟨eE,λj t ht=>by
    rw[Tryz.params9]at ht;rcases j with _ | _ | _ | j
    ·have h3:t=9:=by simpa using ht.symm
     subst h3;exact r8
    ·have h3:t=9:=by simpa using ht.symm
     subst h3;exact r8
    ·have h3:t=22:=by simpa using ht.symm
     subst h3;exact QW
    ·simp at ht⟩)
  i0
end
end Go.Proofs.YtgfpjjppeldhbaaGreatDoor
