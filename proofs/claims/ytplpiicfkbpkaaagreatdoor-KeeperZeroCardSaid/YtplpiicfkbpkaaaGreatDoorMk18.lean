/- KeeperZero: the card. -/
import Derived.Test.YtplpiicfkbpkaaaGreatDoorMk17
import Derived.Test.YtplpiicfkbpkaaaGreatDoorTie
import Derived.Test.YtplpiicfkbpkaaaGreatDoorCards
import Derived.SevenTiedAt
namespace Go.Proofs.YtplpiicfkbpkaaaGreatDoor
open Go.RowKit
open List hiding and get max min or set
open Go.Proofs.Tryz
open World
set_option maxRecDepth 100000
set_option maxHeartbeats 8000000
section
open Go.ChangeShapes Go.WideShapes Go.ChangeAt Go.RowKit Go.WideMaps Go.WideElems
theorem keeperZeroCard_holds:Rows.KeeperZeroCardSaid :=
 Claim7.holds_tied_plain_at .later [] [.data,.data,.data,.data] true (true, "6ff9c953f257b94a4c9221a0a6366941da8d31eca135b1d6e86680f02618f099") true
  keeperZero_holds (λ_ h=>by cases h) keeperZero_wf (λ_ h=>by cases h) keeperZero_row_tie rfl ⟨rfl,rfl⟩ keeperZero_main rfl
  (λf fn hf d=>by
   obtain rfl:f=3:=Option.some.inj (keeperZero_fn.symm.trans hf) |>.symm
   obtain rfl:fn=Tryz.f3:=(Option.some.inj (func3.symm.trans d)).symm;exact⟨keeperZero_looks,λj t ht=>by
    rw[params3]at ht;rcases j with _ | _ | _ | j
    ·have h3:t=25:=by simpa using ht.symm
     subst h3;exact wants_entry
    ·have h3:t=9:=by simpa using ht.symm
     subst h3;exact wants_stringK
    ·have h3:t=28:=by simpa using ht.symm
     subst h3;exact wants_opK
    ·simp at ht⟩)
  keeperZero_goes
end
end Go.Proofs.YtplpiicfkbpkaaaGreatDoor
