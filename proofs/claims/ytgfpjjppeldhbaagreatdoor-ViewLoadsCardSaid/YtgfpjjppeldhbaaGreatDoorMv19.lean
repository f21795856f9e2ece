/- ViewLoads: the facts of its row. -/
import Derived.Test.YtgfpjjppeldhbaaGreatDoorRows
import Derived.Test.YtgfpjjppeldhbaaGreatDoorTie
import Derived.Test.YtgfpjjppeldhbaaGreatDoorCards
import Derived.SevenTiedAt
namespace Go.Proofs.YtgfpjjppeldhbaaGreatDoor
set_option maxRecDepth 100000
set_option maxHeartbeats 8000000
section
open Go.ChangeShapes Go.WideShapes
theorem eF:joinedFacts Tryz.pinned.checked.prog 9 Tryz.f9 Rows.viewLoadsSpec Rows.viewLoadsRow=true:=by kernel_rfl
theorem eD:Tryz.pinned.checked.prog.funcNamed Rows.viewLoadsRow.func=some 9:=by kernel_rfl
theorem eZ:Tryz.f9.isInstance Tryz.pinned.checked.prog Rows.viewLoadsRow.origin Rows.viewLoadsRow.targs:=of_decide_eq_true (by kernel_rfl)
theorem eW:Tryz.f9.isWrapper Tryz.pinned.checked.prog Rows.viewLoadsRow.wrapper Rows.viewLoadsRow.mainSum:=by unfold Func.isWrapper;first | (rw[if_pos (by decide +kernel)];kernel_rfl) | (rw[if_neg (by decide +kernel)];exact⟨rfl,rfl⟩)
theorem XQ:Rows.viewLoadsRow.wfByText (OpenSpec.ofChange Rows.viewLoadsSpec)=true:=by kernel_rfl
theorem eY:Tryz.pinned.checked.prog.mainIs=some (true, "f245672c1a817d2508774d6a3a2bceb9efc48028e5509a509eb3e4f8d9835711".toList):=by kernel_rfl
theorem eE:true=Tryz.pinned.checked.prog.looks []:=by kernel_rfl
theorem i0:false=Rows.viewLoadsRow.goesBy Tryz.pinned.checked.prog:=by kernel_rfl
theorem r8:Tryz.prog.wantsStandIn 9=false:=by kernel_rfl
theorem QW:Tryz.prog.wantsStandIn 22=false:=by kernel_rfl
theorem XR:Tryz.prog.funcNamed "petrel/petrellaw26.ViewLoads" = some 9:=by kernel_rfl
end
end Go.Proofs.YtgfpjjppeldhbaaGreatDoor
