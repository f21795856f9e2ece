/- KeeperZero: the facts of its row, the rest. -/
import Derived.Test.YtplpiicfkbpkaaaGreatDoorRows
import Derived.Test.YtplpiicfkbpkaaaGreatDoorTie
import Derived.Test.YtplpiicfkbpkaaaGreatDoorCards
import Derived.SevenTiedAt
namespace Go.Proofs.YtplpiicfkbpkaaaGreatDoor
set_option maxRecDepth 100000
set_option maxHeartbeats 8000000
section
open Go.ChangeShapes Go.WideShapes
theorem keeperZero_named:Tryz.pinned.checked.prog.funcNamed Rows.keeperZeroRow.func=some 3:=by kernel_rfl
theorem keeperZero_inst:Tryz.f3.isInstance Tryz.pinned.checked.prog Rows.keeperZeroRow.origin Rows.keeperZeroRow.targs:=of_decide_eq_true (by kernel_rfl)
theorem keeperZero_wrap:Tryz.f3.isWrapper Tryz.pinned.checked.prog Rows.keeperZeroRow.wrapper Rows.keeperZeroRow.mainSum:=by unfold Func.isWrapper;first | (rw[if_pos (by decide +kernel)];kernel_rfl) | (rw[if_neg (by decide +kernel)];exact⟨rfl,rfl⟩)
theorem keeperZero_wf:Rows.keeperZeroRow.wfByText (OpenSpec.ofChange Rows.keeperZeroSpec)=true:=by kernel_rfl
theorem keeperZero_main:Tryz.pinned.checked.prog.mainIs=some (true, "6ff9c953f257b94a4c9221a0a6366941da8d31eca135b1d6e86680f02618f099".toList):=by kernel_rfl
theorem keeperZero_looks:true=Tryz.pinned.checked.prog.looks []:=by kernel_rfl
theorem keeperZero_goes:false=Rows.keeperZeroRow.goesBy Tryz.pinned.checked.prog:=by kernel_rfl
theorem wants_entry:Tryz.prog.wantsStandIn 25=false:=by kernel_rfl
theorem wants_stringK:Tryz.prog.wantsStandIn 9=false:=by kernel_rfl
theorem wants_opK:Tryz.prog.wantsStandIn 28=false:=by kernel_rfl
theorem keeperZero_fn:Tryz.prog.funcNamed "petrel/petrellaw34.KeeperZero" = some 3:=by kernel_rfl
end
end Go.Proofs.YtplpiicfkbpkaaaGreatDoor
