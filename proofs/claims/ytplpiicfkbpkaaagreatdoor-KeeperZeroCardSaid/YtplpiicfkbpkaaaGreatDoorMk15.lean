/- KeeperZero: the facts of its row, the first. -/
import Derived.Test.YtplpiicfkbpkaaaGreatDoorRows
import Derived.Test.YtplpiicfkbpkaaaGreatDoorTie
import Derived.Test.YtplpiicfkbpkaaaGreatDoorCards
import Derived.SevenTiedAt
namespace Go.Proofs.YtplpiicfkbpkaaaGreatDoor
set_option maxRecDepth 100000
set_option maxHeartbeats 8000000
section
open Go.ChangeShapes Go.WideShapes
theorem kz_f0:(Rows.keeperZeroRow.wf (OpenSpec.ofChange Rows.keeperZeroSpec))=true:=by kernel_rfl
theorem kz_f1:(laidOutB Tryz.pinned.checked.prog)=true:=by kernel_rfl
theorem kz_f2:(mapsRowed Tryz.pinned.checked.prog)=true:=by kernel_rfl
theorem kz_f3:(Tryz.f3.params.all (Tryz.pinned.checked.prog.readableRec ·))=true:=by kernel_rfl
theorem kz_f4:(namedTie Tryz.pinned.checked.prog Rows.keeperZeroRow.named Rows.keeperZeroSpec.vars)=true:=by kernel_rfl
theorem kz_f5:((Rows.keeperZeroRow.stops == []))=true:=by kernel_rfl
theorem kz_f6:((Tryz.pinned.checked.prog.stops == []))=true:=by kernel_rfl
theorem kz_f7:((Rows.keeperZeroRow.knobs == []))=true:=by kernel_rfl
theorem kz_f8:((Tryz.pinned.checked.prog.stopKnobs == []))=true:=by kernel_rfl
theorem kz_f9:((Rows.keeperZeroRow.inPlace==Tryz.pinned.checked.prog.inPlace 3))=true:=by kernel_rfl
theorem kz_f10:((Rows.keeperZeroRow.unfollowed==Tryz.pinned.checked.prog.unfollowed 3))=true:=by kernel_rfl
theorem kz_f11:((Rows.keeperZeroRow.recurses==Tryz.pinned.checked.prog.recurses 3))=true:=by kernel_rfl
theorem kz_f12:((Rows.keeperZeroRow.named==Tryz.pinned.checked.prog.varsNamed 3))=true:=by kernel_rfl
theorem kz_f13:((Rows.keeperZeroRow.maps==(Tryz.f3.params.toList++Rows.keeperZeroSpec.plain.varTypes Tryz.pinned.checked.prog).any (Tryz.pinned.checked.prog.mapsRec ·)))=true:=by kernel_rfl
theorem kz_f14:((Rows.keeperZeroRow.ifaces==(Tryz.f3.params.toList++Rows.keeperZeroSpec.plain.varTypes Tryz.pinned.checked.prog).any (Tryz.pinned.checked.prog.ifacesRec ·)))=true:=by kernel_rfl
theorem kz_f15:((Rows.keeperZeroRow.mapsOut==Tryz.pinned.checked.prog.mapsAmong Tryz.f3.resultTypes.toList))=true:=by kernel_rfl
theorem kz_f16:((Rows.keeperZeroRow.loops==(Tryz.f3.params.toList++Rows.keeperZeroSpec.plain.varTypes Tryz.pinned.checked.prog).any (Tryz.pinned.checked.prog.loopsFrom ·)))=true:=by kernel_rfl
theorem kz_f17:((Rows.keeperZeroRow.wideKeys==(Tryz.f3.params.toList++Rows.keeperZeroSpec.plain.varTypes Tryz.pinned.checked.prog++Tryz.f3.resultTypes.toList).any (Tryz.pinned.checked.prog.wideKeysFrom ·)))=true:=by kernel_rfl
theorem kz_f18:(Rows.keeperZeroSpec.vars.all (Tryz.pinned.checked.prog.varReadable ·))=true:=by kernel_rfl
theorem kz_f19:(Tryz.f3.resultTypes.all (λt=>Tryz.pinned.checked.prog.readableRec t&&decide (t<Tryz.pinned.checked.prog.types.size)))=true:=by kernel_rfl
theorem kz_f20:((Rows.keeperZeroRow.ifacesOut==Tryz.f3.resultTypes.toList.any (Tryz.pinned.checked.prog.ifacesRec ·)))=true:=by kernel_rfl
theorem kz_f21:((Rows.keeperZeroRow.loopsOut==Tryz.f3.resultTypes.toList.any (Tryz.pinned.checked.prog.loopsFrom ·)))=true:=by kernel_rfl
theorem kz_f22:((Rows.keeperZeroRow.plainKeys==Tryz.pinned.checked.prog.plainKeys))=true:=by kernel_rfl
theorem kz_f23:(Rows.keeperZeroRow.shortTexts.isNone)=true:=by kernel_rfl
theorem kz_f24:(Tryz.pinned.checked.prog.stopsHeard)=true:=by kernel_rfl
theorem kz_f25:(Tryz.pinned.checked.prog.mayEnter)=true:=by kernel_rfl
theorem kz_f26:((Rows.keeperZeroRow.lifted==Tryz.pinned.checked.prog.liftsFinal))=true:=by kernel_rfl
theorem kz_f27:((Tryz.pinned.checked.prog.make==some Rows.keeperZeroRow.make))=true:=by kernel_rfl
theorem kz_f29:((Rows.keeperZeroRow.pinned==Rows.keeperZeroRow.pinnedBy))=true:=by kernel_rfl
theorem kz_f30:((Rows.keeperZeroRow.veiled==(Tryz.f3.params.toList++Rows.keeperZeroSpec.plain.varTypes Tryz.pinned.checked.prog++Tryz.f3.resultTypes.toList).any (Tryz.pinned.checked.prog.veiledRec ·)))=true:=by kernel_rfl
theorem kz_f31:(Rows.keeperZeroRow.veiledFits Tryz.pinned.checked.prog Tryz.f3.params.toList (Tryz.f3.params.toList++Rows.keeperZeroSpec.plain.varTypes Tryz.pinned.checked.prog++Tryz.f3.resultTypes.toList))=true:=by kernel_rfl
theorem keeperZero_facts:joinedFacts Tryz.pinned.checked.prog 3 Tryz.f3 Rows.keeperZeroSpec Rows.keeperZeroRow=true:=by
 unfold joinedFacts;rw[kz_f0,kz_f1,kz_f2,kz_f3,kz_f4,kz_f5,kz_f6,kz_f7,kz_f8,kz_f9,kz_f10,kz_f11,kz_f12,kz_f13,kz_f14,kz_f15,kz_f16,kz_f17,kz_f18,kz_f19,kz_f20,kz_f21,kz_f22,kz_f23,kz_f24,kz_f25,kz_f26,kz_f27,kz_f29,kz_f30,kz_f31]
 kernel_rfl
end
end Go.Proofs.YtplpiicfkbpkaaaGreatDoor
