/- The shelf's contract of slices.SortFunc laid at this dump by the kit's own tool (lay-plain). -/
import Derived.Shelf.Spec.SlicesGrow
import Derived.Test.YtplpiicfkbpkaaaGreatDoorProg
namespace Go.Proofs
open Go.Shelf
def Tryz.layGrowId_ren : Go.Shelf.Ren := ⟨fun | 4 => 312 | n => n, fun | 22 => 26 | 25 => 23 | 3 => 3 | 4 => 4 | 9 => 9 | 20 => 20 | 0 => 0 | n => n, fun | n => n⟩
theorem Tryz.layGrowId : Go.Proofs.Lays8.n4 Tryz.prog Tryz.layGrowId_ren := {
  mixed := by kernel_rfl
  f4 := ⟨Tryz.f312.name, by decide, Tryz.func312.trans (congrArg some (by kernel_rfl))⟩
  t0 := Tryz.underlying0
  a0 := Tryz.isAgg0
  z0 := Tryz.sizeOf0
  v0 := Tryz.zeroValue0
  t3 := Tryz.underlying3
  a3 := Tryz.isAgg3
  z3 := Tryz.sizeOf3
  v3 := Tryz.zeroValue3
  t4 := Tryz.underlying4
  a4 := Tryz.isAgg4
  z4 := Tryz.sizeOf4
  v4 := Tryz.zeroValue4
  t9 := Tryz.underlying9
  a9 := Tryz.isAgg9
  z9 := Tryz.sizeOf9
  v9 := Tryz.zeroValue9
  t20 := Tryz.underlying20
  a20 := Tryz.isAgg20
  z20 := Tryz.sizeOf20
  v20 := Tryz.zeroValue20
  t22 := Tryz.underlying26
  a22 := Tryz.isAgg26
  z22 := Tryz.sizeOf26
  v22 := Tryz.zeroValue26 }
end Go.Proofs
