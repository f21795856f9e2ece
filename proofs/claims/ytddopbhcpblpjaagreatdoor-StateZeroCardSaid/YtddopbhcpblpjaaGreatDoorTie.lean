/-
  DERIVED. GIVEN WITH THE SEED: THE PROGRAM's TIES (one call each: nine closed facts by the kernel) AND EACH ROW's TIE, after the 31st guide's Derived/Test/Toyas{Tie, Card}.lean. No idea stands in it: it is a product of the set-up. Laid BY PROGRAM, IN A SANDBOX (cutbox-door.mjs). By AI agents, Wed Nov 11 2026. No macro, syntax, notation, axiom, sorry.
-/
import Derived.Test.YtddopbhcpblpjaaGreatDoorRows
import Derived.LaidByTextLater
import Derived.SevenTiedAt
import Derived.LaidSub
import Derived.LaidOnce
namespace Go.Proofs.YtddopbhcpblpjaaGreatDoor
open Go
set_option maxRecDepth 100000
theorem seatTie1 : Tryz.prog.laidByTextLater [("petrel/sha.first", Rows.laid_petrel_sha_first), ("petrel/sha.k", Rows.laid_petrel_sha_k), ("petrel/op.parts", Rows.laid_petrel_op_parts)] [.data, .data, .data] true :=
  Program.laidByTextLater_by_one 24 8 65 (by kernel_rfl) (by kernel_rfl) (by kernel_rfl) (by kernel_rfl) (by kernel_rfl) (by kernel_rfl) (fun _ _ => by kernel_rfl)
theorem noOwnUnsafe : Tryz.pinned.checked.prog.headLifts.contains "ownunsafe" = false := by kernel_rfl
theorem tie : Tryz.prog.laidByTextLater [("petrel/sha.first", Rows.laid_petrel_sha_first), ("petrel/sha.k", Rows.laid_petrel_sha_k), ("petrel/op.parts", Rows.laid_petrel_op_parts)] [.data, .data, .data] true :=
  Program.laidByTextLater.sub seatTie1 ["petrel/sha.first", "petrel/sha.k", "petrel/op.parts"] (by kernel_rfl) (by kernel_rfl)
theorem stateZero_row_tie : Rows.stateZeroRow.laidByTextAt .later Tryz.pinned [.data, .data, .data] true :=
  OpenClaim.laidByTextAt_later rfl rfl tie noOwnUnsafe
theorem stateZeroUpto_row_tie : Rows.stateZeroUptoRow.laidByTextAt .later Tryz.pinned [.data, .data, .data] true :=
  OpenClaim.laidByTextAt_later rfl rfl tie noOwnUnsafe
end Go.Proofs.YtddopbhcpblpjaaGreatDoor
