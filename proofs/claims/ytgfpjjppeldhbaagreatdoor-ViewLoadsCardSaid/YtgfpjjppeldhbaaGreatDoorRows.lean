/-
  NARROWER THAN 'FOR EVERY INPUT', by the rows' own cells (each row's printed sentence says how): DenotePlays: laid · DenoteOrder: laid · ViewOthers: laid · DenoteViews: laid · ViewPlays: laid · ViewZero: laid · ViewLoads: laid · ViewOrder: laid.
  DERIVED. THE GIVEN ROWS OF THIS SEAT. 8 by the template 'for every input the law returns true; each argument reads behind the call as it read before'; 0 by the template 'total and deterministic' (their statements: YtgfpjjppeldhbaaGreatDoorTotals.lean).
  GIVEN WITH THE SEED: the statements are not yours to turn. If you find one false, say at which input.
  Laid BY PROGRAM, IN A SANDBOX (cutbox-rows.mjs): the forced cells as the released guide's own fill.sh prints them over the translation c428203c55359ca3… (all of the seat's roots in one cut). By AI agents, Wed Nov 11 2026. No macro, syntax, notation, axiom, sorry.
-/
import Derived.Test.YtgfpjjppeldhbaaGreatDoorChecked
import GoSem.Claim
import GoSem.ClaimJoined
import GoSem.ClaimMapViews
import Derived.JoinedTies
import Derived.KernelRfl
namespace Go.Proofs.YtgfpjjppeldhbaaGreatDoor
/- THE CELL 'sum', in the pinned program and in every row, IS THE sha256 OF THE DUMP (.gsa) THAT YtgfpjjppeldhbaaGreatDoorProg.lean LOADS. Nothing in Lean hashes anything: it is a label: what it is worth is what the hold of that sum in a sandbox is worth. -/
noncomputable def Tryz.pinned : Pinned := { name := "ytgfpjjppeldhbaagreatdoor", sum := "c428203c55359ca3cbd81f8cb34bb683e94e87d288f16468d2f84e0a2580cfb9", checked := Tryz.checked }
namespace Rows
def none {H : Type} : Left H := { results := [], args := [] }

/- WHAT THE LISTED PACKAGE-LEVEL VARIABLES READ AS WHEN THE CALL BEGINS. Each datum BY PROGRAM (the guide's laid-datum.mjs) off the statement by which the dump's own 'gosem.cut.vars' lays the variable. In a bare row this is a premise. The card (YtgfpjjppeldhbaaGreatDoorCards.lean) ties it to the program's text. -/
def laid_petrel_op_parts {H : Type} : DataW H := .agg [.lit (.int .i64 0), .lit (.int .i64 1), .lit (.int .i64 4), .lit (.int .i64 20), .lit (.int .i64 7), .lit (.int .i64 22), .lit (.int .i64 12), .lit (.int .i64 8)]

/-- 'petrellaw27.DenotePlays': WHATEVER THE INPUT: true; the input reads as it did. -/
def denotePlaysSpec : ChangeSpec := { name := "denotePlays", fn := fun _ => fun
  | [d1, d2, d3] => { results := [.lit (.bool true)], args := [d1, d2, d3] }
  | _ => none }
def denotePlaysRow : OpenClaim := { program := "ytgfpjjppeldhbaagreatdoor", sum := "c428203c55359ca3cbd81f8cb34bb683e94e87d288f16468d2f84e0a2580cfb9", func := "petrel/petrellaw27.DenotePlays", spec := "denotePlays", inPlace := ["internal/bytealg.Compare"], unfollowed := true, recurses := true, named := ["petrel/op.parts"], plainKeys := false, apart := false, laid := [("petrel/op.parts", laid_petrel_op_parts)] }
def DenotePlaysSaid : Prop := denotePlaysRow.holds Tryz.pinned (OpenSpec.ofChange denotePlaysSpec)

/-- ITS FALSE NEIGHBOUR: 'it returns false'. Refute it at one input. -/
def denotePlaysWrong : ChangeSpec := { name := "denotePlays", fn := fun _ => fun
  | [d1, d2, d3] => { results := [.lit (.bool false)], args := [d1, d2, d3] }
  | _ => none }
def DenotePlaysWrongFalsely : Prop := denotePlaysRow.holds Tryz.pinned (OpenSpec.ofChange denotePlaysWrong)

/-- 'petrellaw27.DenoteOrder': WHATEVER THE INPUT: true; the input reads as it did. -/
def denoteOrderSpec : ChangeSpec := { name := "denoteOrder", fn := fun _ => fun
  | [d1, d2, d3] => { results := [.lit (.bool true)], args := [d1, d2, d3] }
  | _ => none }
def denoteOrderRow : OpenClaim := { program := "ytgfpjjppeldhbaagreatdoor", sum := "c428203c55359ca3cbd81f8cb34bb683e94e87d288f16468d2f84e0a2580cfb9", func := "petrel/petrellaw27.DenoteOrder", spec := "denoteOrder", inPlace := ["internal/bytealg.Compare"], unfollowed := true, recurses := true, named := ["petrel/op.parts"], plainKeys := false, apart := false, laid := [("petrel/op.parts", laid_petrel_op_parts)] }
def DenoteOrderSaid : Prop := denoteOrderRow.holds Tryz.pinned (OpenSpec.ofChange denoteOrderSpec)

/-- ITS FALSE NEIGHBOUR: 'it returns false'. Refute it at one input. -/
def denoteOrderWrong : ChangeSpec := { name := "denoteOrder", fn := fun _ => fun
  | [d1, d2, d3] => { results := [.lit (.bool false)], args := [d1, d2, d3] }
  | _ => none }
def DenoteOrderWrongFalsely : Prop := denoteOrderRow.holds Tryz.pinned (OpenSpec.ofChange denoteOrderWrong)

/-- 'petrellaw26.ViewOthers': WHATEVER THE INPUT: true; the input reads as it did. -/
def viewOthersSpec : ChangeSpec := { name := "viewOthers", fn := fun _ => fun
  | [d1, d2] => { results := [.lit (.bool true)], args := [d1, d2] }
  | _ => none }
def viewOthersRow : OpenClaim := { program := "ytgfpjjppeldhbaagreatdoor", sum := "c428203c55359ca3cbd81f8cb34bb683e94e87d288f16468d2f84e0a2580cfb9", func := "petrel/petrellaw26.ViewOthers", spec := "viewOthers", inPlace := ["internal/bytealg.Compare", "sync/atomic.AddInt64", "sync/atomic.LoadInt64"], unfollowed := true, recurses := true, named := ["petrel/op.parts"], plainKeys := false, apart := false, laid := [("petrel/op.parts", laid_petrel_op_parts)] }
def ViewOthersSaid : Prop := viewOthersRow.holds Tryz.pinned (OpenSpec.ofChange viewOthersSpec)

/-- ITS FALSE NEIGHBOUR: 'it returns false'. Refute it at one input. -/
def viewOthersWrong : ChangeSpec := { name := "viewOthers", fn := fun _ => fun
  | [d1, d2] => { results := [.lit (.bool false)], args := [d1, d2] }
  | _ => none }
def ViewOthersWrongFalsely : Prop := viewOthersRow.holds Tryz.pinned (OpenSpec.ofChange viewOthersWrong)

/-- 'petrellaw27.DenoteViews': WHATEVER THE INPUT: true; the input reads as it did. -/
def denoteViewsSpec : ChangeSpec := { name := "denoteViews", fn := fun _ => fun
  | [d1, d2] => { results := [.lit (.bool true)], args := [d1, d2] }
  | _ => none }
def denoteViewsRow : OpenClaim := { program := "ytgfpjjppeldhbaagreatdoor", sum := "c428203c55359ca3cbd81f8cb34bb683e94e87d288f16468d2f84e0a2580cfb9", func := "petrel/petrellaw27.DenoteViews", spec := "denoteViews", inPlace := ["internal/bytealg.Compare", "sync/atomic.AddInt64", "sync/atomic.LoadInt64"], unfollowed := true, recurses := true, named := ["petrel/op.parts"], plainKeys := false, apart := false, laid := [("petrel/op.parts", laid_petrel_op_parts)] }
def DenoteViewsSaid : Prop := denoteViewsRow.holds Tryz.pinned (OpenSpec.ofChange denoteViewsSpec)

/-- ITS FALSE NEIGHBOUR: 'it returns false'. Refute it at one input. -/
def denoteViewsWrong : ChangeSpec := { name := "denoteViews", fn := fun _ => fun
  | [d1, d2] => { results := [.lit (.bool false)], args := [d1, d2] }
  | _ => none }
def DenoteViewsWrongFalsely : Prop := denoteViewsRow.holds Tryz.pinned (OpenSpec.ofChange denoteViewsWrong)

/-- 'petrellaw26.ViewPlays': WHATEVER THE INPUT: true; the input reads as it did. -/
def viewPlaysSpec : ChangeSpec := { name := "viewPlays", fn := fun _ => fun
  | [d1, d2, d3] => { results := [.lit (.bool true)], args := [d1, d2, d3] }
  | _ => none }
def viewPlaysRow : OpenClaim := { program := "ytgfpjjppeldhbaagreatdoor", sum := "c428203c55359ca3cbd81f8cb34bb683e94e87d288f16468d2f84e0a2580cfb9", func := "petrel/petrellaw26.ViewPlays", spec := "viewPlays", inPlace := ["internal/bytealg.Compare", "sync/atomic.AddInt64", "sync/atomic.LoadInt64"], unfollowed := true, recurses := true, named := ["petrel/op.parts"], plainKeys := false, apart := false, laid := [("petrel/op.parts", laid_petrel_op_parts)] }
def ViewPlaysSaid : Prop := viewPlaysRow.holds Tryz.pinned (OpenSpec.ofChange viewPlaysSpec)

/-- ITS FALSE NEIGHBOUR: 'it returns false'. Refute it at one input. -/
def viewPlaysWrong : ChangeSpec := { name := "viewPlays", fn := fun _ => fun
  | [d1, d2, d3] => { results := [.lit (.bool false)], args := [d1, d2, d3] }
  | _ => none }
def ViewPlaysWrongFalsely : Prop := viewPlaysRow.holds Tryz.pinned (OpenSpec.ofChange viewPlaysWrong)

/-- 'petrellaw26.ViewZero': WHATEVER THE INPUT: true; the input reads as it did. -/
def viewZeroSpec : ChangeSpec := { name := "viewZero", fn := fun _ => fun
  | [d] => { results := [.lit (.bool true)], args := [d] }
  | _ => none }
def viewZeroRow : OpenClaim := { program := "ytgfpjjppeldhbaagreatdoor", sum := "c428203c55359ca3cbd81f8cb34bb683e94e87d288f16468d2f84e0a2580cfb9", func := "petrel/petrellaw26.ViewZero", spec := "viewZero", inPlace := ["internal/bytealg.Compare", "sync/atomic.AddInt64", "sync/atomic.LoadInt64"], unfollowed := true, recurses := true, named := ["petrel/op.parts"], plainKeys := false, apart := false, laid := [("petrel/op.parts", laid_petrel_op_parts)] }
def ViewZeroSaid : Prop := viewZeroRow.holds Tryz.pinned (OpenSpec.ofChange viewZeroSpec)

/-- ITS FALSE NEIGHBOUR: 'it returns false'. Refute it at one input. -/
def viewZeroWrong : ChangeSpec := { name := "viewZero", fn := fun _ => fun
  | [d] => { results := [.lit (.bool false)], args := [d] }
  | _ => none }
def ViewZeroWrongFalsely : Prop := viewZeroRow.holds Tryz.pinned (OpenSpec.ofChange viewZeroWrong)

/-- 'petrellaw26.ViewLoads': WHATEVER THE INPUT: true; the input reads as it did. -/
def viewLoadsSpec : ChangeSpec := { name := "viewLoads", fn := fun _ => fun
  | [d1, d2, d3] => { results := [.lit (.bool true)], args := [d1, d2, d3] }
  | _ => none }
def viewLoadsRow : OpenClaim := { program := "ytgfpjjppeldhbaagreatdoor", sum := "c428203c55359ca3cbd81f8cb34bb683e94e87d288f16468d2f84e0a2580cfb9", func := "petrel/petrellaw26.ViewLoads", spec := "viewLoads", inPlace := ["internal/bytealg.Compare", "sync/atomic.AddInt64", "sync/atomic.LoadInt64", "sync/atomic.StoreInt64"], unfollowed := true, recurses := true, named := ["petrel/op.parts"], plainKeys := false, apart := false, laid := [("petrel/op.parts", laid_petrel_op_parts)] }
def ViewLoadsSaid : Prop := viewLoadsRow.holds Tryz.pinned (OpenSpec.ofChange viewLoadsSpec)

/-- ITS FALSE NEIGHBOUR: 'it returns false'. Refute it at one input. -/
def viewLoadsWrong : ChangeSpec := { name := "viewLoads", fn := fun _ => fun
  | [d1, d2, d3] => { results := [.lit (.bool false)], args := [d1, d2, d3] }
  | _ => none }
def ViewLoadsWrongFalsely : Prop := viewLoadsRow.holds Tryz.pinned (OpenSpec.ofChange viewLoadsWrong)

/-- 'petrellaw26.ViewOrder': WHATEVER THE INPUT: true; the input reads as it did. -/
def viewOrderSpec : ChangeSpec := { name := "viewOrder", fn := fun _ => fun
  | [d1, d2, d3, d4] => { results := [.lit (.bool true)], args := [d1, d2, d3, d4] }
  | _ => none }
def viewOrderRow : OpenClaim := { program := "ytgfpjjppeldhbaagreatdoor", sum := "c428203c55359ca3cbd81f8cb34bb683e94e87d288f16468d2f84e0a2580cfb9", func := "petrel/petrellaw26.ViewOrder", spec := "viewOrder", inPlace := ["internal/bytealg.Compare", "sync/atomic.AddInt64", "sync/atomic.LoadInt64", "sync/atomic.StoreInt64"], unfollowed := true, recurses := true, named := ["petrel/op.parts"], plainKeys := false, apart := false, laid := [("petrel/op.parts", laid_petrel_op_parts)] }
def ViewOrderSaid : Prop := viewOrderRow.holds Tryz.pinned (OpenSpec.ofChange viewOrderSpec)

/-- ITS FALSE NEIGHBOUR: 'it returns false'. Refute it at one input. -/
def viewOrderWrong : ChangeSpec := { name := "viewOrder", fn := fun _ => fun
  | [d1, d2, d3, d4] => { results := [.lit (.bool false)], args := [d1, d2, d3, d4] }
  | _ => none }
def ViewOrderWrongFalsely : Prop := viewOrderRow.holds Tryz.pinned (OpenSpec.ofChange viewOrderWrong)

/- THE SECOND FORM. 'bulk': how many values and letters a reading holds, each counted each time it is reached (what is shared counts as often as it is met; a slice's spare places count too). A statement '..UptoSaid' is the law's where the arguments, and the package variables that the reading takes, are together of bulk at most 1048576: NARROWER than '..Said'. Prove '..Said' where nothing that the law and all that it calls make is longer than what came in: it says more and counts as full. Else prove '..UptoSaid'. A law counts once. -/
mutual
def uptoBulk {H : Type} : DataW H → Nat
  | .lit (.string bytes) => bytes.length + 1
  | .lit _ => 1
  | .nil => 1
  | .ptr d => uptoBulk d + 1
  | .slice elems spare => uptoBulkAll elems + uptoBulkAll spare + 1
  | .agg parts => uptoBulkAll parts + 1
  | .iface _ d => uptoBulk d + 1
  | .map entries => uptoBulkEntries entries + 1
  | .held _ => 1
def uptoBulkAll {H : Type} : List (DataW H) → Nat
  | [] => 0
  | d :: r => uptoBulk d + uptoBulkAll r
def uptoBulkEntries {H : Type} : List (Lit × DataW H) → Nat
  | [] => 0
  | x :: r => uptoBulkEntry x + uptoBulkEntries r
def uptoBulkEntry {H : Type} : Lit × DataW H → Nat
  | (.string bytes, d) => bytes.length + uptoBulk d + 1
  | (_, d) => uptoBulk d + 1
 end
def uptoSmall : (H : Type) → List (DataW H) → Bool := fun _ ds => decide (uptoBulkAll ds ≤ 1048576)
def OpenSpec.upto (s : _root_.Go.ChangeSpec) : _root_.Go.OpenSpec := { _root_.Go.OpenSpec.ofChange s with cond := some uptoSmall }

/-- 'petrellaw27.DenotePlays', WHERE WHAT IT READS IS OF BULK AT MOST 1048576: true; the input reads as it did. -/
def denotePlaysUptoRow : OpenClaim := { program := "ytgfpjjppeldhbaagreatdoor", sum := "c428203c55359ca3cbd81f8cb34bb683e94e87d288f16468d2f84e0a2580cfb9", func := "petrel/petrellaw27.DenotePlays", spec := "denotePlays", inPlace := ["internal/bytealg.Compare"], unfollowed := true, recurses := true, named := ["petrel/op.parts"], plainKeys := false, apart := false, laid := [("petrel/op.parts", laid_petrel_op_parts)], narrowed := true }
def DenotePlaysUptoSaid : Prop := denotePlaysUptoRow.holds Tryz.pinned (OpenSpec.upto denotePlaysSpec)

/-- 'petrellaw27.DenoteOrder', WHERE WHAT IT READS IS OF BULK AT MOST 1048576: true; the input reads as it did. -/
def denoteOrderUptoRow : OpenClaim := { program := "ytgfpjjppeldhbaagreatdoor", sum := "c428203c55359ca3cbd81f8cb34bb683e94e87d288f16468d2f84e0a2580cfb9", func := "petrel/petrellaw27.DenoteOrder", spec := "denoteOrder", inPlace := ["internal/bytealg.Compare"], unfollowed := true, recurses := true, named := ["petrel/op.parts"], plainKeys := false, apart := false, laid := [("petrel/op.parts", laid_petrel_op_parts)], narrowed := true }
def DenoteOrderUptoSaid : Prop := denoteOrderUptoRow.holds Tryz.pinned (OpenSpec.upto denoteOrderSpec)

/-- 'petrellaw26.ViewOthers', WHERE WHAT IT READS IS OF BULK AT MOST 1048576: true; the input reads as it did. -/
def viewOthersUptoRow : OpenClaim := { program := "ytgfpjjppeldhbaagreatdoor", sum := "c428203c55359ca3cbd81f8cb34bb683e94e87d288f16468d2f84e0a2580cfb9", func := "petrel/petrellaw26.ViewOthers", spec := "viewOthers", inPlace := ["internal/bytealg.Compare", "sync/atomic.AddInt64", "sync/atomic.LoadInt64"], unfollowed := true, recurses := true, named := ["petrel/op.parts"], plainKeys := false, apart := false, laid := [("petrel/op.parts", laid_petrel_op_parts)], narrowed := true }
def ViewOthersUptoSaid : Prop := viewOthersUptoRow.holds Tryz.pinned (OpenSpec.upto viewOthersSpec)

/-- 'petrellaw27.DenoteViews', WHERE WHAT IT READS IS OF BULK AT MOST 1048576: true; the input reads as it did. -/
def denoteViewsUptoRow : OpenClaim := { program := "ytgfpjjppeldhbaagreatdoor", sum := "c428203c55359ca3cbd81f8cb34bb683e94e87d288f16468d2f84e0a2580cfb9", func := "petrel/petrellaw27.DenoteViews", spec := "denoteViews", inPlace := ["internal/bytealg.Compare", "sync/atomic.AddInt64", "sync/atomic.LoadInt64"], unfollowed := true, recurses := true, named := ["petrel/op.parts"], plainKeys := false, apart := false, laid := [("petrel/op.parts", laid_petrel_op_parts)], narrowed := true }
def DenoteViewsUptoSaid : Prop := denoteViewsUptoRow.holds Tryz.pinned (OpenSpec.upto denoteViewsSpec)

/-- 'petrellaw26.ViewPlays', WHERE WHAT IT READS IS OF BULK AT MOST 1048576: true; the input reads as it did. -/
def viewPlaysUptoRow : OpenClaim := { program := "ytgfpjjppeldhbaagreatdoor", sum := "c428203c55359ca3cbd81f8cb34bb683e94e87d288f16468d2f84e0a2580cfb9", func := "petrel/petrellaw26.ViewPlays", spec := "viewPlays", inPlace := ["internal/bytealg.Compare", "sync/atomic.AddInt64", "sync/atomic.LoadInt64"], unfollowed := true, recurses := true, named := ["petrel/op.parts"], plainKeys := false, apart := false, laid := [("petrel/op.parts", laid_petrel_op_parts)], narrowed := true }
def ViewPlaysUptoSaid : Prop := viewPlaysUptoRow.holds Tryz.pinned (OpenSpec.upto viewPlaysSpec)

/-- 'petrellaw26.ViewZero', WHERE WHAT IT READS IS OF BULK AT MOST 1048576: true; the input reads as it did. -/
def viewZeroUptoRow : OpenClaim := { program := "ytgfpjjppeldhbaagreatdoor", sum := "c428203c55359ca3cbd81f8cb34bb683e94e87d288f16468d2f84e0a2580cfb9", func := "petrel/petrellaw26.ViewZero", spec := "viewZero", inPlace := ["internal/bytealg.Compare", "sync/atomic.AddInt64", "sync/atomic.LoadInt64"], unfollowed := true, recurses := true, named := ["petrel/op.parts"], plainKeys := false, apart := false, laid := [("petrel/op.parts", laid_petrel_op_parts)], narrowed := true }
def ViewZeroUptoSaid : Prop := viewZeroUptoRow.holds Tryz.pinned (OpenSpec.upto viewZeroSpec)

/-- 'petrellaw26.ViewLoads', WHERE WHAT IT READS IS OF BULK AT MOST 1048576: true; the input reads as it did. -/
def viewLoadsUptoRow : OpenClaim := { program := "ytgfpjjppeldhbaagreatdoor", sum := "c428203c55359ca3cbd81f8cb34bb683e94e87d288f16468d2f84e0a2580cfb9", func := "petrel/petrellaw26.ViewLoads", spec := "viewLoads", inPlace := ["internal/bytealg.Compare", "sync/atomic.AddInt64", "sync/atomic.LoadInt64", "sync/atomic.StoreInt64"], unfollowed := true, recurses := true, named := ["petrel/op.parts"], plainKeys := false, apart := false, laid := [("petrel/op.parts", laid_petrel_op_parts)], narrowed := true }
def ViewLoadsUptoSaid : Prop := viewLoadsUptoRow.holds Tryz.pinned (OpenSpec.upto viewLoadsSpec)

/-- 'petrellaw26.ViewOrder', WHERE WHAT IT READS IS OF BULK AT MOST 1048576: true; the input reads as it did. -/
def viewOrderUptoRow : OpenClaim := { program := "ytgfpjjppeldhbaagreatdoor", sum := "c428203c55359ca3cbd81f8cb34bb683e94e87d288f16468d2f84e0a2580cfb9", func := "petrel/petrellaw26.ViewOrder", spec := "viewOrder", inPlace := ["internal/bytealg.Compare", "sync/atomic.AddInt64", "sync/atomic.LoadInt64", "sync/atomic.StoreInt64"], unfollowed := true, recurses := true, named := ["petrel/op.parts"], plainKeys := false, apart := false, laid := [("petrel/op.parts", laid_petrel_op_parts)], narrowed := true }
def ViewOrderUptoSaid : Prop := viewOrderUptoRow.holds Tryz.pinned (OpenSpec.upto viewOrderSpec)

end Rows
end Go.Proofs.YtgfpjjppeldhbaaGreatDoor
