/-
  No cell of these rows narrows 'for every input' (looked for: loops, veiled, ifaces, maps, wideKeys, modest, calm, conditions, laid).
  DERIVED. THE GIVEN ROWS OF THIS SEAT. 10 by the template 'for every input the law returns true; each argument reads behind the call as it read before'; 0 by the template 'total and deterministic' (their statements: YtlonihfhgfmplaaTotals.lean).
  GIVEN WITH THE SEED: the statements are not yours to turn. If you find one false, say at which input.
  Laid BY PROGRAM, IN A SANDBOX (cutbox-rows.mjs): the forced cells as the released guide's own fill.sh prints them over the translation dd37dd4a96671bcb… (all of the seat's roots in one cut). By AI agents, Wed Nov 11 2026. No macro, syntax, notation, axiom, sorry.
-/
import Derived.Test.YtlonihfhgfmplaaChecked
import GoSem.Claim
import GoSem.ClaimJoined
import GoSem.ClaimMapViews
import Derived.JoinedTies
import Derived.KernelRfl
namespace Go.Proofs.Ytlonihfhgfmplaa
/- THE CELL 'sum', in the pinned program and in every row, IS THE sha256 OF THE DUMP (.gsa) THAT YtlonihfhgfmplaaProg.lean LOADS. Nothing in Lean hashes anything: it is a label: what it is worth is what the hold of that sum in a sandbox is worth. -/
noncomputable def Try.pinned : Pinned := { name := "ytlonihfhgfmplaa", sum := "dd37dd4a96671bcb5766b5047d95d9b6fa546de6d251e6ccfef361a042160b1e", checked := Try.checked }
namespace Rows
def none {H : Type} : Left H := { results := [], args := [] }

/-- 'petrellaw23.LastWins': WHATEVER THE INPUT: true; the input reads as it did. -/
def lastWinsSpec : ChangeSpec := { name := "lastWins", fn := fun _ => fun
  | [d1, d2, d3, d4, d5] => { results := [.lit (.bool true)], args := [d1, d2, d3, d4, d5] }
  | _ => none }
def lastWinsRow : OpenClaim := { program := "ytlonihfhgfmplaa", sum := "dd37dd4a96671bcb5766b5047d95d9b6fa546de6d251e6ccfef361a042160b1e", func := "petrel/petrellaw23.LastWins", spec := "lastWins", inPlace := ["internal/bytealg.Compare"], unfollowed := true, recurses := true, plainKeys := false, apart := false }
def LastWinsSaid : Prop := lastWinsRow.holds Try.pinned (OpenSpec.ofChange lastWinsSpec)

/-- ITS FALSE NEIGHBOUR: 'it returns false'. Refute it at one input. -/
def lastWinsWrong : ChangeSpec := { name := "lastWins", fn := fun _ => fun
  | [d1, d2, d3, d4, d5] => { results := [.lit (.bool false)], args := [d1, d2, d3, d4, d5] }
  | _ => none }
def LastWinsWrongFalsely : Prop := lastWinsRow.holds Try.pinned (OpenSpec.ofChange lastWinsWrong)

/-- 'petrellaw23.LastPlays': WHATEVER THE INPUT: true; the input reads as it did. -/
def lastPlaysSpec : ChangeSpec := { name := "lastPlays", fn := fun _ => fun
  | [d1, d2] => { results := [.lit (.bool true)], args := [d1, d2] }
  | _ => none }
def lastPlaysRow : OpenClaim := { program := "ytlonihfhgfmplaa", sum := "dd37dd4a96671bcb5766b5047d95d9b6fa546de6d251e6ccfef361a042160b1e", func := "petrel/petrellaw23.LastPlays", spec := "lastPlays", inPlace := ["internal/bytealg.Compare"], unfollowed := true, recurses := true, plainKeys := false, apart := false }
def LastPlaysSaid : Prop := lastPlaysRow.holds Try.pinned (OpenSpec.ofChange lastPlaysSpec)

/-- ITS FALSE NEIGHBOUR: 'it returns false'. Refute it at one input. -/
def lastPlaysWrong : ChangeSpec := { name := "lastPlays", fn := fun _ => fun
  | [d1, d2] => { results := [.lit (.bool false)], args := [d1, d2] }
  | _ => none }
def LastPlaysWrongFalsely : Prop := lastPlaysRow.holds Try.pinned (OpenSpec.ofChange lastPlaysWrong)

/-- 'petrellaw23.LastZero': WHATEVER THE INPUT: true; the input reads as it did. -/
def lastZeroSpec : ChangeSpec := { name := "lastZero", fn := fun _ => fun
  | [d1, d2] => { results := [.lit (.bool true)], args := [d1, d2] }
  | _ => none }
def lastZeroRow : OpenClaim := { program := "ytlonihfhgfmplaa", sum := "dd37dd4a96671bcb5766b5047d95d9b6fa546de6d251e6ccfef361a042160b1e", func := "petrel/petrellaw23.LastZero", spec := "lastZero", inPlace := ["internal/bytealg.Compare"], unfollowed := true, recurses := true, plainKeys := false, apart := false }
def LastZeroSaid : Prop := lastZeroRow.holds Try.pinned (OpenSpec.ofChange lastZeroSpec)

/-- ITS FALSE NEIGHBOUR: 'it returns false'. Refute it at one input. -/
def lastZeroWrong : ChangeSpec := { name := "lastZero", fn := fun _ => fun
  | [d1, d2] => { results := [.lit (.bool false)], args := [d1, d2] }
  | _ => none }
def LastZeroWrongFalsely : Prop := lastZeroRow.holds Try.pinned (OpenSpec.ofChange lastZeroWrong)

/-- 'petrellaw23.LastLoads': WHATEVER THE INPUT: true; the input reads as it did. -/
def lastLoadsSpec : ChangeSpec := { name := "lastLoads", fn := fun _ => fun
  | [d] => { results := [.lit (.bool true)], args := [d] }
  | _ => none }
def lastLoadsRow : OpenClaim := { program := "ytlonihfhgfmplaa", sum := "dd37dd4a96671bcb5766b5047d95d9b6fa546de6d251e6ccfef361a042160b1e", func := "petrel/petrellaw23.LastLoads", spec := "lastLoads", inPlace := ["internal/bytealg.Compare"], unfollowed := true, recurses := true, plainKeys := false, apart := false }
def LastLoadsSaid : Prop := lastLoadsRow.holds Try.pinned (OpenSpec.ofChange lastLoadsSpec)

/-- ITS FALSE NEIGHBOUR: 'it returns false'. Refute it at one input. -/
def lastLoadsWrong : ChangeSpec := { name := "lastLoads", fn := fun _ => fun
  | [d] => { results := [.lit (.bool false)], args := [d] }
  | _ => none }
def LastLoadsWrongFalsely : Prop := lastLoadsRow.holds Try.pinned (OpenSpec.ofChange lastLoadsWrong)

/-- 'petrellaw23.LastOrder': WHATEVER THE INPUT: true; the input reads as it did. -/
def lastOrderSpec : ChangeSpec := { name := "lastOrder", fn := fun _ => fun
  | [d1, d2, d3] => { results := [.lit (.bool true)], args := [d1, d2, d3] }
  | _ => none }
def lastOrderRow : OpenClaim := { program := "ytlonihfhgfmplaa", sum := "dd37dd4a96671bcb5766b5047d95d9b6fa546de6d251e6ccfef361a042160b1e", func := "petrel/petrellaw23.LastOrder", spec := "lastOrder", inPlace := ["internal/bytealg.Compare"], unfollowed := true, recurses := true, plainKeys := false, apart := false }
def LastOrderSaid : Prop := lastOrderRow.holds Try.pinned (OpenSpec.ofChange lastOrderSpec)

/-- ITS FALSE NEIGHBOUR: 'it returns false'. Refute it at one input. -/
def lastOrderWrong : ChangeSpec := { name := "lastOrder", fn := fun _ => fun
  | [d1, d2, d3] => { results := [.lit (.bool false)], args := [d1, d2, d3] }
  | _ => none }
def LastOrderWrongFalsely : Prop := lastOrderRow.holds Try.pinned (OpenSpec.ofChange lastOrderWrong)

/-- 'petrellaw22.BagGone': WHATEVER THE INPUT: true; the input reads as it did. -/
def bagGoneSpec : ChangeSpec := { name := "bagGone", fn := fun _ => fun
  | [d1, d2, d3] => { results := [.lit (.bool true)], args := [d1, d2, d3] }
  | _ => none }
def bagGoneRow : OpenClaim := { program := "ytlonihfhgfmplaa", sum := "dd37dd4a96671bcb5766b5047d95d9b6fa546de6d251e6ccfef361a042160b1e", func := "petrel/petrellaw22.BagGone", spec := "bagGone", inPlace := ["internal/bytealg.Compare"], unfollowed := true, recurses := true, plainKeys := false, apart := false }
def BagGoneSaid : Prop := bagGoneRow.holds Try.pinned (OpenSpec.ofChange bagGoneSpec)

/-- ITS FALSE NEIGHBOUR: 'it returns false'. Refute it at one input. -/
def bagGoneWrong : ChangeSpec := { name := "bagGone", fn := fun _ => fun
  | [d1, d2, d3] => { results := [.lit (.bool false)], args := [d1, d2, d3] }
  | _ => none }
def BagGoneWrongFalsely : Prop := bagGoneRow.holds Try.pinned (OpenSpec.ofChange bagGoneWrong)

/-- 'petrellaw22.BagPlays': WHATEVER THE INPUT: true; the input reads as it did. -/
def bagPlaysSpec : ChangeSpec := { name := "bagPlays", fn := fun _ => fun
  | [d1, d2] => { results := [.lit (.bool true)], args := [d1, d2] }
  | _ => none }
def bagPlaysRow : OpenClaim := { program := "ytlonihfhgfmplaa", sum := "dd37dd4a96671bcb5766b5047d95d9b6fa546de6d251e6ccfef361a042160b1e", func := "petrel/petrellaw22.BagPlays", spec := "bagPlays", inPlace := ["internal/bytealg.Compare"], unfollowed := true, recurses := true, plainKeys := false, apart := false }
def BagPlaysSaid : Prop := bagPlaysRow.holds Try.pinned (OpenSpec.ofChange bagPlaysSpec)

/-- ITS FALSE NEIGHBOUR: 'it returns false'. Refute it at one input. -/
def bagPlaysWrong : ChangeSpec := { name := "bagPlays", fn := fun _ => fun
  | [d1, d2] => { results := [.lit (.bool false)], args := [d1, d2] }
  | _ => none }
def BagPlaysWrongFalsely : Prop := bagPlaysRow.holds Try.pinned (OpenSpec.ofChange bagPlaysWrong)

/-- 'petrellaw22.BagZero': WHATEVER THE INPUT: true; the input reads as it did. -/
def bagZeroSpec : ChangeSpec := { name := "bagZero", fn := fun _ => fun
  | [d1, d2] => { results := [.lit (.bool true)], args := [d1, d2] }
  | _ => none }
def bagZeroRow : OpenClaim := { program := "ytlonihfhgfmplaa", sum := "dd37dd4a96671bcb5766b5047d95d9b6fa546de6d251e6ccfef361a042160b1e", func := "petrel/petrellaw22.BagZero", spec := "bagZero", inPlace := ["internal/bytealg.Compare"], unfollowed := true, recurses := true, plainKeys := false, apart := false }
def BagZeroSaid : Prop := bagZeroRow.holds Try.pinned (OpenSpec.ofChange bagZeroSpec)

/-- ITS FALSE NEIGHBOUR: 'it returns false'. Refute it at one input. -/
def bagZeroWrong : ChangeSpec := { name := "bagZero", fn := fun _ => fun
  | [d1, d2] => { results := [.lit (.bool false)], args := [d1, d2] }
  | _ => none }
def BagZeroWrongFalsely : Prop := bagZeroRow.holds Try.pinned (OpenSpec.ofChange bagZeroWrong)

/-- 'petrellaw22.BagLoads': WHATEVER THE INPUT: true; the input reads as it did. -/
def bagLoadsSpec : ChangeSpec := { name := "bagLoads", fn := fun _ => fun
  | [d] => { results := [.lit (.bool true)], args := [d] }
  | _ => none }
def bagLoadsRow : OpenClaim := { program := "ytlonihfhgfmplaa", sum := "dd37dd4a96671bcb5766b5047d95d9b6fa546de6d251e6ccfef361a042160b1e", func := "petrel/petrellaw22.BagLoads", spec := "bagLoads", inPlace := ["internal/bytealg.Compare"], unfollowed := true, recurses := true, plainKeys := false, apart := false }
def BagLoadsSaid : Prop := bagLoadsRow.holds Try.pinned (OpenSpec.ofChange bagLoadsSpec)

/-- ITS FALSE NEIGHBOUR: 'it returns false'. Refute it at one input. -/
def bagLoadsWrong : ChangeSpec := { name := "bagLoads", fn := fun _ => fun
  | [d] => { results := [.lit (.bool false)], args := [d] }
  | _ => none }
def BagLoadsWrongFalsely : Prop := bagLoadsRow.holds Try.pinned (OpenSpec.ofChange bagLoadsWrong)

/-- 'petrellaw22.BagOrder': WHATEVER THE INPUT: true; the input reads as it did. -/
def bagOrderSpec : ChangeSpec := { name := "bagOrder", fn := fun _ => fun
  | [d1, d2, d3] => { results := [.lit (.bool true)], args := [d1, d2, d3] }
  | _ => none }
def bagOrderRow : OpenClaim := { program := "ytlonihfhgfmplaa", sum := "dd37dd4a96671bcb5766b5047d95d9b6fa546de6d251e6ccfef361a042160b1e", func := "petrel/petrellaw22.BagOrder", spec := "bagOrder", inPlace := ["internal/bytealg.Compare"], unfollowed := true, recurses := true, plainKeys := false, apart := false }
def BagOrderSaid : Prop := bagOrderRow.holds Try.pinned (OpenSpec.ofChange bagOrderSpec)

/-- ITS FALSE NEIGHBOUR: 'it returns false'. Refute it at one input. -/
def bagOrderWrong : ChangeSpec := { name := "bagOrder", fn := fun _ => fun
  | [d1, d2, d3] => { results := [.lit (.bool false)], args := [d1, d2, d3] }
  | _ => none }
def BagOrderWrongFalsely : Prop := bagOrderRow.holds Try.pinned (OpenSpec.ofChange bagOrderWrong)

/- THE SECOND FORM. 'bulk': how many values and letters a reading holds, each counted each time it is reached (what is shared counts as often as it is met; a slice's spare places count too). A statement '..UptoSaid' is the law's where the arguments, and the package variables that the reading takes, are together of bulk at most 1048576: NARROWER than '..Said'. Prove '..Said' where nothing that the law and all that it calls make is longer than what came in: it says more and counts as full. Else prove '..UptoSaid'. A law counts once. -/
mutual
def uptoBulk {H : Type} : DataW H → Nat
  | .lit (.string bytes) => bytes.length + 1
  | .lit _ => 1
  | .nil => 1
  | .ptr d => uptoBulk d + 1
  | .slice elems spare => uptoBulkAll elems + uptoBulkAll spare + 1
  | .agg parts => uptoBulkAll parts + 1
  | .iface _ d => uptoBulk d + 1
  | .map entries => uptoBulkEntries entries + 1
  | .held _ => 1
def uptoBulkAll {H : Type} : List (DataW H) → Nat
  | [] => 0
  | d :: r => uptoBulk d + uptoBulkAll r
def uptoBulkEntries {H : Type} : List (Lit × DataW H) → Nat
  | [] => 0
  | x :: r => uptoBulkEntry x + uptoBulkEntries r
def uptoBulkEntry {H : Type} : Lit × DataW H → Nat
  | (.string bytes, d) => bytes.length + uptoBulk d + 1
  | (_, d) => uptoBulk d + 1
 end
def uptoSmall : (H : Type) → List (DataW H) → Bool := fun _ ds => decide (uptoBulkAll ds ≤ 1048576)
def OpenSpec.upto (s : _root_.Go.ChangeSpec) : _root_.Go.OpenSpec := { _root_.Go.OpenSpec.ofChange s with cond := some uptoSmall }

/-- 'petrellaw23.LastWins', WHERE WHAT IT READS IS OF BULK AT MOST 1048576: true; the input reads as it did. -/
def lastWinsUptoRow : OpenClaim := { program := "ytlonihfhgfmplaa", sum := "dd37dd4a96671bcb5766b5047d95d9b6fa546de6d251e6ccfef361a042160b1e", func := "petrel/petrellaw23.LastWins", spec := "lastWins", inPlace := ["internal/bytealg.Compare"], unfollowed := true, recurses := true, plainKeys := false, apart := false, narrowed := true }
def LastWinsUptoSaid : Prop := lastWinsUptoRow.holds Try.pinned (OpenSpec.upto lastWinsSpec)

/-- 'petrellaw23.LastPlays', WHERE WHAT IT READS IS OF BULK AT MOST 1048576: true; the input reads as it did. -/
def lastPlaysUptoRow : OpenClaim := { program := "ytlonihfhgfmplaa", sum := "dd37dd4a96671bcb5766b5047d95d9b6fa546de6d251e6ccfef361a042160b1e", func := "petrel/petrellaw23.LastPlays", spec := "lastPlays", inPlace := ["internal/bytealg.Compare"], unfollowed := true, recurses := true, plainKeys := false, apart := false, narrowed := true }
def LastPlaysUptoSaid : Prop := lastPlaysUptoRow.holds Try.pinned (OpenSpec.upto lastPlaysSpec)

/-- 'petrellaw23.LastZero', WHERE WHAT IT READS IS OF BULK AT MOST 1048576: true; the input reads as it did. -/
def lastZeroUptoRow : OpenClaim := { program := "ytlonihfhgfmplaa", sum := "dd37dd4a96671bcb5766b5047d95d9b6fa546de6d251e6ccfef361a042160b1e", func := "petrel/petrellaw23.LastZero", spec := "lastZero", inPlace := ["internal/bytealg.Compare"], unfollowed := true, recurses := true, plainKeys := false, apart := false, narrowed := true }
def LastZeroUptoSaid : Prop := lastZeroUptoRow.holds Try.pinned (OpenSpec.upto lastZeroSpec)

/-- 'petrellaw23.LastLoads', WHERE WHAT IT READS IS OF BULK AT MOST 1048576: true; the input reads as it did. -/
def lastLoadsUptoRow : OpenClaim := { program := "ytlonihfhgfmplaa", sum := "dd37dd4a96671bcb5766b5047d95d9b6fa546de6d251e6ccfef361a042160b1e", func := "petrel/petrellaw23.LastLoads", spec := "lastLoads", inPlace := ["internal/bytealg.Compare"], unfollowed := true, recurses := true, plainKeys := false, apart := false, narrowed := true }
def LastLoadsUptoSaid : Prop := lastLoadsUptoRow.holds Try.pinned (OpenSpec.upto lastLoadsSpec)

/-- 'petrellaw23.LastOrder', WHERE WHAT IT READS IS OF BULK AT MOST 1048576: true; the input reads as it did. -/
def lastOrderUptoRow : OpenClaim := { program := "ytlonihfhgfmplaa", sum := "dd37dd4a96671bcb5766b5047d95d9b6fa546de6d251e6ccfef361a042160b1e", func := "petrel/petrellaw23.LastOrder", spec := "lastOrder", inPlace := ["internal/bytealg.Compare"], unfollowed := true, recurses := true, plainKeys := false, apart := false, narrowed := true }
def LastOrderUptoSaid : Prop := lastOrderUptoRow.holds Try.pinned (OpenSpec.upto lastOrderSpec)

/-- 'petrellaw22.BagGone', WHERE WHAT IT READS IS OF BULK AT MOST 1048576: true; the input reads as it did. -/
def bagGoneUptoRow : OpenClaim := { program := "ytlonihfhgfmplaa", sum := "dd37dd4a96671bcb5766b5047d95d9b6fa546de6d251e6ccfef361a042160b1e", func := "petrel/petrellaw22.BagGone", spec := "bagGone", inPlace := ["internal/bytealg.Compare"], unfollowed := true, recurses := true, plainKeys := false, apart := false, narrowed := true }
def BagGoneUptoSaid : Prop := bagGoneUptoRow.holds Try.pinned (OpenSpec.upto bagGoneSpec)

/-- 'petrellaw22.BagPlays', WHERE WHAT IT READS IS OF BULK AT MOST 1048576: true; the input reads as it did. -/
def bagPlaysUptoRow : OpenClaim := { program := "ytlonihfhgfmplaa", sum := "dd37dd4a96671bcb5766b5047d95d9b6fa546de6d251e6ccfef361a042160b1e", func := "petrel/petrellaw22.BagPlays", spec := "bagPlays", inPlace := ["internal/bytealg.Compare"], unfollowed := true, recurses := true, plainKeys := false, apart := false, narrowed := true }
def BagPlaysUptoSaid : Prop := bagPlaysUptoRow.holds Try.pinned (OpenSpec.upto bagPlaysSpec)

/-- 'petrellaw22.BagZero', WHERE WHAT IT READS IS OF BULK AT MOST 1048576: true; the input reads as it did. -/
def bagZeroUptoRow : OpenClaim := { program := "ytlonihfhgfmplaa", sum := "dd37dd4a96671bcb5766b5047d95d9b6fa546de6d251e6ccfef361a042160b1e", func := "petrel/petrellaw22.BagZero", spec := "bagZero", inPlace := ["internal/bytealg.Compare"], unfollowed := true, recurses := true, plainKeys := false, apart := false, narrowed := true }
def BagZeroUptoSaid : Prop := bagZeroUptoRow.holds Try.pinned (OpenSpec.upto bagZeroSpec)

/-- 'petrellaw22.BagLoads', WHERE WHAT IT READS IS OF BULK AT MOST 1048576: true; the input reads as it did. -/
def bagLoadsUptoRow : OpenClaim := { program := "ytlonihfhgfmplaa", sum := "dd37dd4a96671bcb5766b5047d95d9b6fa546de6d251e6ccfef361a042160b1e", func := "petrel/petrellaw22.BagLoads", spec := "bagLoads", inPlace := ["internal/bytealg.Compare"], unfollowed := true, recurses := true, plainKeys := false, apart := false, narrowed := true }
def BagLoadsUptoSaid : Prop := bagLoadsUptoRow.holds Try.pinned (OpenSpec.upto bagLoadsSpec)

/-- 'petrellaw22.BagOrder', WHERE WHAT IT READS IS OF BULK AT MOST 1048576: true; the input reads as it did. -/
def bagOrderUptoRow : OpenClaim := { program := "ytlonihfhgfmplaa", sum := "dd37dd4a96671bcb5766b5047d95d9b6fa546de6d251e6ccfef361a042160b1e", func := "petrel/petrellaw22.BagOrder", spec := "bagOrder", inPlace := ["internal/bytealg.Compare"], unfollowed := true, recurses := true, plainKeys := false, apart := false, narrowed := true }
def BagOrderUptoSaid : Prop := bagOrderUptoRow.holds Try.pinned (OpenSpec.upto bagOrderSpec)

end Rows
end Go.Proofs.Ytlonihfhgfmplaa
