/-
  No cell of these rows narrows 'for every input' (looked for: loops, veiled, ifaces, maps, wideKeys, modest, calm, conditions, laid).
  DERIVED. THE GIVEN ROWS OF THIS SEAT. 3 by the template 'for every input the law returns true; each argument reads behind the call as it read before'; 0 by the template 'total and deterministic' (their statements: YthhjlepldgplcaaTotals.lean).
  GIVEN WITH THE SEED: the statements are not yours to turn. If you find one false, say at which input.
  Laid BY PROGRAM, IN A SANDBOX (cutbox-rows.mjs): the forced cells as the released guide's own fill.sh prints them over the translation 6d60488bbd5ea3a7… (all of the seat's roots in one cut). By AI agents, Wed Nov 11 2026. No macro, syntax, notation, axiom, sorry.
-/
import Derived.Test.YthhjlepldgplcaaChecked
import GoSem.Claim
import GoSem.ClaimJoined
import GoSem.ClaimMapViews
import Derived.JoinedTies
import Derived.KernelRfl
namespace Go.Proofs.Ythhjlepldgplcaa
/- THE CELL 'sum', in the pinned program and in every row, IS THE sha256 OF THE DUMP (.gsa) THAT YthhjlepldgplcaaProg.lean LOADS. Nothing in Lean hashes anything: it is a label: what it is worth is what the hold of that sum in a sandbox is worth. -/
noncomputable def Try.pinned : Pinned := { name := "ythhjlepldgplcaa", sum := "6d60488bbd5ea3a7344ec5e1f670eb35c2a345ac4f800a5b55d3914674afeb2e", checked := Try.checked }
namespace Rows
def none {H : Type} : Left H := { results := [], args := [] }

/-- 'petrellaw05.TopicBytes': WHATEVER THE INPUT: true; the input reads as it did. -/
def topicBytesSpec : ChangeSpec := { name := "topicBytes", fn := fun _ => fun
  | [d1, d2, d3] => { results := [.lit (.bool true)], args := [d1, d2, d3] }
  | _ => none }
def topicBytesRow : OpenClaim := { program := "ythhjlepldgplcaa", sum := "6d60488bbd5ea3a7344ec5e1f670eb35c2a345ac4f800a5b55d3914674afeb2e", func := "petrel/petrellaw05.TopicBytes", spec := "topicBytes", apart := false }
def TopicBytesSaid : Prop := topicBytesRow.holds Try.pinned (OpenSpec.ofChange topicBytesSpec)

/-- ITS FALSE NEIGHBOUR: 'it returns false'. Refute it at one input. -/
def topicBytesWrong : ChangeSpec := { name := "topicBytes", fn := fun _ => fun
  | [d1, d2, d3] => { results := [.lit (.bool false)], args := [d1, d2, d3] }
  | _ => none }
def TopicBytesWrongFalsely : Prop := topicBytesRow.holds Try.pinned (OpenSpec.ofChange topicBytesWrong)

/-- 'petrellaw05.TopicPlays': WHATEVER THE INPUT: true; the input reads as it did. -/
def topicPlaysSpec : ChangeSpec := { name := "topicPlays", fn := fun _ => fun
  | [d1, d2, d3] => { results := [.lit (.bool true)], args := [d1, d2, d3] }
  | _ => none }
def topicPlaysRow : OpenClaim := { program := "ythhjlepldgplcaa", sum := "6d60488bbd5ea3a7344ec5e1f670eb35c2a345ac4f800a5b55d3914674afeb2e", func := "petrel/petrellaw05.TopicPlays", spec := "topicPlays", apart := false }
def TopicPlaysSaid : Prop := topicPlaysRow.holds Try.pinned (OpenSpec.ofChange topicPlaysSpec)

/-- ITS FALSE NEIGHBOUR: 'it returns false'. Refute it at one input. -/
def topicPlaysWrong : ChangeSpec := { name := "topicPlays", fn := fun _ => fun
  | [d1, d2, d3] => { results := [.lit (.bool false)], args := [d1, d2, d3] }
  | _ => none }
def TopicPlaysWrongFalsely : Prop := topicPlaysRow.holds Try.pinned (OpenSpec.ofChange topicPlaysWrong)

/-- 'petrellaw05.TopicBack': WHATEVER THE INPUT: true; the input reads as it did. -/
def topicBackSpec : ChangeSpec := { name := "topicBack", fn := fun _ => fun
  | [d1, d2] => { results := [.lit (.bool true)], args := [d1, d2] }
  | _ => none }
def topicBackRow : OpenClaim := { program := "ythhjlepldgplcaa", sum := "6d60488bbd5ea3a7344ec5e1f670eb35c2a345ac4f800a5b55d3914674afeb2e", func := "petrel/petrellaw05.TopicBack", spec := "topicBack", apart := false }
def TopicBackSaid : Prop := topicBackRow.holds Try.pinned (OpenSpec.ofChange topicBackSpec)

/-- ITS FALSE NEIGHBOUR: 'it returns false'. Refute it at one input. -/
def topicBackWrong : ChangeSpec := { name := "topicBack", fn := fun _ => fun
  | [d1, d2] => { results := [.lit (.bool false)], args := [d1, d2] }
  | _ => none }
def TopicBackWrongFalsely : Prop := topicBackRow.holds Try.pinned (OpenSpec.ofChange topicBackWrong)

/- THE SECOND FORM. 'bulk': how many values and letters a reading holds, each counted each time it is reached (what is shared counts as often as it is met; a slice's spare places count too). A statement '..UptoSaid' is the law's where the arguments, and the package variables that the reading takes, are together of bulk at most 1048576: NARROWER than '..Said'. Prove '..Said' where nothing that the law and all that it calls make is longer than what came in: it says more and counts as full. Else prove '..UptoSaid'. A law counts once. -/
mutual
def uptoBulk {H : Type} : DataW H → Nat
  | .lit (.string bytes) => bytes.length + 1
  | .lit _ => 1
  | .nil => 1
  | .ptr d => uptoBulk d + 1
  | .slice elems spare => uptoBulkAll elems + uptoBulkAll spare + 1
  | .agg parts => uptoBulkAll parts + 1
  | .iface _ d => uptoBulk d + 1
  | .map entries => uptoBulkEntries entries + 1
  | .held _ => 1
def uptoBulkAll {H : Type} : List (DataW H) → Nat
  | [] => 0
  | d :: r => uptoBulk d + uptoBulkAll r
def uptoBulkEntries {H : Type} : List (Lit × DataW H) → Nat
  | [] => 0
  | x :: r => uptoBulkEntry x + uptoBulkEntries r
def uptoBulkEntry {H : Type} : Lit × DataW H → Nat
  | (.string bytes, d) => bytes.length + uptoBulk d + 1
  | (_, d) => uptoBulk d + 1
 end
def uptoSmall : (H : Type) → List (DataW H) → Bool := fun _ ds => decide (uptoBulkAll ds ≤ 1048576)
def OpenSpec.upto (s : _root_.Go.ChangeSpec) : _root_.Go.OpenSpec := { _root_.Go.OpenSpec.ofChange s with cond := some uptoSmall }

/-- 'petrellaw05.TopicBytes', WHERE WHAT IT READS IS OF BULK AT MOST 1048576: true; the input reads as it did. -/
def topicBytesUptoRow : OpenClaim := { program := "ythhjlepldgplcaa", sum := "6d60488bbd5ea3a7344ec5e1f670eb35c2a345ac4f800a5b55d3914674afeb2e", func := "petrel/petrellaw05.TopicBytes", spec := "topicBytes", apart := false, narrowed := true }
def TopicBytesUptoSaid : Prop := topicBytesUptoRow.holds Try.pinned (OpenSpec.upto topicBytesSpec)

/-- 'petrellaw05.TopicPlays', WHERE WHAT IT READS IS OF BULK AT MOST 1048576: true; the input reads as it did. -/
def topicPlaysUptoRow : OpenClaim := { program := "ythhjlepldgplcaa", sum := "6d60488bbd5ea3a7344ec5e1f670eb35c2a345ac4f800a5b55d3914674afeb2e", func := "petrel/petrellaw05.TopicPlays", spec := "topicPlays", apart := false, narrowed := true }
def TopicPlaysUptoSaid : Prop := topicPlaysUptoRow.holds Try.pinned (OpenSpec.upto topicPlaysSpec)

/-- 'petrellaw05.TopicBack', WHERE WHAT IT READS IS OF BULK AT MOST 1048576: true; the input reads as it did. -/
def topicBackUptoRow : OpenClaim := { program := "ythhjlepldgplcaa", sum := "6d60488bbd5ea3a7344ec5e1f670eb35c2a345ac4f800a5b55d3914674afeb2e", func := "petrel/petrellaw05.TopicBack", spec := "topicBack", apart := false, narrowed := true }
def TopicBackUptoSaid : Prop := topicBackUptoRow.holds Try.pinned (OpenSpec.upto topicBackSpec)

end Rows
end Go.Proofs.Ythhjlepldgplcaa
