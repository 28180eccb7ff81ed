/-
  No cell of these rows narrows 'for every input' (looked for: loops, veiled, ifaces, maps, wideKeys, modest, calm, conditions, laid).
  DERIVED. THE GIVEN ROWS OF THIS SEAT. 9 by the template 'for every input the law returns true; each argument reads behind the call as it read before'; 0 by the template 'total and deterministic' (their statements: YtjgajjcgapifoaaTotals.lean).
  GIVEN WITH THE SEED: the statements are not yours to turn. If you find one false, say at which input.
  Laid BY PROGRAM, IN A SANDBOX (cutbox-rows.mjs): the forced cells as the released guide's own fill.sh prints them over the translation 5e699a8f483f9de0… (all of the seat's roots in one cut). By AI agents, Wed Nov 11 2026. No macro, syntax, notation, axiom, sorry.
-/
import Derived.Test.YtjgajjcgapifoaaChecked
import GoSem.Claim
import GoSem.ClaimJoined
import GoSem.ClaimMapViews
import Derived.JoinedTies
import Derived.KernelRfl
namespace Go.Proofs.Ytjgajjcgapifoaa
/- THE CELL 'sum', in the pinned program and in every row, IS THE sha256 OF THE DUMP (.gsa) THAT YtjgajjcgapifoaaProg.lean LOADS. Nothing in Lean hashes anything: it is a label: what it is worth is what the hold of that sum in a sandbox is worth. -/
noncomputable def Try.pinned : Pinned := { name := "ytjgajjcgapifoaa", sum := "5e699a8f483f9de0c2165d28a391ad8809662cc03707f811aeacb0b2eabe6241", checked := Try.checked }
namespace Rows
def none {H : Type} : Left H := { results := [], args := [] }

/-- 'laws.FnExactLostWindow': WHATEVER THE INPUT: true; the input reads as it did. -/
def fnExactLostWindowSpec : ChangeSpec := { name := "fnExactLostWindow", fn := fun _ => fun
  | [d1, d2, d3] => { results := [.lit (.bool true)], args := [d1, d2, d3] }
  | _ => none }
def fnExactLostWindowRow : OpenClaim := { program := "ytjgajjcgapifoaa", sum := "5e699a8f483f9de0c2165d28a391ad8809662cc03707f811aeacb0b2eabe6241", func := "loop.example/g01079/laws.FnExactLostWindow", spec := "fnExactLostWindow", unfollowed := true, recurses := true, plainKeys := false, apart := false }
def FnExactLostWindowSaid : Prop := fnExactLostWindowRow.holds Try.pinned (OpenSpec.ofChange fnExactLostWindowSpec)

/-- ITS FALSE NEIGHBOUR: 'it returns false'. Refute it at one input. -/
def fnExactLostWindowWrong : ChangeSpec := { name := "fnExactLostWindow", fn := fun _ => fun
  | [d1, d2, d3] => { results := [.lit (.bool false)], args := [d1, d2, d3] }
  | _ => none }
def FnExactLostWindowWrongFalsely : Prop := fnExactLostWindowRow.holds Try.pinned (OpenSpec.ofChange fnExactLostWindowWrong)

/-- 'laws.FnExactContextOf': WHATEVER THE INPUT: true; the input reads as it did. -/
def fnExactContextOfSpec : ChangeSpec := { name := "fnExactContextOf", fn := fun _ => fun
  | [d1, d2, d3] => { results := [.lit (.bool true)], args := [d1, d2, d3] }
  | _ => none }
def fnExactContextOfRow : OpenClaim := { program := "ytjgajjcgapifoaa", sum := "5e699a8f483f9de0c2165d28a391ad8809662cc03707f811aeacb0b2eabe6241", func := "loop.example/g01079/laws.FnExactContextOf", spec := "fnExactContextOf", unfollowed := true, recurses := true, plainKeys := false, apart := false }
def FnExactContextOfSaid : Prop := fnExactContextOfRow.holds Try.pinned (OpenSpec.ofChange fnExactContextOfSpec)

/-- ITS FALSE NEIGHBOUR: 'it returns false'. Refute it at one input. -/
def fnExactContextOfWrong : ChangeSpec := { name := "fnExactContextOf", fn := fun _ => fun
  | [d1, d2, d3] => { results := [.lit (.bool false)], args := [d1, d2, d3] }
  | _ => none }
def FnExactContextOfWrongFalsely : Prop := fnExactContextOfRow.holds Try.pinned (OpenSpec.ofChange fnExactContextOfWrong)

/-- 'laws.FnExactContextSizes': WHATEVER THE INPUT: true; the input reads as it did. -/
def fnExactContextSizesSpec : ChangeSpec := { name := "fnExactContextSizes", fn := fun _ => fun
  | [d] => { results := [.lit (.bool true)], args := [d] }
  | _ => none }
def fnExactContextSizesRow : OpenClaim := { program := "ytjgajjcgapifoaa", sum := "5e699a8f483f9de0c2165d28a391ad8809662cc03707f811aeacb0b2eabe6241", func := "loop.example/g01079/laws.FnExactContextSizes", spec := "fnExactContextSizes", unfollowed := true, recurses := true, plainKeys := false, apart := false }
def FnExactContextSizesSaid : Prop := fnExactContextSizesRow.holds Try.pinned (OpenSpec.ofChange fnExactContextSizesSpec)

/-- ITS FALSE NEIGHBOUR: 'it returns false'. Refute it at one input. -/
def fnExactContextSizesWrong : ChangeSpec := { name := "fnExactContextSizes", fn := fun _ => fun
  | [d] => { results := [.lit (.bool false)], args := [d] }
  | _ => none }
def FnExactContextSizesWrongFalsely : Prop := fnExactContextSizesRow.holds Try.pinned (OpenSpec.ofChange fnExactContextSizesWrong)

/-- 'laws.FnExactContextProof': WHATEVER THE INPUT: true; the input reads as it did. -/
def fnExactContextProofSpec : ChangeSpec := { name := "fnExactContextProof", fn := fun _ => fun
  | [d1, d2, d3, d4, d5] => { results := [.lit (.bool true)], args := [d1, d2, d3, d4, d5] }
  | _ => none }
def fnExactContextProofRow : OpenClaim := { program := "ytjgajjcgapifoaa", sum := "5e699a8f483f9de0c2165d28a391ad8809662cc03707f811aeacb0b2eabe6241", func := "loop.example/g01079/laws.FnExactContextProof", spec := "fnExactContextProof", unfollowed := true, recurses := true, plainKeys := false, apart := false }
def FnExactContextProofSaid : Prop := fnExactContextProofRow.holds Try.pinned (OpenSpec.ofChange fnExactContextProofSpec)

/-- ITS FALSE NEIGHBOUR: 'it returns false'. Refute it at one input. -/
def fnExactContextProofWrong : ChangeSpec := { name := "fnExactContextProof", fn := fun _ => fun
  | [d1, d2, d3, d4, d5] => { results := [.lit (.bool false)], args := [d1, d2, d3, d4, d5] }
  | _ => none }
def FnExactContextProofWrongFalsely : Prop := fnExactContextProofRow.holds Try.pinned (OpenSpec.ofChange fnExactContextProofWrong)

/-- 'laws.FnExactContextsIn': WHATEVER THE INPUT: true; the input reads as it did. -/
def fnExactContextsInSpec : ChangeSpec := { name := "fnExactContextsIn", fn := fun _ => fun
  | [d] => { results := [.lit (.bool true)], args := [d] }
  | _ => none }
def fnExactContextsInRow : OpenClaim := { program := "ytjgajjcgapifoaa", sum := "5e699a8f483f9de0c2165d28a391ad8809662cc03707f811aeacb0b2eabe6241", func := "loop.example/g01079/laws.FnExactContextsIn", spec := "fnExactContextsIn", unfollowed := true, recurses := true, plainKeys := false, apart := false }
def FnExactContextsInSaid : Prop := fnExactContextsInRow.holds Try.pinned (OpenSpec.ofChange fnExactContextsInSpec)

/-- ITS FALSE NEIGHBOUR: 'it returns false'. Refute it at one input. -/
def fnExactContextsInWrong : ChangeSpec := { name := "fnExactContextsIn", fn := fun _ => fun
  | [d] => { results := [.lit (.bool false)], args := [d] }
  | _ => none }
def FnExactContextsInWrongFalsely : Prop := fnExactContextsInRow.holds Try.pinned (OpenSpec.ofChange fnExactContextsInWrong)

/-- 'laws.FnExactNextContexts': WHATEVER THE INPUT: true; the input reads as it did. -/
def fnExactNextContextsSpec : ChangeSpec := { name := "fnExactNextContexts", fn := fun _ => fun
  | [d1, d2, d3, d4, d5] => { results := [.lit (.bool true)], args := [d1, d2, d3, d4, d5] }
  | _ => none }
def fnExactNextContextsRow : OpenClaim := { program := "ytjgajjcgapifoaa", sum := "5e699a8f483f9de0c2165d28a391ad8809662cc03707f811aeacb0b2eabe6241", func := "loop.example/g01079/laws.FnExactNextContexts", spec := "fnExactNextContexts", unfollowed := true, recurses := true, plainKeys := false, apart := false }
def FnExactNextContextsSaid : Prop := fnExactNextContextsRow.holds Try.pinned (OpenSpec.ofChange fnExactNextContextsSpec)

/-- ITS FALSE NEIGHBOUR: 'it returns false'. Refute it at one input. -/
def fnExactNextContextsWrong : ChangeSpec := { name := "fnExactNextContexts", fn := fun _ => fun
  | [d1, d2, d3, d4, d5] => { results := [.lit (.bool false)], args := [d1, d2, d3, d4, d5] }
  | _ => none }
def FnExactNextContextsWrongFalsely : Prop := fnExactNextContextsRow.holds Try.pinned (OpenSpec.ofChange fnExactNextContextsWrong)

/-- 'laws.FnExactCheckContexts': WHATEVER THE INPUT: true; the input reads as it did. -/
def fnExactCheckContextsSpec : ChangeSpec := { name := "fnExactCheckContexts", fn := fun _ => fun
  | [d1, d2] => { results := [.lit (.bool true)], args := [d1, d2] }
  | _ => none }
def fnExactCheckContextsRow : OpenClaim := { program := "ytjgajjcgapifoaa", sum := "5e699a8f483f9de0c2165d28a391ad8809662cc03707f811aeacb0b2eabe6241", func := "loop.example/g01079/laws.FnExactCheckContexts", spec := "fnExactCheckContexts", unfollowed := true, recurses := true, plainKeys := false, apart := false }
def FnExactCheckContextsSaid : Prop := fnExactCheckContextsRow.holds Try.pinned (OpenSpec.ofChange fnExactCheckContextsSpec)

/-- ITS FALSE NEIGHBOUR: 'it returns false'. Refute it at one input. -/
def fnExactCheckContextsWrong : ChangeSpec := { name := "fnExactCheckContexts", fn := fun _ => fun
  | [d1, d2] => { results := [.lit (.bool false)], args := [d1, d2] }
  | _ => none }
def FnExactCheckContextsWrongFalsely : Prop := fnExactCheckContextsRow.holds Try.pinned (OpenSpec.ofChange fnExactCheckContextsWrong)

/-- 'laws.FnExactWindowsOf': WHATEVER THE INPUT: true; the input reads as it did. -/
def fnExactWindowsOfSpec : ChangeSpec := { name := "fnExactWindowsOf", fn := fun _ => fun
  | [d1, d2, d3] => { results := [.lit (.bool true)], args := [d1, d2, d3] }
  | _ => none }
def fnExactWindowsOfRow : OpenClaim := { program := "ytjgajjcgapifoaa", sum := "5e699a8f483f9de0c2165d28a391ad8809662cc03707f811aeacb0b2eabe6241", func := "loop.example/g01079/laws.FnExactWindowsOf", spec := "fnExactWindowsOf", unfollowed := true, recurses := true, plainKeys := false, apart := false }
def FnExactWindowsOfSaid : Prop := fnExactWindowsOfRow.holds Try.pinned (OpenSpec.ofChange fnExactWindowsOfSpec)

/-- ITS FALSE NEIGHBOUR: 'it returns false'. Refute it at one input. -/
def fnExactWindowsOfWrong : ChangeSpec := { name := "fnExactWindowsOf", fn := fun _ => fun
  | [d1, d2, d3] => { results := [.lit (.bool false)], args := [d1, d2, d3] }
  | _ => none }
def FnExactWindowsOfWrongFalsely : Prop := fnExactWindowsOfRow.holds Try.pinned (OpenSpec.ofChange fnExactWindowsOfWrong)

/-- 'laws.FnExactMergeContexts': WHATEVER THE INPUT: true; the input reads as it did. -/
def fnExactMergeContextsSpec : ChangeSpec := { name := "fnExactMergeContexts", fn := fun _ => fun
  | [d1, d2] => { results := [.lit (.bool true)], args := [d1, d2] }
  | _ => none }
def fnExactMergeContextsRow : OpenClaim := { program := "ytjgajjcgapifoaa", sum := "5e699a8f483f9de0c2165d28a391ad8809662cc03707f811aeacb0b2eabe6241", func := "loop.example/g01079/laws.FnExactMergeContexts", spec := "fnExactMergeContexts", unfollowed := true, recurses := true, plainKeys := false, apart := false }
def FnExactMergeContextsSaid : Prop := fnExactMergeContextsRow.holds Try.pinned (OpenSpec.ofChange fnExactMergeContextsSpec)

/-- ITS FALSE NEIGHBOUR: 'it returns false'. Refute it at one input. -/
def fnExactMergeContextsWrong : ChangeSpec := { name := "fnExactMergeContexts", fn := fun _ => fun
  | [d1, d2] => { results := [.lit (.bool false)], args := [d1, d2] }
  | _ => none }
def FnExactMergeContextsWrongFalsely : Prop := fnExactMergeContextsRow.holds Try.pinned (OpenSpec.ofChange fnExactMergeContextsWrong)

/- THE SECOND FORM. 'bulk': how many values and letters a reading holds, each counted each time it is reached (what is shared counts as often as it is met; a slice's spare places count too). A statement '..UptoSaid' is the law's where the arguments, and the package variables that the reading takes, are together of bulk at most 1048576: NARROWER than '..Said'. Prove '..Said' where nothing that the law and all that it calls make is longer than what came in: it says more and counts as full. Else prove '..UptoSaid'. A law counts once. -/
mutual
def uptoBulk {H : Type} : DataW H → Nat
  | .lit (.string bytes) => bytes.length + 1
  | .lit _ => 1
  | .nil => 1
  | .ptr d => uptoBulk d + 1
  | .slice elems spare => uptoBulkAll elems + uptoBulkAll spare + 1
  | .agg parts => uptoBulkAll parts + 1
  | .iface _ d => uptoBulk d + 1
  | .map entries => uptoBulkEntries entries + 1
  | .held _ => 1
def uptoBulkAll {H : Type} : List (DataW H) → Nat
  | [] => 0
  | d :: r => uptoBulk d + uptoBulkAll r
def uptoBulkEntries {H : Type} : List (Lit × DataW H) → Nat
  | [] => 0
  | x :: r => uptoBulkEntry x + uptoBulkEntries r
def uptoBulkEntry {H : Type} : Lit × DataW H → Nat
  | (.string bytes, d) => bytes.length + uptoBulk d + 1
  | (_, d) => uptoBulk d + 1
 end
def uptoSmall : (H : Type) → List (DataW H) → Bool := fun _ ds => decide (uptoBulkAll ds ≤ 1048576)
def OpenSpec.upto (s : _root_.Go.ChangeSpec) : _root_.Go.OpenSpec := { _root_.Go.OpenSpec.ofChange s with cond := some uptoSmall }

/-- 'laws.FnExactLostWindow', WHERE WHAT IT READS IS OF BULK AT MOST 1048576: true; the input reads as it did. -/
def fnExactLostWindowUptoRow : OpenClaim := { program := "ytjgajjcgapifoaa", sum := "5e699a8f483f9de0c2165d28a391ad8809662cc03707f811aeacb0b2eabe6241", func := "loop.example/g01079/laws.FnExactLostWindow", spec := "fnExactLostWindow", unfollowed := true, recurses := true, plainKeys := false, apart := false, narrowed := true }
def FnExactLostWindowUptoSaid : Prop := fnExactLostWindowUptoRow.holds Try.pinned (OpenSpec.upto fnExactLostWindowSpec)

/-- 'laws.FnExactContextOf', WHERE WHAT IT READS IS OF BULK AT MOST 1048576: true; the input reads as it did. -/
def fnExactContextOfUptoRow : OpenClaim := { program := "ytjgajjcgapifoaa", sum := "5e699a8f483f9de0c2165d28a391ad8809662cc03707f811aeacb0b2eabe6241", func := "loop.example/g01079/laws.FnExactContextOf", spec := "fnExactContextOf", unfollowed := true, recurses := true, plainKeys := false, apart := false, narrowed := true }
def FnExactContextOfUptoSaid : Prop := fnExactContextOfUptoRow.holds Try.pinned (OpenSpec.upto fnExactContextOfSpec)

/-- 'laws.FnExactContextSizes', WHERE WHAT IT READS IS OF BULK AT MOST 1048576: true; the input reads as it did. -/
def fnExactContextSizesUptoRow : OpenClaim := { program := "ytjgajjcgapifoaa", sum := "5e699a8f483f9de0c2165d28a391ad8809662cc03707f811aeacb0b2eabe6241", func := "loop.example/g01079/laws.FnExactContextSizes", spec := "fnExactContextSizes", unfollowed := true, recurses := true, plainKeys := false, apart := false, narrowed := true }
def FnExactContextSizesUptoSaid : Prop := fnExactContextSizesUptoRow.holds Try.pinned (OpenSpec.upto fnExactContextSizesSpec)

/-- 'laws.FnExactContextProof', WHERE WHAT IT READS IS OF BULK AT MOST 1048576: true; the input reads as it did. -/
def fnExactContextProofUptoRow : OpenClaim := { program := "ytjgajjcgapifoaa", sum := "5e699a8f483f9de0c2165d28a391ad8809662cc03707f811aeacb0b2eabe6241", func := "loop.example/g01079/laws.FnExactContextProof", spec := "fnExactContextProof", unfollowed := true, recurses := true, plainKeys := false, apart := false, narrowed := true }
def FnExactContextProofUptoSaid : Prop := fnExactContextProofUptoRow.holds Try.pinned (OpenSpec.upto fnExactContextProofSpec)

/-- 'laws.FnExactContextsIn', WHERE WHAT IT READS IS OF BULK AT MOST 1048576: true; the input reads as it did. -/
def fnExactContextsInUptoRow : OpenClaim := { program := "ytjgajjcgapifoaa", sum := "5e699a8f483f9de0c2165d28a391ad8809662cc03707f811aeacb0b2eabe6241", func := "loop.example/g01079/laws.FnExactContextsIn", spec := "fnExactContextsIn", unfollowed := true, recurses := true, plainKeys := false, apart := false, narrowed := true }
def FnExactContextsInUptoSaid : Prop := fnExactContextsInUptoRow.holds Try.pinned (OpenSpec.upto fnExactContextsInSpec)

/-- 'laws.FnExactNextContexts', WHERE WHAT IT READS IS OF BULK AT MOST 1048576: true; the input reads as it did. -/
def fnExactNextContextsUptoRow : OpenClaim := { program := "ytjgajjcgapifoaa", sum := "5e699a8f483f9de0c2165d28a391ad8809662cc03707f811aeacb0b2eabe6241", func := "loop.example/g01079/laws.FnExactNextContexts", spec := "fnExactNextContexts", unfollowed := true, recurses := true, plainKeys := false, apart := false, narrowed := true }
def FnExactNextContextsUptoSaid : Prop := fnExactNextContextsUptoRow.holds Try.pinned (OpenSpec.upto fnExactNextContextsSpec)

/-- 'laws.FnExactCheckContexts', WHERE WHAT IT READS IS OF BULK AT MOST 1048576: true; the input reads as it did. -/
def fnExactCheckContextsUptoRow : OpenClaim := { program := "ytjgajjcgapifoaa", sum := "5e699a8f483f9de0c2165d28a391ad8809662cc03707f811aeacb0b2eabe6241", func := "loop.example/g01079/laws.FnExactCheckContexts", spec := "fnExactCheckContexts", unfollowed := true, recurses := true, plainKeys := false, apart := false, narrowed := true }
def FnExactCheckContextsUptoSaid : Prop := fnExactCheckContextsUptoRow.holds Try.pinned (OpenSpec.upto fnExactCheckContextsSpec)

/-- 'laws.FnExactWindowsOf', WHERE WHAT IT READS IS OF BULK AT MOST 1048576: true; the input reads as it did. -/
def fnExactWindowsOfUptoRow : OpenClaim := { program := "ytjgajjcgapifoaa", sum := "5e699a8f483f9de0c2165d28a391ad8809662cc03707f811aeacb0b2eabe6241", func := "loop.example/g01079/laws.FnExactWindowsOf", spec := "fnExactWindowsOf", unfollowed := true, recurses := true, plainKeys := false, apart := false, narrowed := true }
def FnExactWindowsOfUptoSaid : Prop := fnExactWindowsOfUptoRow.holds Try.pinned (OpenSpec.upto fnExactWindowsOfSpec)

/-- 'laws.FnExactMergeContexts', WHERE WHAT IT READS IS OF BULK AT MOST 1048576: true; the input reads as it did. -/
def fnExactMergeContextsUptoRow : OpenClaim := { program := "ytjgajjcgapifoaa", sum := "5e699a8f483f9de0c2165d28a391ad8809662cc03707f811aeacb0b2eabe6241", func := "loop.example/g01079/laws.FnExactMergeContexts", spec := "fnExactMergeContexts", unfollowed := true, recurses := true, plainKeys := false, apart := false, narrowed := true }
def FnExactMergeContextsUptoSaid : Prop := fnExactMergeContextsUptoRow.holds Try.pinned (OpenSpec.upto fnExactMergeContextsSpec)

end Rows
end Go.Proofs.Ytjgajjcgapifoaa
