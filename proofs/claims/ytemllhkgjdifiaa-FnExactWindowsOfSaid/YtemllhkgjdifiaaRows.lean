/-
  No cell of these rows narrows 'for every input' (looked for: loops, veiled, ifaces, maps, wideKeys, modest, calm, conditions, laid).
  DERIVED. THE GIVEN ROWS OF THIS SEAT. 6 by the template 'for every input the law returns true; each argument reads behind the call as it read before'; 0 by the template 'total and deterministic' (their statements: YtemllhkgjdifiaaTotals.lean).
  GIVEN WITH THE SEED: the statements are not yours to turn. If you find one false, say at which input.
  Laid BY PROGRAM, IN A SANDBOX (cutbox-rows.mjs): the forced cells as the released guide's own fill.sh prints them over the translation b9bac38ffed9cf05… (all of the seat's roots in one cut). By AI agents, Wed Nov 11 2026. No macro, syntax, notation, axiom, sorry.
-/
import Derived.Test.YtemllhkgjdifiaaChecked
import GoSem.Claim
import GoSem.ClaimJoined
import GoSem.ClaimMapViews
import Derived.JoinedTies
import Derived.KernelRfl
namespace Go.Proofs.Ytemllhkgjdifiaa
/- THE CELL 'sum', in the pinned program and in every row, IS THE sha256 OF THE DUMP (.gsa) THAT YtemllhkgjdifiaaProg.lean LOADS. Nothing in Lean hashes anything: it is a label: what it is worth is what the hold of that sum in a sandbox is worth. -/
noncomputable def Try.pinned : Pinned := { name := "ytemllhkgjdifiaa", sum := "b9bac38ffed9cf0598a523420becea29cb4306819b8e6703f67b72752593918d", checked := Try.checked }
namespace Rows
def none {H : Type} : Left H := { results := [], args := [] }

/-- 'laws.FnExactNextContexts': WHATEVER THE INPUT: true; the input reads as it did. -/
def fnExactNextContextsSpec : ChangeSpec := { name := "fnExactNextContexts", fn := fun _ => fun
  | [d1, d2, d3, d4, d5] => { results := [.lit (.bool true)], args := [d1, d2, d3, d4, d5] }
  | _ => none }
def fnExactNextContextsRow : OpenClaim := { program := "ytemllhkgjdifiaa", sum := "b9bac38ffed9cf0598a523420becea29cb4306819b8e6703f67b72752593918d", func := "loop.example/g01079/laws.FnExactNextContexts", spec := "fnExactNextContexts", unfollowed := true, recurses := true, plainKeys := false, apart := false }
def FnExactNextContextsSaid : Prop := fnExactNextContextsRow.holds Try.pinned (OpenSpec.ofChange fnExactNextContextsSpec)

/-- ITS FALSE NEIGHBOUR: 'it returns false'. Refute it at one input. -/
def fnExactNextContextsWrong : ChangeSpec := { name := "fnExactNextContexts", fn := fun _ => fun
  | [d1, d2, d3, d4, d5] => { results := [.lit (.bool false)], args := [d1, d2, d3, d4, d5] }
  | _ => none }
def FnExactNextContextsWrongFalsely : Prop := fnExactNextContextsRow.holds Try.pinned (OpenSpec.ofChange fnExactNextContextsWrong)

/-- 'laws.FnExactCheckContexts': WHATEVER THE INPUT: true; the input reads as it did. -/
def fnExactCheckContextsSpec : ChangeSpec := { name := "fnExactCheckContexts", fn := fun _ => fun
  | [d1, d2] => { results := [.lit (.bool true)], args := [d1, d2] }
  | _ => none }
def fnExactCheckContextsRow : OpenClaim := { program := "ytemllhkgjdifiaa", sum := "b9bac38ffed9cf0598a523420becea29cb4306819b8e6703f67b72752593918d", func := "loop.example/g01079/laws.FnExactCheckContexts", spec := "fnExactCheckContexts", unfollowed := true, recurses := true, plainKeys := false, apart := false }
def FnExactCheckContextsSaid : Prop := fnExactCheckContextsRow.holds Try.pinned (OpenSpec.ofChange fnExactCheckContextsSpec)

/-- ITS FALSE NEIGHBOUR: 'it returns false'. Refute it at one input. -/
def fnExactCheckContextsWrong : ChangeSpec := { name := "fnExactCheckContexts", fn := fun _ => fun
  | [d1, d2] => { results := [.lit (.bool false)], args := [d1, d2] }
  | _ => none }
def FnExactCheckContextsWrongFalsely : Prop := fnExactCheckContextsRow.holds Try.pinned (OpenSpec.ofChange fnExactCheckContextsWrong)

/-- 'laws.FnExactWindowsOf': WHATEVER THE INPUT: true; the input reads as it did. -/
def fnExactWindowsOfSpec : ChangeSpec := { name := "fnExactWindowsOf", fn := fun _ => fun
  | [d1, d2, d3] => { results := [.lit (.bool true)], args := [d1, d2, d3] }
  | _ => none }
def fnExactWindowsOfRow : OpenClaim := { program := "ytemllhkgjdifiaa", sum := "b9bac38ffed9cf0598a523420becea29cb4306819b8e6703f67b72752593918d", func := "loop.example/g01079/laws.FnExactWindowsOf", spec := "fnExactWindowsOf", unfollowed := true, recurses := true, plainKeys := false, apart := false }
def FnExactWindowsOfSaid : Prop := fnExactWindowsOfRow.holds Try.pinned (OpenSpec.ofChange fnExactWindowsOfSpec)

/-- ITS FALSE NEIGHBOUR: 'it returns false'. Refute it at one input. -/
def fnExactWindowsOfWrong : ChangeSpec := { name := "fnExactWindowsOf", fn := fun _ => fun
  | [d1, d2, d3] => { results := [.lit (.bool false)], args := [d1, d2, d3] }
  | _ => none }
def FnExactWindowsOfWrongFalsely : Prop := fnExactWindowsOfRow.holds Try.pinned (OpenSpec.ofChange fnExactWindowsOfWrong)

/-- 'laws.FnExactMergeContexts': WHATEVER THE INPUT: true; the input reads as it did. -/
def fnExactMergeContextsSpec : ChangeSpec := { name := "fnExactMergeContexts", fn := fun _ => fun
  | [d1, d2] => { results := [.lit (.bool true)], args := [d1, d2] }
  | _ => none }
def fnExactMergeContextsRow : OpenClaim := { program := "ytemllhkgjdifiaa", sum := "b9bac38ffed9cf0598a523420becea29cb4306819b8e6703f67b72752593918d", func := "loop.example/g01079/laws.FnExactMergeContexts", spec := "fnExactMergeContexts", unfollowed := true, recurses := true, plainKeys := false, apart := false }
def FnExactMergeContextsSaid : Prop := fnExactMergeContextsRow.holds Try.pinned (OpenSpec.ofChange fnExactMergeContextsSpec)

/-- ITS FALSE NEIGHBOUR: 'it returns false'. Refute it at one input. -/
def fnExactMergeContextsWrong : ChangeSpec := { name := "fnExactMergeContexts", fn := fun _ => fun
  | [d1, d2] => { results := [.lit (.bool false)], args := [d1, d2] }
  | _ => none }
def FnExactMergeContextsWrongFalsely : Prop := fnExactMergeContextsRow.holds Try.pinned (OpenSpec.ofChange fnExactMergeContextsWrong)

/-- 'laws.FnExactAutomatonProof': WHATEVER THE INPUT: true; the input reads as it did. -/
def fnExactAutomatonProofSpec : ChangeSpec := { name := "fnExactAutomatonProof", fn := fun _ => fun
  | [d1, d2, d3] => { results := [.lit (.bool true)], args := [d1, d2, d3] }
  | _ => none }
def fnExactAutomatonProofRow : OpenClaim := { program := "ytemllhkgjdifiaa", sum := "b9bac38ffed9cf0598a523420becea29cb4306819b8e6703f67b72752593918d", func := "loop.example/g01079/laws.FnExactAutomatonProof", spec := "fnExactAutomatonProof", unfollowed := true, recurses := true, plainKeys := false, apart := false }
def FnExactAutomatonProofSaid : Prop := fnExactAutomatonProofRow.holds Try.pinned (OpenSpec.ofChange fnExactAutomatonProofSpec)

/-- ITS FALSE NEIGHBOUR: 'it returns false'. Refute it at one input. -/
def fnExactAutomatonProofWrong : ChangeSpec := { name := "fnExactAutomatonProof", fn := fun _ => fun
  | [d1, d2, d3] => { results := [.lit (.bool false)], args := [d1, d2, d3] }
  | _ => none }
def FnExactAutomatonProofWrongFalsely : Prop := fnExactAutomatonProofRow.holds Try.pinned (OpenSpec.ofChange fnExactAutomatonProofWrong)

/-- 'laws.FnExactFindAutomaton': WHATEVER THE INPUT: true; the input reads as it did. -/
def fnExactFindAutomatonSpec : ChangeSpec := { name := "fnExactFindAutomaton", fn := fun _ => fun
  | [d1, d2] => { results := [.lit (.bool true)], args := [d1, d2] }
  | _ => none }
def fnExactFindAutomatonRow : OpenClaim := { program := "ytemllhkgjdifiaa", sum := "b9bac38ffed9cf0598a523420becea29cb4306819b8e6703f67b72752593918d", func := "loop.example/g01079/laws.FnExactFindAutomaton", spec := "fnExactFindAutomaton", unfollowed := true, recurses := true, plainKeys := false, apart := false }
def FnExactFindAutomatonSaid : Prop := fnExactFindAutomatonRow.holds Try.pinned (OpenSpec.ofChange fnExactFindAutomatonSpec)

/-- ITS FALSE NEIGHBOUR: 'it returns false'. Refute it at one input. -/
def fnExactFindAutomatonWrong : ChangeSpec := { name := "fnExactFindAutomaton", fn := fun _ => fun
  | [d1, d2] => { results := [.lit (.bool false)], args := [d1, d2] }
  | _ => none }
def FnExactFindAutomatonWrongFalsely : Prop := fnExactFindAutomatonRow.holds Try.pinned (OpenSpec.ofChange fnExactFindAutomatonWrong)

/- THE SECOND FORM. 'bulk': how many values and letters a reading holds, each counted each time it is reached (what is shared counts as often as it is met; a slice's spare places count too). A statement '..UptoSaid' is the law's where the arguments, and the package variables that the reading takes, are together of bulk at most 1048576: NARROWER than '..Said'. Prove '..Said' where nothing that the law and all that it calls make is longer than what came in: it says more and counts as full. Else prove '..UptoSaid'. A law counts once. -/
mutual
def uptoBulk {H : Type} : DataW H → Nat
  | .lit (.string bytes) => bytes.length + 1
  | .lit _ => 1
  | .nil => 1
  | .ptr d => uptoBulk d + 1
  | .slice elems spare => uptoBulkAll elems + uptoBulkAll spare + 1
  | .agg parts => uptoBulkAll parts + 1
  | .iface _ d => uptoBulk d + 1
  | .map entries => uptoBulkEntries entries + 1
  | .held _ => 1
def uptoBulkAll {H : Type} : List (DataW H) → Nat
  | [] => 0
  | d :: r => uptoBulk d + uptoBulkAll r
def uptoBulkEntries {H : Type} : List (Lit × DataW H) → Nat
  | [] => 0
  | x :: r => uptoBulkEntry x + uptoBulkEntries r
def uptoBulkEntry {H : Type} : Lit × DataW H → Nat
  | (.string bytes, d) => bytes.length + uptoBulk d + 1
  | (_, d) => uptoBulk d + 1
 end
def uptoSmall : (H : Type) → List (DataW H) → Bool := fun _ ds => decide (uptoBulkAll ds ≤ 1048576)
def OpenSpec.upto (s : _root_.Go.ChangeSpec) : _root_.Go.OpenSpec := { _root_.Go.OpenSpec.ofChange s with cond := some uptoSmall }

/-- 'laws.FnExactNextContexts', WHERE WHAT IT READS IS OF BULK AT MOST 1048576: true; the input reads as it did. -/
def fnExactNextContextsUptoRow : OpenClaim := { program := "ytemllhkgjdifiaa", sum := "b9bac38ffed9cf0598a523420becea29cb4306819b8e6703f67b72752593918d", func := "loop.example/g01079/laws.FnExactNextContexts", spec := "fnExactNextContexts", unfollowed := true, recurses := true, plainKeys := false, apart := false, narrowed := true }
def FnExactNextContextsUptoSaid : Prop := fnExactNextContextsUptoRow.holds Try.pinned (OpenSpec.upto fnExactNextContextsSpec)

/-- 'laws.FnExactCheckContexts', WHERE WHAT IT READS IS OF BULK AT MOST 1048576: true; the input reads as it did. -/
def fnExactCheckContextsUptoRow : OpenClaim := { program := "ytemllhkgjdifiaa", sum := "b9bac38ffed9cf0598a523420becea29cb4306819b8e6703f67b72752593918d", func := "loop.example/g01079/laws.FnExactCheckContexts", spec := "fnExactCheckContexts", unfollowed := true, recurses := true, plainKeys := false, apart := false, narrowed := true }
def FnExactCheckContextsUptoSaid : Prop := fnExactCheckContextsUptoRow.holds Try.pinned (OpenSpec.upto fnExactCheckContextsSpec)

/-- 'laws.FnExactWindowsOf', WHERE WHAT IT READS IS OF BULK AT MOST 1048576: true; the input reads as it did. -/
def fnExactWindowsOfUptoRow : OpenClaim := { program := "ytemllhkgjdifiaa", sum := "b9bac38ffed9cf0598a523420becea29cb4306819b8e6703f67b72752593918d", func := "loop.example/g01079/laws.FnExactWindowsOf", spec := "fnExactWindowsOf", unfollowed := true, recurses := true, plainKeys := false, apart := false, narrowed := true }
def FnExactWindowsOfUptoSaid : Prop := fnExactWindowsOfUptoRow.holds Try.pinned (OpenSpec.upto fnExactWindowsOfSpec)

/-- 'laws.FnExactMergeContexts', WHERE WHAT IT READS IS OF BULK AT MOST 1048576: true; the input reads as it did. -/
def fnExactMergeContextsUptoRow : OpenClaim := { program := "ytemllhkgjdifiaa", sum := "b9bac38ffed9cf0598a523420becea29cb4306819b8e6703f67b72752593918d", func := "loop.example/g01079/laws.FnExactMergeContexts", spec := "fnExactMergeContexts", unfollowed := true, recurses := true, plainKeys := false, apart := false, narrowed := true }
def FnExactMergeContextsUptoSaid : Prop := fnExactMergeContextsUptoRow.holds Try.pinned (OpenSpec.upto fnExactMergeContextsSpec)

/-- 'laws.FnExactAutomatonProof', WHERE WHAT IT READS IS OF BULK AT MOST 1048576: true; the input reads as it did. -/
def fnExactAutomatonProofUptoRow : OpenClaim := { program := "ytemllhkgjdifiaa", sum := "b9bac38ffed9cf0598a523420becea29cb4306819b8e6703f67b72752593918d", func := "loop.example/g01079/laws.FnExactAutomatonProof", spec := "fnExactAutomatonProof", unfollowed := true, recurses := true, plainKeys := false, apart := false, narrowed := true }
def FnExactAutomatonProofUptoSaid : Prop := fnExactAutomatonProofUptoRow.holds Try.pinned (OpenSpec.upto fnExactAutomatonProofSpec)

/-- 'laws.FnExactFindAutomaton', WHERE WHAT IT READS IS OF BULK AT MOST 1048576: true; the input reads as it did. -/
def fnExactFindAutomatonUptoRow : OpenClaim := { program := "ytemllhkgjdifiaa", sum := "b9bac38ffed9cf0598a523420becea29cb4306819b8e6703f67b72752593918d", func := "loop.example/g01079/laws.FnExactFindAutomaton", spec := "fnExactFindAutomaton", unfollowed := true, recurses := true, plainKeys := false, apart := false, narrowed := true }
def FnExactFindAutomatonUptoSaid : Prop := fnExactFindAutomatonUptoRow.holds Try.pinned (OpenSpec.upto fnExactFindAutomatonSpec)

end Rows
end Go.Proofs.Ytemllhkgjdifiaa
