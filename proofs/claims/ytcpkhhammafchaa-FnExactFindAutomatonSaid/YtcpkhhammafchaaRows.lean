/-
  No cell of these rows narrows 'for every input' (looked for: loops, veiled, ifaces, maps, wideKeys, modest, calm, conditions, laid).
  DERIVED. THE GIVEN ROWS OF THIS SEAT. 4 by the template 'for every input the law returns true; each argument reads behind the call as it read before'; 0 by the template 'total and deterministic' (their statements: YtcpkhhammafchaaTotals.lean).
  GIVEN WITH THE SEED: the statements are not yours to turn. If you find one false, say at which input.
  Laid BY PROGRAM, IN A SANDBOX (cutbox-rows.mjs): the forced cells as the released guide's own fill.sh prints them over the translation d433c72219e6fc9c… (all of the seat's roots in one cut). By AI agents, Wed Nov 11 2026. No macro, syntax, notation, axiom, sorry.
-/
import Derived.Test.YtcpkhhammafchaaChecked
import GoSem.Claim
import GoSem.ClaimJoined
import GoSem.ClaimMapViews
import Derived.JoinedTies
import Derived.KernelRfl
namespace Go.Proofs.Ytcpkhhammafchaa
/- THE CELL 'sum', in the pinned program and in every row, IS THE sha256 OF THE DUMP (.gsa) THAT YtcpkhhammafchaaProg.lean LOADS. Nothing in Lean hashes anything: it is a label: what it is worth is what the hold of that sum in a sandbox is worth. -/
noncomputable def Try.pinned : Pinned := { name := "ytcpkhhammafchaa", sum := "d433c72219e6fc9c18f0cdd2072952d15e8d5afd2de3c60773f6c6e5e77b4107", checked := Try.checked }
namespace Rows
def none {H : Type} : Left H := { results := [], args := [] }

/-- 'laws.FnRegisterRuns': WHATEVER THE INPUT: true; the input reads as it did. -/
def fnRegisterRunsSpec : ChangeSpec := { name := "fnRegisterRuns", fn := fun _ => fun
  | [d1, d2] => { results := [.lit (.bool true)], args := [d1, d2] }
  | _ => none }
def fnRegisterRunsRow : OpenClaim := { program := "ytcpkhhammafchaa", sum := "d433c72219e6fc9c18f0cdd2072952d15e8d5afd2de3c60773f6c6e5e77b4107", func := "loop.example/g01079/laws.FnRegisterRuns", spec := "fnRegisterRuns", unfollowed := true, recurses := true, plainKeys := false, apart := false }
def FnRegisterRunsSaid : Prop := fnRegisterRunsRow.holds Try.pinned (OpenSpec.ofChange fnRegisterRunsSpec)

/-- ITS FALSE NEIGHBOUR: 'it returns false'. Refute it at one input. -/
def fnRegisterRunsWrong : ChangeSpec := { name := "fnRegisterRuns", fn := fun _ => fun
  | [d1, d2] => { results := [.lit (.bool false)], args := [d1, d2] }
  | _ => none }
def FnRegisterRunsWrongFalsely : Prop := fnRegisterRunsRow.holds Try.pinned (OpenSpec.ofChange fnRegisterRunsWrong)

/-- 'laws.FnExactAutomatonProof': WHATEVER THE INPUT: true; the input reads as it did. -/
def fnExactAutomatonProofSpec : ChangeSpec := { name := "fnExactAutomatonProof", fn := fun _ => fun
  | [d1, d2, d3] => { results := [.lit (.bool true)], args := [d1, d2, d3] }
  | _ => none }
def fnExactAutomatonProofRow : OpenClaim := { program := "ytcpkhhammafchaa", sum := "d433c72219e6fc9c18f0cdd2072952d15e8d5afd2de3c60773f6c6e5e77b4107", func := "loop.example/g01079/laws.FnExactAutomatonProof", spec := "fnExactAutomatonProof", unfollowed := true, recurses := true, plainKeys := false, apart := false }
def FnExactAutomatonProofSaid : Prop := fnExactAutomatonProofRow.holds Try.pinned (OpenSpec.ofChange fnExactAutomatonProofSpec)

/-- ITS FALSE NEIGHBOUR: 'it returns false'. Refute it at one input. -/
def fnExactAutomatonProofWrong : ChangeSpec := { name := "fnExactAutomatonProof", fn := fun _ => fun
  | [d1, d2, d3] => { results := [.lit (.bool false)], args := [d1, d2, d3] }
  | _ => none }
def FnExactAutomatonProofWrongFalsely : Prop := fnExactAutomatonProofRow.holds Try.pinned (OpenSpec.ofChange fnExactAutomatonProofWrong)

/-- 'laws.FnExactFindAutomaton': WHATEVER THE INPUT: true; the input reads as it did. -/
def fnExactFindAutomatonSpec : ChangeSpec := { name := "fnExactFindAutomaton", fn := fun _ => fun
  | [d1, d2] => { results := [.lit (.bool true)], args := [d1, d2] }
  | _ => none }
def fnExactFindAutomatonRow : OpenClaim := { program := "ytcpkhhammafchaa", sum := "d433c72219e6fc9c18f0cdd2072952d15e8d5afd2de3c60773f6c6e5e77b4107", func := "loop.example/g01079/laws.FnExactFindAutomaton", spec := "fnExactFindAutomaton", unfollowed := true, recurses := true, plainKeys := false, apart := false }
def FnExactFindAutomatonSaid : Prop := fnExactFindAutomatonRow.holds Try.pinned (OpenSpec.ofChange fnExactFindAutomatonSpec)

/-- ITS FALSE NEIGHBOUR: 'it returns false'. Refute it at one input. -/
def fnExactFindAutomatonWrong : ChangeSpec := { name := "fnExactFindAutomaton", fn := fun _ => fun
  | [d1, d2] => { results := [.lit (.bool false)], args := [d1, d2] }
  | _ => none }
def FnExactFindAutomatonWrongFalsely : Prop := fnExactFindAutomatonRow.holds Try.pinned (OpenSpec.ofChange fnExactFindAutomatonWrong)

/-- 'laws.FnExactMergeContexts': WHATEVER THE INPUT: true; the input reads as it did. -/
def fnExactMergeContextsSpec : ChangeSpec := { name := "fnExactMergeContexts", fn := fun _ => fun
  | [d1, d2] => { results := [.lit (.bool true)], args := [d1, d2] }
  | _ => none }
def fnExactMergeContextsRow : OpenClaim := { program := "ytcpkhhammafchaa", sum := "d433c72219e6fc9c18f0cdd2072952d15e8d5afd2de3c60773f6c6e5e77b4107", func := "loop.example/g01079/laws.FnExactMergeContexts", spec := "fnExactMergeContexts", unfollowed := true, recurses := true, plainKeys := false, apart := false }
def FnExactMergeContextsSaid : Prop := fnExactMergeContextsRow.holds Try.pinned (OpenSpec.ofChange fnExactMergeContextsSpec)

/-- ITS FALSE NEIGHBOUR: 'it returns false'. Refute it at one input. -/
def fnExactMergeContextsWrong : ChangeSpec := { name := "fnExactMergeContexts", fn := fun _ => fun
  | [d1, d2] => { results := [.lit (.bool false)], args := [d1, d2] }
  | _ => none }
def FnExactMergeContextsWrongFalsely : Prop := fnExactMergeContextsRow.holds Try.pinned (OpenSpec.ofChange fnExactMergeContextsWrong)

/- THE SECOND FORM. 'bulk': how many values and letters a reading holds, each counted each time it is reached (what is shared counts as often as it is met; a slice's spare places count too). A statement '..UptoSaid' is the law's where the arguments, and the package variables that the reading takes, are together of bulk at most 1048576: NARROWER than '..Said'. Prove '..Said' where nothing that the law and all that it calls make is longer than what came in: it says more and counts as full. Else prove '..UptoSaid'. A law counts once. -/
mutual
def uptoBulk {H : Type} : DataW H → Nat
  | .lit (.string bytes) => bytes.length + 1
  | .lit _ => 1
  | .nil => 1
  | .ptr d => uptoBulk d + 1
  | .slice elems spare => uptoBulkAll elems + uptoBulkAll spare + 1
  | .agg parts => uptoBulkAll parts + 1
  | .iface _ d => uptoBulk d + 1
  | .map entries => uptoBulkEntries entries + 1
  | .held _ => 1
def uptoBulkAll {H : Type} : List (DataW H) → Nat
  | [] => 0
  | d :: r => uptoBulk d + uptoBulkAll r
def uptoBulkEntries {H : Type} : List (Lit × DataW H) → Nat
  | [] => 0
  | x :: r => uptoBulkEntry x + uptoBulkEntries r
def uptoBulkEntry {H : Type} : Lit × DataW H → Nat
  | (.string bytes, d) => bytes.length + uptoBulk d + 1
  | (_, d) => uptoBulk d + 1
 end
def uptoSmall : (H : Type) → List (DataW H) → Bool := fun _ ds => decide (uptoBulkAll ds ≤ 1048576)
def OpenSpec.upto (s : _root_.Go.ChangeSpec) : _root_.Go.OpenSpec := { _root_.Go.OpenSpec.ofChange s with cond := some uptoSmall }

/-- 'laws.FnRegisterRuns', WHERE WHAT IT READS IS OF BULK AT MOST 1048576: true; the input reads as it did. -/
def fnRegisterRunsUptoRow : OpenClaim := { program := "ytcpkhhammafchaa", sum := "d433c72219e6fc9c18f0cdd2072952d15e8d5afd2de3c60773f6c6e5e77b4107", func := "loop.example/g01079/laws.FnRegisterRuns", spec := "fnRegisterRuns", unfollowed := true, recurses := true, plainKeys := false, apart := false, narrowed := true }
def FnRegisterRunsUptoSaid : Prop := fnRegisterRunsUptoRow.holds Try.pinned (OpenSpec.upto fnRegisterRunsSpec)

/-- 'laws.FnExactAutomatonProof', WHERE WHAT IT READS IS OF BULK AT MOST 1048576: true; the input reads as it did. -/
def fnExactAutomatonProofUptoRow : OpenClaim := { program := "ytcpkhhammafchaa", sum := "d433c72219e6fc9c18f0cdd2072952d15e8d5afd2de3c60773f6c6e5e77b4107", func := "loop.example/g01079/laws.FnExactAutomatonProof", spec := "fnExactAutomatonProof", unfollowed := true, recurses := true, plainKeys := false, apart := false, narrowed := true }
def FnExactAutomatonProofUptoSaid : Prop := fnExactAutomatonProofUptoRow.holds Try.pinned (OpenSpec.upto fnExactAutomatonProofSpec)

/-- 'laws.FnExactFindAutomaton', WHERE WHAT IT READS IS OF BULK AT MOST 1048576: true; the input reads as it did. -/
def fnExactFindAutomatonUptoRow : OpenClaim := { program := "ytcpkhhammafchaa", sum := "d433c72219e6fc9c18f0cdd2072952d15e8d5afd2de3c60773f6c6e5e77b4107", func := "loop.example/g01079/laws.FnExactFindAutomaton", spec := "fnExactFindAutomaton", unfollowed := true, recurses := true, plainKeys := false, apart := false, narrowed := true }
def FnExactFindAutomatonUptoSaid : Prop := fnExactFindAutomatonUptoRow.holds Try.pinned (OpenSpec.upto fnExactFindAutomatonSpec)

/-- 'laws.FnExactMergeContexts', WHERE WHAT IT READS IS OF BULK AT MOST 1048576: true; the input reads as it did. -/
def fnExactMergeContextsUptoRow : OpenClaim := { program := "ytcpkhhammafchaa", sum := "d433c72219e6fc9c18f0cdd2072952d15e8d5afd2de3c60773f6c6e5e77b4107", func := "loop.example/g01079/laws.FnExactMergeContexts", spec := "fnExactMergeContexts", unfollowed := true, recurses := true, plainKeys := false, apart := false, narrowed := true }
def FnExactMergeContextsUptoSaid : Prop := fnExactMergeContextsUptoRow.holds Try.pinned (OpenSpec.upto fnExactMergeContextsSpec)

end Rows
end Go.Proofs.Ytcpkhhammafchaa
