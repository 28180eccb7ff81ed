/-
  No cell of these rows narrows 'for every input' (looked for: loops, veiled, ifaces, maps, wideKeys, modest, calm, conditions, laid).
  DERIVED. THE GIVEN ROWS OF THIS SEAT. 12 by the template 'for every input the law returns true; each argument reads behind the call as it read before'; 0 by the template 'total and deterministic' (their statements: YtbecofpklndpaaaTotals.lean).
  GIVEN WITH THE SEED: the statements are not yours to turn. If you find one false, say at which input.
  Laid BY PROGRAM, IN A SANDBOX (cutbox-rows.mjs): the forced cells as the released guide's own fill.sh prints them over the translation d5c05983c4eed511… (all of the seat's roots in one cut). By AI agents, Wed Nov 11 2026. No macro, syntax, notation, axiom, sorry.
-/
import Derived.Test.YtbecofpklndpaaaChecked
import GoSem.Claim
import GoSem.ClaimJoined
import GoSem.ClaimMapViews
import Derived.JoinedTies
import Derived.KernelRfl
namespace Go.Proofs.Ytbecofpklndpaaa
/- THE CELL 'sum', in the pinned program and in every row, IS THE sha256 OF THE DUMP (.gsa) THAT YtbecofpklndpaaaProg.lean LOADS. Nothing in Lean hashes anything: it is a label: what it is worth is what the hold of that sum in a sandbox is worth. -/
noncomputable def Try.pinned : Pinned := { name := "ytbecofpklndpaaa", sum := "d5c05983c4eed51144f92ea01aa68ea05cbbc2da97bc5f3914a0f352a660fe28", checked := Try.checked }
namespace Rows
def none {H : Type} : Left H := { results := [], args := [] }

/-- 'laws.FnPrefixCodes': WHATEVER THE INPUT: true; the input reads as it did. -/
def fnPrefixCodesSpec : ChangeSpec := { name := "fnPrefixCodes", fn := fun _ => fun
  | [d1, d2] => { results := [.lit (.bool true)], args := [d1, d2] }
  | _ => none }
def fnPrefixCodesRow : OpenClaim := { program := "ytbecofpklndpaaa", sum := "d5c05983c4eed51144f92ea01aa68ea05cbbc2da97bc5f3914a0f352a660fe28", func := "loop.example/g01079/laws.FnPrefixCodes", spec := "fnPrefixCodes", unfollowed := true, recurses := true, apart := false }
def FnPrefixCodesSaid : Prop := fnPrefixCodesRow.holds Try.pinned (OpenSpec.ofChange fnPrefixCodesSpec)

/-- ITS FALSE NEIGHBOUR: 'it returns false'. Refute it at one input. -/
def fnPrefixCodesWrong : ChangeSpec := { name := "fnPrefixCodes", fn := fun _ => fun
  | [d1, d2] => { results := [.lit (.bool false)], args := [d1, d2] }
  | _ => none }
def FnPrefixCodesWrongFalsely : Prop := fnPrefixCodesRow.holds Try.pinned (OpenSpec.ofChange fnPrefixCodesWrong)

/-- 'laws.FnWordRanks': WHATEVER THE INPUT: true; the input reads as it did. -/
def fnWordRanksSpec : ChangeSpec := { name := "fnWordRanks", fn := fun _ => fun
  | [d1, d2] => { results := [.lit (.bool true)], args := [d1, d2] }
  | _ => none }
def fnWordRanksRow : OpenClaim := { program := "ytbecofpklndpaaa", sum := "d5c05983c4eed51144f92ea01aa68ea05cbbc2da97bc5f3914a0f352a660fe28", func := "loop.example/g01079/laws.FnWordRanks", spec := "fnWordRanks", apart := false }
def FnWordRanksSaid : Prop := fnWordRanksRow.holds Try.pinned (OpenSpec.ofChange fnWordRanksSpec)

/-- ITS FALSE NEIGHBOUR: 'it returns false'. Refute it at one input. -/
def fnWordRanksWrong : ChangeSpec := { name := "fnWordRanks", fn := fun _ => fun
  | [d1, d2] => { results := [.lit (.bool false)], args := [d1, d2] }
  | _ => none }
def FnWordRanksWrongFalsely : Prop := fnWordRanksRow.holds Try.pinned (OpenSpec.ofChange fnWordRanksWrong)

/-- 'laws.FnExactEmptyMachine': WHATEVER THE INPUT: true; the input reads as it did. -/
def fnExactEmptyMachineSpec : ChangeSpec := { name := "fnExactEmptyMachine", fn := fun _ => fun
  | [d1, d2] => { results := [.lit (.bool true)], args := [d1, d2] }
  | _ => none }
def fnExactEmptyMachineRow : OpenClaim := { program := "ytbecofpklndpaaa", sum := "d5c05983c4eed51144f92ea01aa68ea05cbbc2da97bc5f3914a0f352a660fe28", func := "loop.example/g01079/laws.FnExactEmptyMachine", spec := "fnExactEmptyMachine", apart := false }
def FnExactEmptyMachineSaid : Prop := fnExactEmptyMachineRow.holds Try.pinned (OpenSpec.ofChange fnExactEmptyMachineSpec)

/-- ITS FALSE NEIGHBOUR: 'it returns false'. Refute it at one input. -/
def fnExactEmptyMachineWrong : ChangeSpec := { name := "fnExactEmptyMachine", fn := fun _ => fun
  | [d1, d2] => { results := [.lit (.bool false)], args := [d1, d2] }
  | _ => none }
def FnExactEmptyMachineWrongFalsely : Prop := fnExactEmptyMachineRow.holds Try.pinned (OpenSpec.ofChange fnExactEmptyMachineWrong)

/-- 'laws.FnExactUsedCounts': WHATEVER THE INPUT: true; the input reads as it did. -/
def fnExactUsedCountsSpec : ChangeSpec := { name := "fnExactUsedCounts", fn := fun _ => fun
  | [d] => { results := [.lit (.bool true)], args := [d] }
  | _ => none }
def fnExactUsedCountsRow : OpenClaim := { program := "ytbecofpklndpaaa", sum := "d5c05983c4eed51144f92ea01aa68ea05cbbc2da97bc5f3914a0f352a660fe28", func := "loop.example/g01079/laws.FnExactUsedCounts", spec := "fnExactUsedCounts", unfollowed := true, recurses := true, apart := false }
def FnExactUsedCountsSaid : Prop := fnExactUsedCountsRow.holds Try.pinned (OpenSpec.ofChange fnExactUsedCountsSpec)

/-- ITS FALSE NEIGHBOUR: 'it returns false'. Refute it at one input. -/
def fnExactUsedCountsWrong : ChangeSpec := { name := "fnExactUsedCounts", fn := fun _ => fun
  | [d] => { results := [.lit (.bool false)], args := [d] }
  | _ => none }
def FnExactUsedCountsWrongFalsely : Prop := fnExactUsedCountsRow.holds Try.pinned (OpenSpec.ofChange fnExactUsedCountsWrong)

/-- 'laws.FnExactStepCounters': WHATEVER THE INPUT: true; the input reads as it did. -/
def fnExactStepCountersSpec : ChangeSpec := { name := "fnExactStepCounters", fn := fun _ => fun
  | [d1, d2] => { results := [.lit (.bool true)], args := [d1, d2] }
  | _ => none }
def fnExactStepCountersRow : OpenClaim := { program := "ytbecofpklndpaaa", sum := "d5c05983c4eed51144f92ea01aa68ea05cbbc2da97bc5f3914a0f352a660fe28", func := "loop.example/g01079/laws.FnExactStepCounters", spec := "fnExactStepCounters", unfollowed := true, recurses := true, apart := false }
def FnExactStepCountersSaid : Prop := fnExactStepCountersRow.holds Try.pinned (OpenSpec.ofChange fnExactStepCountersSpec)

/-- ITS FALSE NEIGHBOUR: 'it returns false'. Refute it at one input. -/
def fnExactStepCountersWrong : ChangeSpec := { name := "fnExactStepCounters", fn := fun _ => fun
  | [d1, d2] => { results := [.lit (.bool false)], args := [d1, d2] }
  | _ => none }
def FnExactStepCountersWrongFalsely : Prop := fnExactStepCountersRow.holds Try.pinned (OpenSpec.ofChange fnExactStepCountersWrong)

/-- 'laws.FnExactRunCounters': WHATEVER THE INPUT: true; the input reads as it did. -/
def fnExactRunCountersSpec : ChangeSpec := { name := "fnExactRunCounters", fn := fun _ => fun
  | [d1, d2, d3] => { results := [.lit (.bool true)], args := [d1, d2, d3] }
  | _ => none }
def fnExactRunCountersRow : OpenClaim := { program := "ytbecofpklndpaaa", sum := "d5c05983c4eed51144f92ea01aa68ea05cbbc2da97bc5f3914a0f352a660fe28", func := "loop.example/g01079/laws.FnExactRunCounters", spec := "fnExactRunCounters", unfollowed := true, recurses := true, apart := false }
def FnExactRunCountersSaid : Prop := fnExactRunCountersRow.holds Try.pinned (OpenSpec.ofChange fnExactRunCountersSpec)

/-- ITS FALSE NEIGHBOUR: 'it returns false'. Refute it at one input. -/
def fnExactRunCountersWrong : ChangeSpec := { name := "fnExactRunCounters", fn := fun _ => fun
  | [d1, d2, d3] => { results := [.lit (.bool false)], args := [d1, d2, d3] }
  | _ => none }
def FnExactRunCountersWrongFalsely : Prop := fnExactRunCountersRow.holds Try.pinned (OpenSpec.ofChange fnExactRunCountersWrong)

/-- 'laws.FnExactStepCyclic': WHATEVER THE INPUT: true; the input reads as it did. -/
def fnExactStepCyclicSpec : ChangeSpec := { name := "fnExactStepCyclic", fn := fun _ => fun
  | [d1, d2] => { results := [.lit (.bool true)], args := [d1, d2] }
  | _ => none }
def fnExactStepCyclicRow : OpenClaim := { program := "ytbecofpklndpaaa", sum := "d5c05983c4eed51144f92ea01aa68ea05cbbc2da97bc5f3914a0f352a660fe28", func := "loop.example/g01079/laws.FnExactStepCyclic", spec := "fnExactStepCyclic", unfollowed := true, recurses := true, apart := false }
def FnExactStepCyclicSaid : Prop := fnExactStepCyclicRow.holds Try.pinned (OpenSpec.ofChange fnExactStepCyclicSpec)

/-- ITS FALSE NEIGHBOUR: 'it returns false'. Refute it at one input. -/
def fnExactStepCyclicWrong : ChangeSpec := { name := "fnExactStepCyclic", fn := fun _ => fun
  | [d1, d2] => { results := [.lit (.bool false)], args := [d1, d2] }
  | _ => none }
def FnExactStepCyclicWrongFalsely : Prop := fnExactStepCyclicRow.holds Try.pinned (OpenSpec.ofChange fnExactStepCyclicWrong)

/-- 'laws.FnFractions': WHATEVER THE INPUT: true; the input reads as it did. -/
def fnFractionsSpec : ChangeSpec := { name := "fnFractions", fn := fun _ => fun
  | [d1, d2] => { results := [.lit (.bool true)], args := [d1, d2] }
  | _ => none }
def fnFractionsRow : OpenClaim := { program := "ytbecofpklndpaaa", sum := "d5c05983c4eed51144f92ea01aa68ea05cbbc2da97bc5f3914a0f352a660fe28", func := "loop.example/g01079/laws.FnFractions", spec := "fnFractions", unfollowed := true, recurses := true, apart := false }
def FnFractionsSaid : Prop := fnFractionsRow.holds Try.pinned (OpenSpec.ofChange fnFractionsSpec)

/-- ITS FALSE NEIGHBOUR: 'it returns false'. Refute it at one input. -/
def fnFractionsWrong : ChangeSpec := { name := "fnFractions", fn := fun _ => fun
  | [d1, d2] => { results := [.lit (.bool false)], args := [d1, d2] }
  | _ => none }
def FnFractionsWrongFalsely : Prop := fnFractionsRow.holds Try.pinned (OpenSpec.ofChange fnFractionsWrong)

/-- 'laws.FnExactTraceCounters': WHATEVER THE INPUT: true; the input reads as it did. -/
def fnExactTraceCountersSpec : ChangeSpec := { name := "fnExactTraceCounters", fn := fun _ => fun
  | [d1, d2, d3] => { results := [.lit (.bool true)], args := [d1, d2, d3] }
  | _ => none }
def fnExactTraceCountersRow : OpenClaim := { program := "ytbecofpklndpaaa", sum := "d5c05983c4eed51144f92ea01aa68ea05cbbc2da97bc5f3914a0f352a660fe28", func := "loop.example/g01079/laws.FnExactTraceCounters", spec := "fnExactTraceCounters", unfollowed := true, recurses := true, apart := false }
def FnExactTraceCountersSaid : Prop := fnExactTraceCountersRow.holds Try.pinned (OpenSpec.ofChange fnExactTraceCountersSpec)

/-- ITS FALSE NEIGHBOUR: 'it returns false'. Refute it at one input. -/
def fnExactTraceCountersWrong : ChangeSpec := { name := "fnExactTraceCounters", fn := fun _ => fun
  | [d1, d2, d3] => { results := [.lit (.bool false)], args := [d1, d2, d3] }
  | _ => none }
def FnExactTraceCountersWrongFalsely : Prop := fnExactTraceCountersRow.holds Try.pinned (OpenSpec.ofChange fnExactTraceCountersWrong)

/-- 'laws.FnArithmetic': WHATEVER THE INPUT: true; the input reads as it did. -/
def fnArithmeticSpec : ChangeSpec := { name := "fnArithmetic", fn := fun _ => fun
  | [d] => { results := [.lit (.bool true)], args := [d] }
  | _ => none }
def fnArithmeticRow : OpenClaim := { program := "ytbecofpklndpaaa", sum := "d5c05983c4eed51144f92ea01aa68ea05cbbc2da97bc5f3914a0f352a660fe28", func := "loop.example/g01079/laws.FnArithmetic", spec := "fnArithmetic", unfollowed := true, recurses := true, apart := false }
def FnArithmeticSaid : Prop := fnArithmeticRow.holds Try.pinned (OpenSpec.ofChange fnArithmeticSpec)

/-- ITS FALSE NEIGHBOUR: 'it returns false'. Refute it at one input. -/
def fnArithmeticWrong : ChangeSpec := { name := "fnArithmetic", fn := fun _ => fun
  | [d] => { results := [.lit (.bool false)], args := [d] }
  | _ => none }
def FnArithmeticWrongFalsely : Prop := fnArithmeticRow.holds Try.pinned (OpenSpec.ofChange fnArithmeticWrong)

/-- 'laws.FnWordPieces': WHATEVER THE INPUT: true; the input reads as it did. -/
def fnWordPiecesSpec : ChangeSpec := { name := "fnWordPieces", fn := fun _ => fun
  | [d1, d2] => { results := [.lit (.bool true)], args := [d1, d2] }
  | _ => none }
def fnWordPiecesRow : OpenClaim := { program := "ytbecofpklndpaaa", sum := "d5c05983c4eed51144f92ea01aa68ea05cbbc2da97bc5f3914a0f352a660fe28", func := "loop.example/g01079/laws.FnWordPieces", spec := "fnWordPieces", unfollowed := true, recurses := true, apart := false }
def FnWordPiecesSaid : Prop := fnWordPiecesRow.holds Try.pinned (OpenSpec.ofChange fnWordPiecesSpec)

/-- ITS FALSE NEIGHBOUR: 'it returns false'. Refute it at one input. -/
def fnWordPiecesWrong : ChangeSpec := { name := "fnWordPieces", fn := fun _ => fun
  | [d1, d2] => { results := [.lit (.bool false)], args := [d1, d2] }
  | _ => none }
def FnWordPiecesWrongFalsely : Prop := fnWordPiecesRow.holds Try.pinned (OpenSpec.ofChange fnWordPiecesWrong)

/-- 'laws.FnRegisterRuns': WHATEVER THE INPUT: true; the input reads as it did. -/
def fnRegisterRunsSpec : ChangeSpec := { name := "fnRegisterRuns", fn := fun _ => fun
  | [d1, d2] => { results := [.lit (.bool true)], args := [d1, d2] }
  | _ => none }
def fnRegisterRunsRow : OpenClaim := { program := "ytbecofpklndpaaa", sum := "d5c05983c4eed51144f92ea01aa68ea05cbbc2da97bc5f3914a0f352a660fe28", func := "loop.example/g01079/laws.FnRegisterRuns", spec := "fnRegisterRuns", unfollowed := true, recurses := true, apart := false }
def FnRegisterRunsSaid : Prop := fnRegisterRunsRow.holds Try.pinned (OpenSpec.ofChange fnRegisterRunsSpec)

/-- ITS FALSE NEIGHBOUR: 'it returns false'. Refute it at one input. -/
def fnRegisterRunsWrong : ChangeSpec := { name := "fnRegisterRuns", fn := fun _ => fun
  | [d1, d2] => { results := [.lit (.bool false)], args := [d1, d2] }
  | _ => none }
def FnRegisterRunsWrongFalsely : Prop := fnRegisterRunsRow.holds Try.pinned (OpenSpec.ofChange fnRegisterRunsWrong)

/- THE SECOND FORM. 'bulk': how many values and letters a reading holds, each counted each time it is reached (what is shared counts as often as it is met; a slice's spare places count too). A statement '..UptoSaid' is the law's where the arguments, and the package variables that the reading takes, are together of bulk at most 1048576: NARROWER than '..Said'. Prove '..Said' where nothing that the law and all that it calls make is longer than what came in: it says more and counts as full. Else prove '..UptoSaid'. A law counts once. -/
mutual
def uptoBulk {H : Type} : DataW H → Nat
  | .lit (.string bytes) => bytes.length + 1
  | .lit _ => 1
  | .nil => 1
  | .ptr d => uptoBulk d + 1
  | .slice elems spare => uptoBulkAll elems + uptoBulkAll spare + 1
  | .agg parts => uptoBulkAll parts + 1
  | .iface _ d => uptoBulk d + 1
  | .map entries => uptoBulkEntries entries + 1
  | .held _ => 1
def uptoBulkAll {H : Type} : List (DataW H) → Nat
  | [] => 0
  | d :: r => uptoBulk d + uptoBulkAll r
def uptoBulkEntries {H : Type} : List (Lit × DataW H) → Nat
  | [] => 0
  | x :: r => uptoBulkEntry x + uptoBulkEntries r
def uptoBulkEntry {H : Type} : Lit × DataW H → Nat
  | (.string bytes, d) => bytes.length + uptoBulk d + 1
  | (_, d) => uptoBulk d + 1
 end
def uptoSmall : (H : Type) → List (DataW H) → Bool := fun _ ds => decide (uptoBulkAll ds ≤ 1048576)
def OpenSpec.upto (s : _root_.Go.ChangeSpec) : _root_.Go.OpenSpec := { _root_.Go.OpenSpec.ofChange s with cond := some uptoSmall }

/-- 'laws.FnPrefixCodes', WHERE WHAT IT READS IS OF BULK AT MOST 1048576: true; the input reads as it did. -/
def fnPrefixCodesUptoRow : OpenClaim := { program := "ytbecofpklndpaaa", sum := "d5c05983c4eed51144f92ea01aa68ea05cbbc2da97bc5f3914a0f352a660fe28", func := "loop.example/g01079/laws.FnPrefixCodes", spec := "fnPrefixCodes", unfollowed := true, recurses := true, apart := false, narrowed := true }
def FnPrefixCodesUptoSaid : Prop := fnPrefixCodesUptoRow.holds Try.pinned (OpenSpec.upto fnPrefixCodesSpec)

/-- 'laws.FnWordRanks', WHERE WHAT IT READS IS OF BULK AT MOST 1048576: true; the input reads as it did. -/
def fnWordRanksUptoRow : OpenClaim := { program := "ytbecofpklndpaaa", sum := "d5c05983c4eed51144f92ea01aa68ea05cbbc2da97bc5f3914a0f352a660fe28", func := "loop.example/g01079/laws.FnWordRanks", spec := "fnWordRanks", apart := false, narrowed := true }
def FnWordRanksUptoSaid : Prop := fnWordRanksUptoRow.holds Try.pinned (OpenSpec.upto fnWordRanksSpec)

/-- 'laws.FnExactEmptyMachine', WHERE WHAT IT READS IS OF BULK AT MOST 1048576: true; the input reads as it did. -/
def fnExactEmptyMachineUptoRow : OpenClaim := { program := "ytbecofpklndpaaa", sum := "d5c05983c4eed51144f92ea01aa68ea05cbbc2da97bc5f3914a0f352a660fe28", func := "loop.example/g01079/laws.FnExactEmptyMachine", spec := "fnExactEmptyMachine", apart := false, narrowed := true }
def FnExactEmptyMachineUptoSaid : Prop := fnExactEmptyMachineUptoRow.holds Try.pinned (OpenSpec.upto fnExactEmptyMachineSpec)

/-- 'laws.FnExactUsedCounts', WHERE WHAT IT READS IS OF BULK AT MOST 1048576: true; the input reads as it did. -/
def fnExactUsedCountsUptoRow : OpenClaim := { program := "ytbecofpklndpaaa", sum := "d5c05983c4eed51144f92ea01aa68ea05cbbc2da97bc5f3914a0f352a660fe28", func := "loop.example/g01079/laws.FnExactUsedCounts", spec := "fnExactUsedCounts", unfollowed := true, recurses := true, apart := false, narrowed := true }
def FnExactUsedCountsUptoSaid : Prop := fnExactUsedCountsUptoRow.holds Try.pinned (OpenSpec.upto fnExactUsedCountsSpec)

/-- 'laws.FnExactStepCounters', WHERE WHAT IT READS IS OF BULK AT MOST 1048576: true; the input reads as it did. -/
def fnExactStepCountersUptoRow : OpenClaim := { program := "ytbecofpklndpaaa", sum := "d5c05983c4eed51144f92ea01aa68ea05cbbc2da97bc5f3914a0f352a660fe28", func := "loop.example/g01079/laws.FnExactStepCounters", spec := "fnExactStepCounters", unfollowed := true, recurses := true, apart := false, narrowed := true }
def FnExactStepCountersUptoSaid : Prop := fnExactStepCountersUptoRow.holds Try.pinned (OpenSpec.upto fnExactStepCountersSpec)

/-- 'laws.FnExactRunCounters', WHERE WHAT IT READS IS OF BULK AT MOST 1048576: true; the input reads as it did. -/
def fnExactRunCountersUptoRow : OpenClaim := { program := "ytbecofpklndpaaa", sum := "d5c05983c4eed51144f92ea01aa68ea05cbbc2da97bc5f3914a0f352a660fe28", func := "loop.example/g01079/laws.FnExactRunCounters", spec := "fnExactRunCounters", unfollowed := true, recurses := true, apart := false, narrowed := true }
def FnExactRunCountersUptoSaid : Prop := fnExactRunCountersUptoRow.holds Try.pinned (OpenSpec.upto fnExactRunCountersSpec)

/-- 'laws.FnExactStepCyclic', WHERE WHAT IT READS IS OF BULK AT MOST 1048576: true; the input reads as it did. -/
def fnExactStepCyclicUptoRow : OpenClaim := { program := "ytbecofpklndpaaa", sum := "d5c05983c4eed51144f92ea01aa68ea05cbbc2da97bc5f3914a0f352a660fe28", func := "loop.example/g01079/laws.FnExactStepCyclic", spec := "fnExactStepCyclic", unfollowed := true, recurses := true, apart := false, narrowed := true }
def FnExactStepCyclicUptoSaid : Prop := fnExactStepCyclicUptoRow.holds Try.pinned (OpenSpec.upto fnExactStepCyclicSpec)

/-- 'laws.FnFractions', WHERE WHAT IT READS IS OF BULK AT MOST 1048576: true; the input reads as it did. -/
def fnFractionsUptoRow : OpenClaim := { program := "ytbecofpklndpaaa", sum := "d5c05983c4eed51144f92ea01aa68ea05cbbc2da97bc5f3914a0f352a660fe28", func := "loop.example/g01079/laws.FnFractions", spec := "fnFractions", unfollowed := true, recurses := true, apart := false, narrowed := true }
def FnFractionsUptoSaid : Prop := fnFractionsUptoRow.holds Try.pinned (OpenSpec.upto fnFractionsSpec)

/-- 'laws.FnExactTraceCounters', WHERE WHAT IT READS IS OF BULK AT MOST 1048576: true; the input reads as it did. -/
def fnExactTraceCountersUptoRow : OpenClaim := { program := "ytbecofpklndpaaa", sum := "d5c05983c4eed51144f92ea01aa68ea05cbbc2da97bc5f3914a0f352a660fe28", func := "loop.example/g01079/laws.FnExactTraceCounters", spec := "fnExactTraceCounters", unfollowed := true, recurses := true, apart := false, narrowed := true }
def FnExactTraceCountersUptoSaid : Prop := fnExactTraceCountersUptoRow.holds Try.pinned (OpenSpec.upto fnExactTraceCountersSpec)

/-- 'laws.FnArithmetic', WHERE WHAT IT READS IS OF BULK AT MOST 1048576: true; the input reads as it did. -/
def fnArithmeticUptoRow : OpenClaim := { program := "ytbecofpklndpaaa", sum := "d5c05983c4eed51144f92ea01aa68ea05cbbc2da97bc5f3914a0f352a660fe28", func := "loop.example/g01079/laws.FnArithmetic", spec := "fnArithmetic", unfollowed := true, recurses := true, apart := false, narrowed := true }
def FnArithmeticUptoSaid : Prop := fnArithmeticUptoRow.holds Try.pinned (OpenSpec.upto fnArithmeticSpec)

/-- 'laws.FnWordPieces', WHERE WHAT IT READS IS OF BULK AT MOST 1048576: true; the input reads as it did. -/
def fnWordPiecesUptoRow : OpenClaim := { program := "ytbecofpklndpaaa", sum := "d5c05983c4eed51144f92ea01aa68ea05cbbc2da97bc5f3914a0f352a660fe28", func := "loop.example/g01079/laws.FnWordPieces", spec := "fnWordPieces", unfollowed := true, recurses := true, apart := false, narrowed := true }
def FnWordPiecesUptoSaid : Prop := fnWordPiecesUptoRow.holds Try.pinned (OpenSpec.upto fnWordPiecesSpec)

/-- 'laws.FnRegisterRuns', WHERE WHAT IT READS IS OF BULK AT MOST 1048576: true; the input reads as it did. -/
def fnRegisterRunsUptoRow : OpenClaim := { program := "ytbecofpklndpaaa", sum := "d5c05983c4eed51144f92ea01aa68ea05cbbc2da97bc5f3914a0f352a660fe28", func := "loop.example/g01079/laws.FnRegisterRuns", spec := "fnRegisterRuns", unfollowed := true, recurses := true, apart := false, narrowed := true }
def FnRegisterRunsUptoSaid : Prop := fnRegisterRunsUptoRow.holds Try.pinned (OpenSpec.upto fnRegisterRunsSpec)

end Rows
end Go.Proofs.Ytbecofpklndpaaa
