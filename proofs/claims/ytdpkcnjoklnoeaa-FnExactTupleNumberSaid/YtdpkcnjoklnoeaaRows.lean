/-
  No cell of these rows narrows 'for every input' (looked for: loops, veiled, ifaces, maps, wideKeys, modest, calm, conditions, laid).
  DERIVED. THE GIVEN ROWS OF THIS SEAT. 12 by the template 'for every input the law returns true; each argument reads behind the call as it read before'; 0 by the template 'total and deterministic' (their statements: YtdpkcnjoklnoeaaTotals.lean).
  GIVEN WITH THE SEED: the statements are not yours to turn. If you find one false, say at which input.
  Laid BY PROGRAM, IN A SANDBOX (cutbox-rows.mjs): the forced cells as the released guide's own fill.sh prints them over the translation dae522e4339c1b12… (all of the seat's roots in one cut). By AI agents, Wed Nov 11 2026. No macro, syntax, notation, axiom, sorry.
-/
import Derived.Test.YtdpkcnjoklnoeaaChecked
import GoSem.Claim
import GoSem.ClaimJoined
import GoSem.ClaimMapViews
import Derived.JoinedTies
import Derived.KernelRfl
namespace Go.Proofs.Ytdpkcnjoklnoeaa
/- THE CELL 'sum', in the pinned program and in every row, IS THE sha256 OF THE DUMP (.gsa) THAT YtdpkcnjoklnoeaaProg.lean LOADS. Nothing in Lean hashes anything: it is a label: what it is worth is what the hold of that sum in a sandbox is worth. -/
noncomputable def Try.pinned : Pinned := { name := "ytdpkcnjoklnoeaa", sum := "dae522e4339c1b123f142c4d67e052ddae30b6979d36494a46c0cfef4e4db1e0", checked := Try.checked }
namespace Rows
def none {H : Type} : Left H := { results := [], args := [] }

/-- 'laws.FnExactWordNumber': WHATEVER THE INPUT: true; the input reads as it did. -/
def fnExactWordNumberSpec : ChangeSpec := { name := "fnExactWordNumber", fn := fun _ => fun
  | [d1, d2] => { results := [.lit (.bool true)], args := [d1, d2] }
  | _ => none }
def fnExactWordNumberRow : OpenClaim := { program := "ytdpkcnjoklnoeaa", sum := "dae522e4339c1b123f142c4d67e052ddae30b6979d36494a46c0cfef4e4db1e0", func := "loop.example/g01079/laws.FnExactWordNumber", spec := "fnExactWordNumber", apart := false }
def FnExactWordNumberSaid : Prop := fnExactWordNumberRow.holds Try.pinned (OpenSpec.ofChange fnExactWordNumberSpec)

/-- ITS FALSE NEIGHBOUR: 'it returns false'. Refute it at one input. -/
def fnExactWordNumberWrong : ChangeSpec := { name := "fnExactWordNumber", fn := fun _ => fun
  | [d1, d2] => { results := [.lit (.bool false)], args := [d1, d2] }
  | _ => none }
def FnExactWordNumberWrongFalsely : Prop := fnExactWordNumberRow.holds Try.pinned (OpenSpec.ofChange fnExactWordNumberWrong)

/-- 'laws.FnExactFromDigits': WHATEVER THE INPUT: true; the input reads as it did. -/
def fnExactFromDigitsSpec : ChangeSpec := { name := "fnExactFromDigits", fn := fun _ => fun
  | [d1, d2] => { results := [.lit (.bool true)], args := [d1, d2] }
  | _ => none }
def fnExactFromDigitsRow : OpenClaim := { program := "ytdpkcnjoklnoeaa", sum := "dae522e4339c1b123f142c4d67e052ddae30b6979d36494a46c0cfef4e4db1e0", func := "loop.example/g01079/laws.FnExactFromDigits", spec := "fnExactFromDigits", apart := false }
def FnExactFromDigitsSaid : Prop := fnExactFromDigitsRow.holds Try.pinned (OpenSpec.ofChange fnExactFromDigitsSpec)

/-- ITS FALSE NEIGHBOUR: 'it returns false'. Refute it at one input. -/
def fnExactFromDigitsWrong : ChangeSpec := { name := "fnExactFromDigits", fn := fun _ => fun
  | [d1, d2] => { results := [.lit (.bool false)], args := [d1, d2] }
  | _ => none }
def FnExactFromDigitsWrongFalsely : Prop := fnExactFromDigitsRow.holds Try.pinned (OpenSpec.ofChange fnExactFromDigitsWrong)

/-- 'laws.FnExactSignedNumber': WHATEVER THE INPUT: true; the input reads as it did. -/
def fnExactSignedNumberSpec : ChangeSpec := { name := "fnExactSignedNumber", fn := fun _ => fun
  | [d1, d2] => { results := [.lit (.bool true)], args := [d1, d2] }
  | _ => none }
def fnExactSignedNumberRow : OpenClaim := { program := "ytdpkcnjoklnoeaa", sum := "dae522e4339c1b123f142c4d67e052ddae30b6979d36494a46c0cfef4e4db1e0", func := "loop.example/g01079/laws.FnExactSignedNumber", spec := "fnExactSignedNumber", apart := false }
def FnExactSignedNumberSaid : Prop := fnExactSignedNumberRow.holds Try.pinned (OpenSpec.ofChange fnExactSignedNumberSpec)

/-- ITS FALSE NEIGHBOUR: 'it returns false'. Refute it at one input. -/
def fnExactSignedNumberWrong : ChangeSpec := { name := "fnExactSignedNumber", fn := fun _ => fun
  | [d1, d2] => { results := [.lit (.bool false)], args := [d1, d2] }
  | _ => none }
def FnExactSignedNumberWrongFalsely : Prop := fnExactSignedNumberRow.holds Try.pinned (OpenSpec.ofChange fnExactSignedNumberWrong)

/-- 'laws.FnExactSetNumber': WHATEVER THE INPUT: true; the input reads as it did. -/
def fnExactSetNumberSpec : ChangeSpec := { name := "fnExactSetNumber", fn := fun _ => fun
  | [d] => { results := [.lit (.bool true)], args := [d] }
  | _ => none }
def fnExactSetNumberRow : OpenClaim := { program := "ytdpkcnjoklnoeaa", sum := "dae522e4339c1b123f142c4d67e052ddae30b6979d36494a46c0cfef4e4db1e0", func := "loop.example/g01079/laws.FnExactSetNumber", spec := "fnExactSetNumber", apart := false }
def FnExactSetNumberSaid : Prop := fnExactSetNumberRow.holds Try.pinned (OpenSpec.ofChange fnExactSetNumberSpec)

/-- ITS FALSE NEIGHBOUR: 'it returns false'. Refute it at one input. -/
def fnExactSetNumberWrong : ChangeSpec := { name := "fnExactSetNumber", fn := fun _ => fun
  | [d] => { results := [.lit (.bool false)], args := [d] }
  | _ => none }
def FnExactSetNumberWrongFalsely : Prop := fnExactSetNumberRow.holds Try.pinned (OpenSpec.ofChange fnExactSetNumberWrong)

/-- 'laws.FnExactPairOf': WHATEVER THE INPUT: true; the input reads as it did. -/
def fnExactPairOfSpec : ChangeSpec := { name := "fnExactPairOf", fn := fun _ => fun
  | [d1, d2] => { results := [.lit (.bool true)], args := [d1, d2] }
  | _ => none }
def fnExactPairOfRow : OpenClaim := { program := "ytdpkcnjoklnoeaa", sum := "dae522e4339c1b123f142c4d67e052ddae30b6979d36494a46c0cfef4e4db1e0", func := "loop.example/g01079/laws.FnExactPairOf", spec := "fnExactPairOf", unfollowed := true, recurses := true, apart := false }
def FnExactPairOfSaid : Prop := fnExactPairOfRow.holds Try.pinned (OpenSpec.ofChange fnExactPairOfSpec)

/-- ITS FALSE NEIGHBOUR: 'it returns false'. Refute it at one input. -/
def fnExactPairOfWrong : ChangeSpec := { name := "fnExactPairOf", fn := fun _ => fun
  | [d1, d2] => { results := [.lit (.bool false)], args := [d1, d2] }
  | _ => none }
def FnExactPairOfWrongFalsely : Prop := fnExactPairOfRow.holds Try.pinned (OpenSpec.ofChange fnExactPairOfWrong)

/-- 'laws.FnExactUnweaveNatural': WHATEVER THE INPUT: true; the input reads as it did. -/
def fnExactUnweaveNaturalSpec : ChangeSpec := { name := "fnExactUnweaveNatural", fn := fun _ => fun
  | [d] => { results := [.lit (.bool true)], args := [d] }
  | _ => none }
def fnExactUnweaveNaturalRow : OpenClaim := { program := "ytdpkcnjoklnoeaa", sum := "dae522e4339c1b123f142c4d67e052ddae30b6979d36494a46c0cfef4e4db1e0", func := "loop.example/g01079/laws.FnExactUnweaveNatural", spec := "fnExactUnweaveNatural", apart := false }
def FnExactUnweaveNaturalSaid : Prop := fnExactUnweaveNaturalRow.holds Try.pinned (OpenSpec.ofChange fnExactUnweaveNaturalSpec)

/-- ITS FALSE NEIGHBOUR: 'it returns false'. Refute it at one input. -/
def fnExactUnweaveNaturalWrong : ChangeSpec := { name := "fnExactUnweaveNatural", fn := fun _ => fun
  | [d] => { results := [.lit (.bool false)], args := [d] }
  | _ => none }
def FnExactUnweaveNaturalWrongFalsely : Prop := fnExactUnweaveNaturalRow.holds Try.pinned (OpenSpec.ofChange fnExactUnweaveNaturalWrong)

/-- 'laws.FnExactWeaveNaturals': WHATEVER THE INPUT: true; the input reads as it did. -/
def fnExactWeaveNaturalsSpec : ChangeSpec := { name := "fnExactWeaveNaturals", fn := fun _ => fun
  | [d1, d2] => { results := [.lit (.bool true)], args := [d1, d2] }
  | _ => none }
def fnExactWeaveNaturalsRow : OpenClaim := { program := "ytdpkcnjoklnoeaa", sum := "dae522e4339c1b123f142c4d67e052ddae30b6979d36494a46c0cfef4e4db1e0", func := "loop.example/g01079/laws.FnExactWeaveNaturals", spec := "fnExactWeaveNaturals", unfollowed := true, recurses := true, apart := false }
def FnExactWeaveNaturalsSaid : Prop := fnExactWeaveNaturalsRow.holds Try.pinned (OpenSpec.ofChange fnExactWeaveNaturalsSpec)

/-- ITS FALSE NEIGHBOUR: 'it returns false'. Refute it at one input. -/
def fnExactWeaveNaturalsWrong : ChangeSpec := { name := "fnExactWeaveNaturals", fn := fun _ => fun
  | [d1, d2] => { results := [.lit (.bool false)], args := [d1, d2] }
  | _ => none }
def FnExactWeaveNaturalsWrongFalsely : Prop := fnExactWeaveNaturalsRow.holds Try.pinned (OpenSpec.ofChange fnExactWeaveNaturalsWrong)

/-- 'laws.FnExactSequenceNumber': WHATEVER THE INPUT: true; the input reads as it did. -/
def fnExactSequenceNumberSpec : ChangeSpec := { name := "fnExactSequenceNumber", fn := fun _ => fun
  | [d] => { results := [.lit (.bool true)], args := [d] }
  | _ => none }
def fnExactSequenceNumberRow : OpenClaim := { program := "ytdpkcnjoklnoeaa", sum := "dae522e4339c1b123f142c4d67e052ddae30b6979d36494a46c0cfef4e4db1e0", func := "loop.example/g01079/laws.FnExactSequenceNumber", spec := "fnExactSequenceNumber", unfollowed := true, recurses := true, apart := false }
def FnExactSequenceNumberSaid : Prop := fnExactSequenceNumberRow.holds Try.pinned (OpenSpec.ofChange fnExactSequenceNumberSpec)

/-- ITS FALSE NEIGHBOUR: 'it returns false'. Refute it at one input. -/
def fnExactSequenceNumberWrong : ChangeSpec := { name := "fnExactSequenceNumber", fn := fun _ => fun
  | [d] => { results := [.lit (.bool false)], args := [d] }
  | _ => none }
def FnExactSequenceNumberWrongFalsely : Prop := fnExactSequenceNumberRow.holds Try.pinned (OpenSpec.ofChange fnExactSequenceNumberWrong)

/-- 'laws.FnExactTupleNumber': WHATEVER THE INPUT: true; the input reads as it did. -/
def fnExactTupleNumberSpec : ChangeSpec := { name := "fnExactTupleNumber", fn := fun _ => fun
  | [d] => { results := [.lit (.bool true)], args := [d] }
  | _ => none }
def fnExactTupleNumberRow : OpenClaim := { program := "ytdpkcnjoklnoeaa", sum := "dae522e4339c1b123f142c4d67e052ddae30b6979d36494a46c0cfef4e4db1e0", func := "loop.example/g01079/laws.FnExactTupleNumber", spec := "fnExactTupleNumber", unfollowed := true, recurses := true, apart := false }
def FnExactTupleNumberSaid : Prop := fnExactTupleNumberRow.holds Try.pinned (OpenSpec.ofChange fnExactTupleNumberSpec)

/-- ITS FALSE NEIGHBOUR: 'it returns false'. Refute it at one input. -/
def fnExactTupleNumberWrong : ChangeSpec := { name := "fnExactTupleNumber", fn := fun _ => fun
  | [d] => { results := [.lit (.bool false)], args := [d] }
  | _ => none }
def FnExactTupleNumberWrongFalsely : Prop := fnExactTupleNumberRow.holds Try.pinned (OpenSpec.ofChange fnExactTupleNumberWrong)

/-- 'laws.FnExactUnpairOf': WHATEVER THE INPUT: true; the input reads as it did. -/
def fnExactUnpairOfSpec : ChangeSpec := { name := "fnExactUnpairOf", fn := fun _ => fun
  | [d] => { results := [.lit (.bool true)], args := [d] }
  | _ => none }
def fnExactUnpairOfRow : OpenClaim := { program := "ytdpkcnjoklnoeaa", sum := "dae522e4339c1b123f142c4d67e052ddae30b6979d36494a46c0cfef4e4db1e0", func := "loop.example/g01079/laws.FnExactUnpairOf", spec := "fnExactUnpairOf", unfollowed := true, recurses := true, apart := false }
def FnExactUnpairOfSaid : Prop := fnExactUnpairOfRow.holds Try.pinned (OpenSpec.ofChange fnExactUnpairOfSpec)

/-- ITS FALSE NEIGHBOUR: 'it returns false'. Refute it at one input. -/
def fnExactUnpairOfWrong : ChangeSpec := { name := "fnExactUnpairOf", fn := fun _ => fun
  | [d] => { results := [.lit (.bool false)], args := [d] }
  | _ => none }
def FnExactUnpairOfWrongFalsely : Prop := fnExactUnpairOfRow.holds Try.pinned (OpenSpec.ofChange fnExactUnpairOfWrong)

/-- 'laws.FnExactSequenceOf': WHATEVER THE INPUT: true; the input reads as it did. -/
def fnExactSequenceOfSpec : ChangeSpec := { name := "fnExactSequenceOf", fn := fun _ => fun
  | [d] => { results := [.lit (.bool true)], args := [d] }
  | _ => none }
def fnExactSequenceOfRow : OpenClaim := { program := "ytdpkcnjoklnoeaa", sum := "dae522e4339c1b123f142c4d67e052ddae30b6979d36494a46c0cfef4e4db1e0", func := "loop.example/g01079/laws.FnExactSequenceOf", spec := "fnExactSequenceOf", unfollowed := true, recurses := true, apart := false }
def FnExactSequenceOfSaid : Prop := fnExactSequenceOfRow.holds Try.pinned (OpenSpec.ofChange fnExactSequenceOfSpec)

/-- ITS FALSE NEIGHBOUR: 'it returns false'. Refute it at one input. -/
def fnExactSequenceOfWrong : ChangeSpec := { name := "fnExactSequenceOf", fn := fun _ => fun
  | [d] => { results := [.lit (.bool false)], args := [d] }
  | _ => none }
def FnExactSequenceOfWrongFalsely : Prop := fnExactSequenceOfRow.holds Try.pinned (OpenSpec.ofChange fnExactSequenceOfWrong)

/-- 'laws.FnExactTupleOf': WHATEVER THE INPUT: true; the input reads as it did. -/
def fnExactTupleOfSpec : ChangeSpec := { name := "fnExactTupleOf", fn := fun _ => fun
  | [d1, d2] => { results := [.lit (.bool true)], args := [d1, d2] }
  | _ => none }
def fnExactTupleOfRow : OpenClaim := { program := "ytdpkcnjoklnoeaa", sum := "dae522e4339c1b123f142c4d67e052ddae30b6979d36494a46c0cfef4e4db1e0", func := "loop.example/g01079/laws.FnExactTupleOf", spec := "fnExactTupleOf", unfollowed := true, recurses := true, apart := false }
def FnExactTupleOfSaid : Prop := fnExactTupleOfRow.holds Try.pinned (OpenSpec.ofChange fnExactTupleOfSpec)

/-- ITS FALSE NEIGHBOUR: 'it returns false'. Refute it at one input. -/
def fnExactTupleOfWrong : ChangeSpec := { name := "fnExactTupleOf", fn := fun _ => fun
  | [d1, d2] => { results := [.lit (.bool false)], args := [d1, d2] }
  | _ => none }
def FnExactTupleOfWrongFalsely : Prop := fnExactTupleOfRow.holds Try.pinned (OpenSpec.ofChange fnExactTupleOfWrong)

/- THE SECOND FORM. 'bulk': how many values and letters a reading holds, each counted each time it is reached (what is shared counts as often as it is met; a slice's spare places count too). A statement '..UptoSaid' is the law's where the arguments, and the package variables that the reading takes, are together of bulk at most 1048576: NARROWER than '..Said'. Prove '..Said' where nothing that the law and all that it calls make is longer than what came in: it says more and counts as full. Else prove '..UptoSaid'. A law counts once. -/
mutual
def uptoBulk {H : Type} : DataW H → Nat
  | .lit (.string bytes) => bytes.length + 1
  | .lit _ => 1
  | .nil => 1
  | .ptr d => uptoBulk d + 1
  | .slice elems spare => uptoBulkAll elems + uptoBulkAll spare + 1
  | .agg parts => uptoBulkAll parts + 1
  | .iface _ d => uptoBulk d + 1
  | .map entries => uptoBulkEntries entries + 1
  | .held _ => 1
def uptoBulkAll {H : Type} : List (DataW H) → Nat
  | [] => 0
  | d :: r => uptoBulk d + uptoBulkAll r
def uptoBulkEntries {H : Type} : List (Lit × DataW H) → Nat
  | [] => 0
  | x :: r => uptoBulkEntry x + uptoBulkEntries r
def uptoBulkEntry {H : Type} : Lit × DataW H → Nat
  | (.string bytes, d) => bytes.length + uptoBulk d + 1
  | (_, d) => uptoBulk d + 1
 end
def uptoSmall : (H : Type) → List (DataW H) → Bool := fun _ ds => decide (uptoBulkAll ds ≤ 1048576)
def OpenSpec.upto (s : _root_.Go.ChangeSpec) : _root_.Go.OpenSpec := { _root_.Go.OpenSpec.ofChange s with cond := some uptoSmall }

/-- 'laws.FnExactWordNumber', WHERE WHAT IT READS IS OF BULK AT MOST 1048576: true; the input reads as it did. -/
def fnExactWordNumberUptoRow : OpenClaim := { program := "ytdpkcnjoklnoeaa", sum := "dae522e4339c1b123f142c4d67e052ddae30b6979d36494a46c0cfef4e4db1e0", func := "loop.example/g01079/laws.FnExactWordNumber", spec := "fnExactWordNumber", apart := false, narrowed := true }
def FnExactWordNumberUptoSaid : Prop := fnExactWordNumberUptoRow.holds Try.pinned (OpenSpec.upto fnExactWordNumberSpec)

/-- 'laws.FnExactFromDigits', WHERE WHAT IT READS IS OF BULK AT MOST 1048576: true; the input reads as it did. -/
def fnExactFromDigitsUptoRow : OpenClaim := { program := "ytdpkcnjoklnoeaa", sum := "dae522e4339c1b123f142c4d67e052ddae30b6979d36494a46c0cfef4e4db1e0", func := "loop.example/g01079/laws.FnExactFromDigits", spec := "fnExactFromDigits", apart := false, narrowed := true }
def FnExactFromDigitsUptoSaid : Prop := fnExactFromDigitsUptoRow.holds Try.pinned (OpenSpec.upto fnExactFromDigitsSpec)

/-- 'laws.FnExactSignedNumber', WHERE WHAT IT READS IS OF BULK AT MOST 1048576: true; the input reads as it did. -/
def fnExactSignedNumberUptoRow : OpenClaim := { program := "ytdpkcnjoklnoeaa", sum := "dae522e4339c1b123f142c4d67e052ddae30b6979d36494a46c0cfef4e4db1e0", func := "loop.example/g01079/laws.FnExactSignedNumber", spec := "fnExactSignedNumber", apart := false, narrowed := true }
def FnExactSignedNumberUptoSaid : Prop := fnExactSignedNumberUptoRow.holds Try.pinned (OpenSpec.upto fnExactSignedNumberSpec)

/-- 'laws.FnExactSetNumber', WHERE WHAT IT READS IS OF BULK AT MOST 1048576: true; the input reads as it did. -/
def fnExactSetNumberUptoRow : OpenClaim := { program := "ytdpkcnjoklnoeaa", sum := "dae522e4339c1b123f142c4d67e052ddae30b6979d36494a46c0cfef4e4db1e0", func := "loop.example/g01079/laws.FnExactSetNumber", spec := "fnExactSetNumber", apart := false, narrowed := true }
def FnExactSetNumberUptoSaid : Prop := fnExactSetNumberUptoRow.holds Try.pinned (OpenSpec.upto fnExactSetNumberSpec)

/-- 'laws.FnExactPairOf', WHERE WHAT IT READS IS OF BULK AT MOST 1048576: true; the input reads as it did. -/
def fnExactPairOfUptoRow : OpenClaim := { program := "ytdpkcnjoklnoeaa", sum := "dae522e4339c1b123f142c4d67e052ddae30b6979d36494a46c0cfef4e4db1e0", func := "loop.example/g01079/laws.FnExactPairOf", spec := "fnExactPairOf", unfollowed := true, recurses := true, apart := false, narrowed := true }
def FnExactPairOfUptoSaid : Prop := fnExactPairOfUptoRow.holds Try.pinned (OpenSpec.upto fnExactPairOfSpec)

/-- 'laws.FnExactUnweaveNatural', WHERE WHAT IT READS IS OF BULK AT MOST 1048576: true; the input reads as it did. -/
def fnExactUnweaveNaturalUptoRow : OpenClaim := { program := "ytdpkcnjoklnoeaa", sum := "dae522e4339c1b123f142c4d67e052ddae30b6979d36494a46c0cfef4e4db1e0", func := "loop.example/g01079/laws.FnExactUnweaveNatural", spec := "fnExactUnweaveNatural", apart := false, narrowed := true }
def FnExactUnweaveNaturalUptoSaid : Prop := fnExactUnweaveNaturalUptoRow.holds Try.pinned (OpenSpec.upto fnExactUnweaveNaturalSpec)

/-- 'laws.FnExactWeaveNaturals', WHERE WHAT IT READS IS OF BULK AT MOST 1048576: true; the input reads as it did. -/
def fnExactWeaveNaturalsUptoRow : OpenClaim := { program := "ytdpkcnjoklnoeaa", sum := "dae522e4339c1b123f142c4d67e052ddae30b6979d36494a46c0cfef4e4db1e0", func := "loop.example/g01079/laws.FnExactWeaveNaturals", spec := "fnExactWeaveNaturals", unfollowed := true, recurses := true, apart := false, narrowed := true }
def FnExactWeaveNaturalsUptoSaid : Prop := fnExactWeaveNaturalsUptoRow.holds Try.pinned (OpenSpec.upto fnExactWeaveNaturalsSpec)

/-- 'laws.FnExactSequenceNumber', WHERE WHAT IT READS IS OF BULK AT MOST 1048576: true; the input reads as it did. -/
def fnExactSequenceNumberUptoRow : OpenClaim := { program := "ytdpkcnjoklnoeaa", sum := "dae522e4339c1b123f142c4d67e052ddae30b6979d36494a46c0cfef4e4db1e0", func := "loop.example/g01079/laws.FnExactSequenceNumber", spec := "fnExactSequenceNumber", unfollowed := true, recurses := true, apart := false, narrowed := true }
def FnExactSequenceNumberUptoSaid : Prop := fnExactSequenceNumberUptoRow.holds Try.pinned (OpenSpec.upto fnExactSequenceNumberSpec)

/-- 'laws.FnExactTupleNumber', WHERE WHAT IT READS IS OF BULK AT MOST 1048576: true; the input reads as it did. -/
def fnExactTupleNumberUptoRow : OpenClaim := { program := "ytdpkcnjoklnoeaa", sum := "dae522e4339c1b123f142c4d67e052ddae30b6979d36494a46c0cfef4e4db1e0", func := "loop.example/g01079/laws.FnExactTupleNumber", spec := "fnExactTupleNumber", unfollowed := true, recurses := true, apart := false, narrowed := true }
def FnExactTupleNumberUptoSaid : Prop := fnExactTupleNumberUptoRow.holds Try.pinned (OpenSpec.upto fnExactTupleNumberSpec)

/-- 'laws.FnExactUnpairOf', WHERE WHAT IT READS IS OF BULK AT MOST 1048576: true; the input reads as it did. -/
def fnExactUnpairOfUptoRow : OpenClaim := { program := "ytdpkcnjoklnoeaa", sum := "dae522e4339c1b123f142c4d67e052ddae30b6979d36494a46c0cfef4e4db1e0", func := "loop.example/g01079/laws.FnExactUnpairOf", spec := "fnExactUnpairOf", unfollowed := true, recurses := true, apart := false, narrowed := true }
def FnExactUnpairOfUptoSaid : Prop := fnExactUnpairOfUptoRow.holds Try.pinned (OpenSpec.upto fnExactUnpairOfSpec)

/-- 'laws.FnExactSequenceOf', WHERE WHAT IT READS IS OF BULK AT MOST 1048576: true; the input reads as it did. -/
def fnExactSequenceOfUptoRow : OpenClaim := { program := "ytdpkcnjoklnoeaa", sum := "dae522e4339c1b123f142c4d67e052ddae30b6979d36494a46c0cfef4e4db1e0", func := "loop.example/g01079/laws.FnExactSequenceOf", spec := "fnExactSequenceOf", unfollowed := true, recurses := true, apart := false, narrowed := true }
def FnExactSequenceOfUptoSaid : Prop := fnExactSequenceOfUptoRow.holds Try.pinned (OpenSpec.upto fnExactSequenceOfSpec)

/-- 'laws.FnExactTupleOf', WHERE WHAT IT READS IS OF BULK AT MOST 1048576: true; the input reads as it did. -/
def fnExactTupleOfUptoRow : OpenClaim := { program := "ytdpkcnjoklnoeaa", sum := "dae522e4339c1b123f142c4d67e052ddae30b6979d36494a46c0cfef4e4db1e0", func := "loop.example/g01079/laws.FnExactTupleOf", spec := "fnExactTupleOf", unfollowed := true, recurses := true, apart := false, narrowed := true }
def FnExactTupleOfUptoSaid : Prop := fnExactTupleOfUptoRow.holds Try.pinned (OpenSpec.upto fnExactTupleOfSpec)

end Rows
end Go.Proofs.Ytdpkcnjoklnoeaa
