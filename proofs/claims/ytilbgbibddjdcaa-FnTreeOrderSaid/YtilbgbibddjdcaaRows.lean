/-
  No cell of these rows narrows 'for every input' (looked for: loops, veiled, ifaces, maps, wideKeys, modest, calm, conditions, laid).
  DERIVED. THE GIVEN ROWS OF THIS SEAT. 11 by the template 'for every input the law returns true; each argument reads behind the call as it read before'; 0 by the template 'total and deterministic' (their statements: YtilbgbibddjdcaaTotals.lean).
  GIVEN WITH THE SEED: the statements are not yours to turn. If you find one false, say at which input.
  Laid BY PROGRAM, IN A SANDBOX (cutbox-rows.mjs): the forced cells as the released guide's own fill.sh prints them over the translation cf6167fec71ac2c9… (all of the seat's roots in one cut). By AI agents, Wed Nov 11 2026. No macro, syntax, notation, axiom, sorry.
-/
import Derived.Test.YtilbgbibddjdcaaChecked
import GoSem.Claim
import GoSem.ClaimJoined
import GoSem.ClaimMapViews
import Derived.JoinedTies
import Derived.KernelRfl
namespace Go.Proofs.Ytilbgbibddjdcaa
/- THE CELL 'sum', in the pinned program and in every row, IS THE sha256 OF THE DUMP (.gsa) THAT YtilbgbibddjdcaaProg.lean LOADS. Nothing in Lean hashes anything: it is a label: what it is worth is what the hold of that sum in a sandbox is worth. -/
noncomputable def Try.pinned : Pinned := { name := "ytilbgbibddjdcaa", sum := "cf6167fec71ac2c9f35ff7ab7a467ef1372eab8615835413fbabb6d7784d3f5a", checked := Try.checked }
namespace Rows
def none {H : Type} : Left H := { results := [], args := [] }

/-- 'laws.FnExactRankTree': WHATEVER THE INPUT: true; the input reads as it did. -/
def fnExactRankTreeSpec : ChangeSpec := { name := "fnExactRankTree", fn := fun _ => fun
  | [d] => { results := [.lit (.bool true)], args := [d] }
  | _ => none }
def fnExactRankTreeRow : OpenClaim := { program := "ytilbgbibddjdcaa", sum := "cf6167fec71ac2c9f35ff7ab7a467ef1372eab8615835413fbabb6d7784d3f5a", func := "loop.example/g01079/laws.FnExactRankTree", spec := "fnExactRankTree", unfollowed := true, recurses := true, plainKeys := false, apart := false }
def FnExactRankTreeSaid : Prop := fnExactRankTreeRow.holds Try.pinned (OpenSpec.ofChange fnExactRankTreeSpec)

/-- ITS FALSE NEIGHBOUR: 'it returns false'. Refute it at one input. -/
def fnExactRankTreeWrong : ChangeSpec := { name := "fnExactRankTree", fn := fun _ => fun
  | [d] => { results := [.lit (.bool false)], args := [d] }
  | _ => none }
def FnExactRankTreeWrongFalsely : Prop := fnExactRankTreeRow.holds Try.pinned (OpenSpec.ofChange fnExactRankTreeWrong)

/-- 'laws.FnTreeOrder': WHATEVER THE INPUT: true; the input reads as it did. -/
def fnTreeOrderSpec : ChangeSpec := { name := "fnTreeOrder", fn := fun _ => fun
  | [d1, d2] => { results := [.lit (.bool true)], args := [d1, d2] }
  | _ => none }
def fnTreeOrderRow : OpenClaim := { program := "ytilbgbibddjdcaa", sum := "cf6167fec71ac2c9f35ff7ab7a467ef1372eab8615835413fbabb6d7784d3f5a", func := "loop.example/g01079/laws.FnTreeOrder", spec := "fnTreeOrder", unfollowed := true, recurses := true, plainKeys := false, apart := false }
def FnTreeOrderSaid : Prop := fnTreeOrderRow.holds Try.pinned (OpenSpec.ofChange fnTreeOrderSpec)

/-- ITS FALSE NEIGHBOUR: 'it returns false'. Refute it at one input. -/
def fnTreeOrderWrong : ChangeSpec := { name := "fnTreeOrder", fn := fun _ => fun
  | [d1, d2] => { results := [.lit (.bool false)], args := [d1, d2] }
  | _ => none }
def FnTreeOrderWrongFalsely : Prop := fnTreeOrderRow.holds Try.pinned (OpenSpec.ofChange fnTreeOrderWrong)

/-- 'laws.FnExactCodeExpr': WHATEVER THE INPUT: true; the input reads as it did. -/
def fnExactCodeExprSpec : ChangeSpec := { name := "fnExactCodeExpr", fn := fun _ => fun
  | [d] => { results := [.lit (.bool true)], args := [d] }
  | _ => none }
def fnExactCodeExprRow : OpenClaim := { program := "ytilbgbibddjdcaa", sum := "cf6167fec71ac2c9f35ff7ab7a467ef1372eab8615835413fbabb6d7784d3f5a", func := "loop.example/g01079/laws.FnExactCodeExpr", spec := "fnExactCodeExpr", unfollowed := true, recurses := true, plainKeys := false, apart := false }
def FnExactCodeExprSaid : Prop := fnExactCodeExprRow.holds Try.pinned (OpenSpec.ofChange fnExactCodeExprSpec)

/-- ITS FALSE NEIGHBOUR: 'it returns false'. Refute it at one input. -/
def fnExactCodeExprWrong : ChangeSpec := { name := "fnExactCodeExpr", fn := fun _ => fun
  | [d] => { results := [.lit (.bool false)], args := [d] }
  | _ => none }
def FnExactCodeExprWrongFalsely : Prop := fnExactCodeExprRow.holds Try.pinned (OpenSpec.ofChange fnExactCodeExprWrong)

/-- 'laws.FnExactDecodeExpr': WHATEVER THE INPUT: true; the input reads as it did. -/
def fnExactDecodeExprSpec : ChangeSpec := { name := "fnExactDecodeExpr", fn := fun _ => fun
  | [d] => { results := [.lit (.bool true)], args := [d] }
  | _ => none }
def fnExactDecodeExprRow : OpenClaim := { program := "ytilbgbibddjdcaa", sum := "cf6167fec71ac2c9f35ff7ab7a467ef1372eab8615835413fbabb6d7784d3f5a", func := "loop.example/g01079/laws.FnExactDecodeExpr", spec := "fnExactDecodeExpr", unfollowed := true, recurses := true, plainKeys := false, apart := false }
def FnExactDecodeExprSaid : Prop := fnExactDecodeExprRow.holds Try.pinned (OpenSpec.ofChange fnExactDecodeExprSpec)

/-- ITS FALSE NEIGHBOUR: 'it returns false'. Refute it at one input. -/
def fnExactDecodeExprWrong : ChangeSpec := { name := "fnExactDecodeExpr", fn := fun _ => fun
  | [d] => { results := [.lit (.bool false)], args := [d] }
  | _ => none }
def FnExactDecodeExprWrongFalsely : Prop := fnExactDecodeExprRow.holds Try.pinned (OpenSpec.ofChange fnExactDecodeExprWrong)

/-- 'laws.FnExactIsProgramTree': WHATEVER THE INPUT: true; the input reads as it did. -/
def fnExactIsProgramTreeSpec : ChangeSpec := { name := "fnExactIsProgramTree", fn := fun _ => fun
  | [d] => { results := [.lit (.bool true)], args := [d] }
  | _ => none }
def fnExactIsProgramTreeRow : OpenClaim := { program := "ytilbgbibddjdcaa", sum := "cf6167fec71ac2c9f35ff7ab7a467ef1372eab8615835413fbabb6d7784d3f5a", func := "loop.example/g01079/laws.FnExactIsProgramTree", spec := "fnExactIsProgramTree", unfollowed := true, recurses := true, plainKeys := false, apart := false }
def FnExactIsProgramTreeSaid : Prop := fnExactIsProgramTreeRow.holds Try.pinned (OpenSpec.ofChange fnExactIsProgramTreeSpec)

/-- ITS FALSE NEIGHBOUR: 'it returns false'. Refute it at one input. -/
def fnExactIsProgramTreeWrong : ChangeSpec := { name := "fnExactIsProgramTree", fn := fun _ => fun
  | [d] => { results := [.lit (.bool false)], args := [d] }
  | _ => none }
def FnExactIsProgramTreeWrongFalsely : Prop := fnExactIsProgramTreeRow.holds Try.pinned (OpenSpec.ofChange fnExactIsProgramTreeWrong)

/-- 'laws.FnExactIsPackage': WHATEVER THE INPUT: true; the input reads as it did. -/
def fnExactIsPackageSpec : ChangeSpec := { name := "fnExactIsPackage", fn := fun _ => fun
  | [d] => { results := [.lit (.bool true)], args := [d] }
  | _ => none }
def fnExactIsPackageRow : OpenClaim := { program := "ytilbgbibddjdcaa", sum := "cf6167fec71ac2c9f35ff7ab7a467ef1372eab8615835413fbabb6d7784d3f5a", func := "loop.example/g01079/laws.FnExactIsPackage", spec := "fnExactIsPackage", unfollowed := true, recurses := true, plainKeys := false, apart := false }
def FnExactIsPackageSaid : Prop := fnExactIsPackageRow.holds Try.pinned (OpenSpec.ofChange fnExactIsPackageSpec)

/-- ITS FALSE NEIGHBOUR: 'it returns false'. Refute it at one input. -/
def fnExactIsPackageWrong : ChangeSpec := { name := "fnExactIsPackage", fn := fun _ => fun
  | [d] => { results := [.lit (.bool false)], args := [d] }
  | _ => none }
def FnExactIsPackageWrongFalsely : Prop := fnExactIsPackageRow.holds Try.pinned (OpenSpec.ofChange fnExactIsPackageWrong)

/-- 'laws.FnExactCodeWhile': WHATEVER THE INPUT: true; the input reads as it did. -/
def fnExactCodeWhileSpec : ChangeSpec := { name := "fnExactCodeWhile", fn := fun _ => fun
  | [d] => { results := [.lit (.bool true)], args := [d] }
  | _ => none }
def fnExactCodeWhileRow : OpenClaim := { program := "ytilbgbibddjdcaa", sum := "cf6167fec71ac2c9f35ff7ab7a467ef1372eab8615835413fbabb6d7784d3f5a", func := "loop.example/g01079/laws.FnExactCodeWhile", spec := "fnExactCodeWhile", unfollowed := true, recurses := true, plainKeys := false, apart := false }
def FnExactCodeWhileSaid : Prop := fnExactCodeWhileRow.holds Try.pinned (OpenSpec.ofChange fnExactCodeWhileSpec)

/-- ITS FALSE NEIGHBOUR: 'it returns false'. Refute it at one input. -/
def fnExactCodeWhileWrong : ChangeSpec := { name := "fnExactCodeWhile", fn := fun _ => fun
  | [d] => { results := [.lit (.bool false)], args := [d] }
  | _ => none }
def FnExactCodeWhileWrongFalsely : Prop := fnExactCodeWhileRow.holds Try.pinned (OpenSpec.ofChange fnExactCodeWhileWrong)

/-- 'laws.FnExactDecodeWhile': WHATEVER THE INPUT: true; the input reads as it did. -/
def fnExactDecodeWhileSpec : ChangeSpec := { name := "fnExactDecodeWhile", fn := fun _ => fun
  | [d] => { results := [.lit (.bool true)], args := [d] }
  | _ => none }
def fnExactDecodeWhileRow : OpenClaim := { program := "ytilbgbibddjdcaa", sum := "cf6167fec71ac2c9f35ff7ab7a467ef1372eab8615835413fbabb6d7784d3f5a", func := "loop.example/g01079/laws.FnExactDecodeWhile", spec := "fnExactDecodeWhile", unfollowed := true, recurses := true, plainKeys := false, apart := false }
def FnExactDecodeWhileSaid : Prop := fnExactDecodeWhileRow.holds Try.pinned (OpenSpec.ofChange fnExactDecodeWhileSpec)

/-- ITS FALSE NEIGHBOUR: 'it returns false'. Refute it at one input. -/
def fnExactDecodeWhileWrong : ChangeSpec := { name := "fnExactDecodeWhile", fn := fun _ => fun
  | [d] => { results := [.lit (.bool false)], args := [d] }
  | _ => none }
def FnExactDecodeWhileWrongFalsely : Prop := fnExactDecodeWhileRow.holds Try.pinned (OpenSpec.ofChange fnExactDecodeWhileWrong)

/-- 'laws.FnExactUniversalInput': WHATEVER THE INPUT: true; the input reads as it did. -/
def fnExactUniversalInputSpec : ChangeSpec := { name := "fnExactUniversalInput", fn := fun _ => fun
  | [d1, d2] => { results := [.lit (.bool true)], args := [d1, d2] }
  | _ => none }
def fnExactUniversalInputRow : OpenClaim := { program := "ytilbgbibddjdcaa", sum := "cf6167fec71ac2c9f35ff7ab7a467ef1372eab8615835413fbabb6d7784d3f5a", func := "loop.example/g01079/laws.FnExactUniversalInput", spec := "fnExactUniversalInput", unfollowed := true, recurses := true, plainKeys := false, apart := false }
def FnExactUniversalInputSaid : Prop := fnExactUniversalInputRow.holds Try.pinned (OpenSpec.ofChange fnExactUniversalInputSpec)

/-- ITS FALSE NEIGHBOUR: 'it returns false'. Refute it at one input. -/
def fnExactUniversalInputWrong : ChangeSpec := { name := "fnExactUniversalInput", fn := fun _ => fun
  | [d1, d2] => { results := [.lit (.bool false)], args := [d1, d2] }
  | _ => none }
def FnExactUniversalInputWrongFalsely : Prop := fnExactUniversalInputRow.holds Try.pinned (OpenSpec.ofChange fnExactUniversalInputWrong)

/-- 'laws.FnExactMakePackage': WHATEVER THE INPUT: true; the input reads as it did. -/
def fnExactMakePackageSpec : ChangeSpec := { name := "fnExactMakePackage", fn := fun _ => fun
  | [d1, d2] => { results := [.lit (.bool true)], args := [d1, d2] }
  | _ => none }
def fnExactMakePackageRow : OpenClaim := { program := "ytilbgbibddjdcaa", sum := "cf6167fec71ac2c9f35ff7ab7a467ef1372eab8615835413fbabb6d7784d3f5a", func := "loop.example/g01079/laws.FnExactMakePackage", spec := "fnExactMakePackage", unfollowed := true, recurses := true, plainKeys := false, apart := false }
def FnExactMakePackageSaid : Prop := fnExactMakePackageRow.holds Try.pinned (OpenSpec.ofChange fnExactMakePackageSpec)

/-- ITS FALSE NEIGHBOUR: 'it returns false'. Refute it at one input. -/
def fnExactMakePackageWrong : ChangeSpec := { name := "fnExactMakePackage", fn := fun _ => fun
  | [d1, d2] => { results := [.lit (.bool false)], args := [d1, d2] }
  | _ => none }
def FnExactMakePackageWrongFalsely : Prop := fnExactMakePackageRow.holds Try.pinned (OpenSpec.ofChange fnExactMakePackageWrong)

/-- 'laws.FnExactOpenPackage': WHATEVER THE INPUT: true; the input reads as it did. -/
def fnExactOpenPackageSpec : ChangeSpec := { name := "fnExactOpenPackage", fn := fun _ => fun
  | [d] => { results := [.lit (.bool true)], args := [d] }
  | _ => none }
def fnExactOpenPackageRow : OpenClaim := { program := "ytilbgbibddjdcaa", sum := "cf6167fec71ac2c9f35ff7ab7a467ef1372eab8615835413fbabb6d7784d3f5a", func := "loop.example/g01079/laws.FnExactOpenPackage", spec := "fnExactOpenPackage", unfollowed := true, recurses := true, plainKeys := false, apart := false }
def FnExactOpenPackageSaid : Prop := fnExactOpenPackageRow.holds Try.pinned (OpenSpec.ofChange fnExactOpenPackageSpec)

/-- ITS FALSE NEIGHBOUR: 'it returns false'. Refute it at one input. -/
def fnExactOpenPackageWrong : ChangeSpec := { name := "fnExactOpenPackage", fn := fun _ => fun
  | [d] => { results := [.lit (.bool false)], args := [d] }
  | _ => none }
def FnExactOpenPackageWrongFalsely : Prop := fnExactOpenPackageRow.holds Try.pinned (OpenSpec.ofChange fnExactOpenPackageWrong)

/- THE SECOND FORM. 'bulk': how many values and letters a reading holds, each counted each time it is reached (what is shared counts as often as it is met; a slice's spare places count too). A statement '..UptoSaid' is the law's where the arguments, and the package variables that the reading takes, are together of bulk at most 1048576: NARROWER than '..Said'. Prove '..Said' where nothing that the law and all that it calls make is longer than what came in: it says more and counts as full. Else prove '..UptoSaid'. A law counts once. -/
mutual
def uptoBulk {H : Type} : DataW H → Nat
  | .lit (.string bytes) => bytes.length + 1
  | .lit _ => 1
  | .nil => 1
  | .ptr d => uptoBulk d + 1
  | .slice elems spare => uptoBulkAll elems + uptoBulkAll spare + 1
  | .agg parts => uptoBulkAll parts + 1
  | .iface _ d => uptoBulk d + 1
  | .map entries => uptoBulkEntries entries + 1
  | .held _ => 1
def uptoBulkAll {H : Type} : List (DataW H) → Nat
  | [] => 0
  | d :: r => uptoBulk d + uptoBulkAll r
def uptoBulkEntries {H : Type} : List (Lit × DataW H) → Nat
  | [] => 0
  | x :: r => uptoBulkEntry x + uptoBulkEntries r
def uptoBulkEntry {H : Type} : Lit × DataW H → Nat
  | (.string bytes, d) => bytes.length + uptoBulk d + 1
  | (_, d) => uptoBulk d + 1
 end
def uptoSmall : (H : Type) → List (DataW H) → Bool := fun _ ds => decide (uptoBulkAll ds ≤ 1048576)
def OpenSpec.upto (s : _root_.Go.ChangeSpec) : _root_.Go.OpenSpec := { _root_.Go.OpenSpec.ofChange s with cond := some uptoSmall }

/-- 'laws.FnExactRankTree', WHERE WHAT IT READS IS OF BULK AT MOST 1048576: true; the input reads as it did. -/
def fnExactRankTreeUptoRow : OpenClaim := { program := "ytilbgbibddjdcaa", sum := "cf6167fec71ac2c9f35ff7ab7a467ef1372eab8615835413fbabb6d7784d3f5a", func := "loop.example/g01079/laws.FnExactRankTree", spec := "fnExactRankTree", unfollowed := true, recurses := true, plainKeys := false, apart := false, narrowed := true }
def FnExactRankTreeUptoSaid : Prop := fnExactRankTreeUptoRow.holds Try.pinned (OpenSpec.upto fnExactRankTreeSpec)

/-- 'laws.FnTreeOrder', WHERE WHAT IT READS IS OF BULK AT MOST 1048576: true; the input reads as it did. -/
def fnTreeOrderUptoRow : OpenClaim := { program := "ytilbgbibddjdcaa", sum := "cf6167fec71ac2c9f35ff7ab7a467ef1372eab8615835413fbabb6d7784d3f5a", func := "loop.example/g01079/laws.FnTreeOrder", spec := "fnTreeOrder", unfollowed := true, recurses := true, plainKeys := false, apart := false, narrowed := true }
def FnTreeOrderUptoSaid : Prop := fnTreeOrderUptoRow.holds Try.pinned (OpenSpec.upto fnTreeOrderSpec)

/-- 'laws.FnExactCodeExpr', WHERE WHAT IT READS IS OF BULK AT MOST 1048576: true; the input reads as it did. -/
def fnExactCodeExprUptoRow : OpenClaim := { program := "ytilbgbibddjdcaa", sum := "cf6167fec71ac2c9f35ff7ab7a467ef1372eab8615835413fbabb6d7784d3f5a", func := "loop.example/g01079/laws.FnExactCodeExpr", spec := "fnExactCodeExpr", unfollowed := true, recurses := true, plainKeys := false, apart := false, narrowed := true }
def FnExactCodeExprUptoSaid : Prop := fnExactCodeExprUptoRow.holds Try.pinned (OpenSpec.upto fnExactCodeExprSpec)

/-- 'laws.FnExactDecodeExpr', WHERE WHAT IT READS IS OF BULK AT MOST 1048576: true; the input reads as it did. -/
def fnExactDecodeExprUptoRow : OpenClaim := { program := "ytilbgbibddjdcaa", sum := "cf6167fec71ac2c9f35ff7ab7a467ef1372eab8615835413fbabb6d7784d3f5a", func := "loop.example/g01079/laws.FnExactDecodeExpr", spec := "fnExactDecodeExpr", unfollowed := true, recurses := true, plainKeys := false, apart := false, narrowed := true }
def FnExactDecodeExprUptoSaid : Prop := fnExactDecodeExprUptoRow.holds Try.pinned (OpenSpec.upto fnExactDecodeExprSpec)

/-- 'laws.FnExactIsProgramTree', WHERE WHAT IT READS IS OF BULK AT MOST 1048576: true; the input reads as it did. -/
def fnExactIsProgramTreeUptoRow : OpenClaim := { program := "ytilbgbibddjdcaa", sum := "cf6167fec71ac2c9f35ff7ab7a467ef1372eab8615835413fbabb6d7784d3f5a", func := "loop.example/g01079/laws.FnExactIsProgramTree", spec := "fnExactIsProgramTree", unfollowed := true, recurses := true, plainKeys := false, apart := false, narrowed := true }
def FnExactIsProgramTreeUptoSaid : Prop := fnExactIsProgramTreeUptoRow.holds Try.pinned (OpenSpec.upto fnExactIsProgramTreeSpec)

/-- 'laws.FnExactIsPackage', WHERE WHAT IT READS IS OF BULK AT MOST 1048576: true; the input reads as it did. -/
def fnExactIsPackageUptoRow : OpenClaim := { program := "ytilbgbibddjdcaa", sum := "cf6167fec71ac2c9f35ff7ab7a467ef1372eab8615835413fbabb6d7784d3f5a", func := "loop.example/g01079/laws.FnExactIsPackage", spec := "fnExactIsPackage", unfollowed := true, recurses := true, plainKeys := false, apart := false, narrowed := true }
def FnExactIsPackageUptoSaid : Prop := fnExactIsPackageUptoRow.holds Try.pinned (OpenSpec.upto fnExactIsPackageSpec)

/-- 'laws.FnExactCodeWhile', WHERE WHAT IT READS IS OF BULK AT MOST 1048576: true; the input reads as it did. -/
def fnExactCodeWhileUptoRow : OpenClaim := { program := "ytilbgbibddjdcaa", sum := "cf6167fec71ac2c9f35ff7ab7a467ef1372eab8615835413fbabb6d7784d3f5a", func := "loop.example/g01079/laws.FnExactCodeWhile", spec := "fnExactCodeWhile", unfollowed := true, recurses := true, plainKeys := false, apart := false, narrowed := true }
def FnExactCodeWhileUptoSaid : Prop := fnExactCodeWhileUptoRow.holds Try.pinned (OpenSpec.upto fnExactCodeWhileSpec)

/-- 'laws.FnExactDecodeWhile', WHERE WHAT IT READS IS OF BULK AT MOST 1048576: true; the input reads as it did. -/
def fnExactDecodeWhileUptoRow : OpenClaim := { program := "ytilbgbibddjdcaa", sum := "cf6167fec71ac2c9f35ff7ab7a467ef1372eab8615835413fbabb6d7784d3f5a", func := "loop.example/g01079/laws.FnExactDecodeWhile", spec := "fnExactDecodeWhile", unfollowed := true, recurses := true, plainKeys := false, apart := false, narrowed := true }
def FnExactDecodeWhileUptoSaid : Prop := fnExactDecodeWhileUptoRow.holds Try.pinned (OpenSpec.upto fnExactDecodeWhileSpec)

/-- 'laws.FnExactUniversalInput', WHERE WHAT IT READS IS OF BULK AT MOST 1048576: true; the input reads as it did. -/
def fnExactUniversalInputUptoRow : OpenClaim := { program := "ytilbgbibddjdcaa", sum := "cf6167fec71ac2c9f35ff7ab7a467ef1372eab8615835413fbabb6d7784d3f5a", func := "loop.example/g01079/laws.FnExactUniversalInput", spec := "fnExactUniversalInput", unfollowed := true, recurses := true, plainKeys := false, apart := false, narrowed := true }
def FnExactUniversalInputUptoSaid : Prop := fnExactUniversalInputUptoRow.holds Try.pinned (OpenSpec.upto fnExactUniversalInputSpec)

/-- 'laws.FnExactMakePackage', WHERE WHAT IT READS IS OF BULK AT MOST 1048576: true; the input reads as it did. -/
def fnExactMakePackageUptoRow : OpenClaim := { program := "ytilbgbibddjdcaa", sum := "cf6167fec71ac2c9f35ff7ab7a467ef1372eab8615835413fbabb6d7784d3f5a", func := "loop.example/g01079/laws.FnExactMakePackage", spec := "fnExactMakePackage", unfollowed := true, recurses := true, plainKeys := false, apart := false, narrowed := true }
def FnExactMakePackageUptoSaid : Prop := fnExactMakePackageUptoRow.holds Try.pinned (OpenSpec.upto fnExactMakePackageSpec)

/-- 'laws.FnExactOpenPackage', WHERE WHAT IT READS IS OF BULK AT MOST 1048576: true; the input reads as it did. -/
def fnExactOpenPackageUptoRow : OpenClaim := { program := "ytilbgbibddjdcaa", sum := "cf6167fec71ac2c9f35ff7ab7a467ef1372eab8615835413fbabb6d7784d3f5a", func := "loop.example/g01079/laws.FnExactOpenPackage", spec := "fnExactOpenPackage", unfollowed := true, recurses := true, plainKeys := false, apart := false, narrowed := true }
def FnExactOpenPackageUptoSaid : Prop := fnExactOpenPackageUptoRow.holds Try.pinned (OpenSpec.upto fnExactOpenPackageSpec)

end Rows
end Go.Proofs.Ytilbgbibddjdcaa
