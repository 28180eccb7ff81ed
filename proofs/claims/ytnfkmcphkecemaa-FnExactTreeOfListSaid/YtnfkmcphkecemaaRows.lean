/-
  No cell of these rows narrows 'for every input' (looked for: loops, veiled, ifaces, maps, wideKeys, modest, calm, conditions, laid).
  DERIVED. THE GIVEN ROWS OF THIS SEAT. 5 by the template 'for every input the law returns true; each argument reads behind the call as it read before'; 0 by the template 'total and deterministic' (their statements: YtnfkmcphkecemaaTotals.lean).
  GIVEN WITH THE SEED: the statements are not yours to turn. If you find one false, say at which input.
  Laid BY PROGRAM, IN A SANDBOX (cutbox-rows.mjs): the forced cells as the released guide's own fill.sh prints them over the translation 6c57ef766eba54a1… (all of the seat's roots in one cut). By AI agents, Wed Nov 11 2026. No macro, syntax, notation, axiom, sorry.
-/
import Derived.Test.YtnfkmcphkecemaaChecked
import GoSem.Claim
import GoSem.ClaimJoined
import GoSem.ClaimMapViews
import Derived.JoinedTies
import Derived.KernelRfl
namespace Go.Proofs.Ytnfkmcphkecemaa
/- THE CELL 'sum', in the pinned program and in every row, IS THE sha256 OF THE DUMP (.gsa) THAT YtnfkmcphkecemaaProg.lean LOADS. Nothing in Lean hashes anything: it is a label: what it is worth is what the hold of that sum in a sandbox is worth. -/
noncomputable def Try.pinned : Pinned := { name := "ytnfkmcphkecemaa", sum := "6c57ef766eba54a15ea8c8aee8846727b79f5786772d97531a4e03a07595395f", checked := Try.checked }
namespace Rows
def none {H : Type} : Left H := { results := [], args := [] }

/-- 'laws.FnExactRankTree': WHATEVER THE INPUT: true; the input reads as it did. -/
def fnExactRankTreeSpec : ChangeSpec := { name := "fnExactRankTree", fn := fun _ => fun
  | [d] => { results := [.lit (.bool true)], args := [d] }
  | _ => none }
def fnExactRankTreeRow : OpenClaim := { program := "ytnfkmcphkecemaa", sum := "6c57ef766eba54a15ea8c8aee8846727b79f5786772d97531a4e03a07595395f", func := "loop.example/g01079/laws.FnExactRankTree", spec := "fnExactRankTree", unfollowed := true, recurses := true, plainKeys := false, apart := false }
def FnExactRankTreeSaid : Prop := fnExactRankTreeRow.holds Try.pinned (OpenSpec.ofChange fnExactRankTreeSpec)

/-- ITS FALSE NEIGHBOUR: 'it returns false'. Refute it at one input. -/
def fnExactRankTreeWrong : ChangeSpec := { name := "fnExactRankTree", fn := fun _ => fun
  | [d] => { results := [.lit (.bool false)], args := [d] }
  | _ => none }
def FnExactRankTreeWrongFalsely : Prop := fnExactRankTreeRow.holds Try.pinned (OpenSpec.ofChange fnExactRankTreeWrong)

/-- 'laws.FnExactMirrorTree': WHATEVER THE INPUT: true; the input reads as it did. -/
def fnExactMirrorTreeSpec : ChangeSpec := { name := "fnExactMirrorTree", fn := fun _ => fun
  | [d] => { results := [.lit (.bool true)], args := [d] }
  | _ => none }
def fnExactMirrorTreeRow : OpenClaim := { program := "ytnfkmcphkecemaa", sum := "6c57ef766eba54a15ea8c8aee8846727b79f5786772d97531a4e03a07595395f", func := "loop.example/g01079/laws.FnExactMirrorTree", spec := "fnExactMirrorTree", unfollowed := true, recurses := true, plainKeys := false, apart := false }
def FnExactMirrorTreeSaid : Prop := fnExactMirrorTreeRow.holds Try.pinned (OpenSpec.ofChange fnExactMirrorTreeSpec)

/-- ITS FALSE NEIGHBOUR: 'it returns false'. Refute it at one input. -/
def fnExactMirrorTreeWrong : ChangeSpec := { name := "fnExactMirrorTree", fn := fun _ => fun
  | [d] => { results := [.lit (.bool false)], args := [d] }
  | _ => none }
def FnExactMirrorTreeWrongFalsely : Prop := fnExactMirrorTreeRow.holds Try.pinned (OpenSpec.ofChange fnExactMirrorTreeWrong)

/-- 'laws.FnExactTreeOfList': WHATEVER THE INPUT: true; the input reads as it did. -/
def fnExactTreeOfListSpec : ChangeSpec := { name := "fnExactTreeOfList", fn := fun _ => fun
  | [d] => { results := [.lit (.bool true)], args := [d] }
  | _ => none }
def fnExactTreeOfListRow : OpenClaim := { program := "ytnfkmcphkecemaa", sum := "6c57ef766eba54a15ea8c8aee8846727b79f5786772d97531a4e03a07595395f", func := "loop.example/g01079/laws.FnExactTreeOfList", spec := "fnExactTreeOfList", unfollowed := true, recurses := true, plainKeys := false, apart := false }
def FnExactTreeOfListSaid : Prop := fnExactTreeOfListRow.holds Try.pinned (OpenSpec.ofChange fnExactTreeOfListSpec)

/-- ITS FALSE NEIGHBOUR: 'it returns false'. Refute it at one input. -/
def fnExactTreeOfListWrong : ChangeSpec := { name := "fnExactTreeOfList", fn := fun _ => fun
  | [d] => { results := [.lit (.bool false)], args := [d] }
  | _ => none }
def FnExactTreeOfListWrongFalsely : Prop := fnExactTreeOfListRow.holds Try.pinned (OpenSpec.ofChange fnExactTreeOfListWrong)

/-- 'laws.FnTreeOrder': WHATEVER THE INPUT: true; the input reads as it did. -/
def fnTreeOrderSpec : ChangeSpec := { name := "fnTreeOrder", fn := fun _ => fun
  | [d1, d2] => { results := [.lit (.bool true)], args := [d1, d2] }
  | _ => none }
def fnTreeOrderRow : OpenClaim := { program := "ytnfkmcphkecemaa", sum := "6c57ef766eba54a15ea8c8aee8846727b79f5786772d97531a4e03a07595395f", func := "loop.example/g01079/laws.FnTreeOrder", spec := "fnTreeOrder", unfollowed := true, recurses := true, plainKeys := false, apart := false }
def FnTreeOrderSaid : Prop := fnTreeOrderRow.holds Try.pinned (OpenSpec.ofChange fnTreeOrderSpec)

/-- ITS FALSE NEIGHBOUR: 'it returns false'. Refute it at one input. -/
def fnTreeOrderWrong : ChangeSpec := { name := "fnTreeOrder", fn := fun _ => fun
  | [d1, d2] => { results := [.lit (.bool false)], args := [d1, d2] }
  | _ => none }
def FnTreeOrderWrongFalsely : Prop := fnTreeOrderRow.holds Try.pinned (OpenSpec.ofChange fnTreeOrderWrong)

/-- 'laws.FnExactReplacePart': WHATEVER THE INPUT: true; the input reads as it did. -/
def fnExactReplacePartSpec : ChangeSpec := { name := "fnExactReplacePart", fn := fun _ => fun
  | [d1, d2, d3] => { results := [.lit (.bool true)], args := [d1, d2, d3] }
  | _ => none }
def fnExactReplacePartRow : OpenClaim := { program := "ytnfkmcphkecemaa", sum := "6c57ef766eba54a15ea8c8aee8846727b79f5786772d97531a4e03a07595395f", func := "loop.example/g01079/laws.FnExactReplacePart", spec := "fnExactReplacePart", unfollowed := true, recurses := true, plainKeys := false, apart := false }
def FnExactReplacePartSaid : Prop := fnExactReplacePartRow.holds Try.pinned (OpenSpec.ofChange fnExactReplacePartSpec)

/-- ITS FALSE NEIGHBOUR: 'it returns false'. Refute it at one input. -/
def fnExactReplacePartWrong : ChangeSpec := { name := "fnExactReplacePart", fn := fun _ => fun
  | [d1, d2, d3] => { results := [.lit (.bool false)], args := [d1, d2, d3] }
  | _ => none }
def FnExactReplacePartWrongFalsely : Prop := fnExactReplacePartRow.holds Try.pinned (OpenSpec.ofChange fnExactReplacePartWrong)

/- THE SECOND FORM. 'bulk': how many values and letters a reading holds, each counted each time it is reached (what is shared counts as often as it is met; a slice's spare places count too). A statement '..UptoSaid' is the law's where the arguments, and the package variables that the reading takes, are together of bulk at most 1048576: NARROWER than '..Said'. Prove '..Said' where nothing that the law and all that it calls make is longer than what came in: it says more and counts as full. Else prove '..UptoSaid'. A law counts once. -/
mutual
def uptoBulk {H : Type} : DataW H → Nat
  | .lit (.string bytes) => bytes.length + 1
  | .lit _ => 1
  | .nil => 1
  | .ptr d => uptoBulk d + 1
  | .slice elems spare => uptoBulkAll elems + uptoBulkAll spare + 1
  | .agg parts => uptoBulkAll parts + 1
  | .iface _ d => uptoBulk d + 1
  | .map entries => uptoBulkEntries entries + 1
  | .held _ => 1
def uptoBulkAll {H : Type} : List (DataW H) → Nat
  | [] => 0
  | d :: r => uptoBulk d + uptoBulkAll r
def uptoBulkEntries {H : Type} : List (Lit × DataW H) → Nat
  | [] => 0
  | x :: r => uptoBulkEntry x + uptoBulkEntries r
def uptoBulkEntry {H : Type} : Lit × DataW H → Nat
  | (.string bytes, d) => bytes.length + uptoBulk d + 1
  | (_, d) => uptoBulk d + 1
 end
def uptoSmall : (H : Type) → List (DataW H) → Bool := fun _ ds => decide (uptoBulkAll ds ≤ 1048576)
def OpenSpec.upto (s : _root_.Go.ChangeSpec) : _root_.Go.OpenSpec := { _root_.Go.OpenSpec.ofChange s with cond := some uptoSmall }

/-- 'laws.FnExactRankTree', WHERE WHAT IT READS IS OF BULK AT MOST 1048576: true; the input reads as it did. -/
def fnExactRankTreeUptoRow : OpenClaim := { program := "ytnfkmcphkecemaa", sum := "6c57ef766eba54a15ea8c8aee8846727b79f5786772d97531a4e03a07595395f", func := "loop.example/g01079/laws.FnExactRankTree", spec := "fnExactRankTree", unfollowed := true, recurses := true, plainKeys := false, apart := false, narrowed := true }
def FnExactRankTreeUptoSaid : Prop := fnExactRankTreeUptoRow.holds Try.pinned (OpenSpec.upto fnExactRankTreeSpec)

/-- 'laws.FnExactMirrorTree', WHERE WHAT IT READS IS OF BULK AT MOST 1048576: true; the input reads as it did. -/
def fnExactMirrorTreeUptoRow : OpenClaim := { program := "ytnfkmcphkecemaa", sum := "6c57ef766eba54a15ea8c8aee8846727b79f5786772d97531a4e03a07595395f", func := "loop.example/g01079/laws.FnExactMirrorTree", spec := "fnExactMirrorTree", unfollowed := true, recurses := true, plainKeys := false, apart := false, narrowed := true }
def FnExactMirrorTreeUptoSaid : Prop := fnExactMirrorTreeUptoRow.holds Try.pinned (OpenSpec.upto fnExactMirrorTreeSpec)

/-- 'laws.FnExactTreeOfList', WHERE WHAT IT READS IS OF BULK AT MOST 1048576: true; the input reads as it did. -/
def fnExactTreeOfListUptoRow : OpenClaim := { program := "ytnfkmcphkecemaa", sum := "6c57ef766eba54a15ea8c8aee8846727b79f5786772d97531a4e03a07595395f", func := "loop.example/g01079/laws.FnExactTreeOfList", spec := "fnExactTreeOfList", unfollowed := true, recurses := true, plainKeys := false, apart := false, narrowed := true }
def FnExactTreeOfListUptoSaid : Prop := fnExactTreeOfListUptoRow.holds Try.pinned (OpenSpec.upto fnExactTreeOfListSpec)

/-- 'laws.FnTreeOrder', WHERE WHAT IT READS IS OF BULK AT MOST 1048576: true; the input reads as it did. -/
def fnTreeOrderUptoRow : OpenClaim := { program := "ytnfkmcphkecemaa", sum := "6c57ef766eba54a15ea8c8aee8846727b79f5786772d97531a4e03a07595395f", func := "loop.example/g01079/laws.FnTreeOrder", spec := "fnTreeOrder", unfollowed := true, recurses := true, plainKeys := false, apart := false, narrowed := true }
def FnTreeOrderUptoSaid : Prop := fnTreeOrderUptoRow.holds Try.pinned (OpenSpec.upto fnTreeOrderSpec)

/-- 'laws.FnExactReplacePart', WHERE WHAT IT READS IS OF BULK AT MOST 1048576: true; the input reads as it did. -/
def fnExactReplacePartUptoRow : OpenClaim := { program := "ytnfkmcphkecemaa", sum := "6c57ef766eba54a15ea8c8aee8846727b79f5786772d97531a4e03a07595395f", func := "loop.example/g01079/laws.FnExactReplacePart", spec := "fnExactReplacePart", unfollowed := true, recurses := true, plainKeys := false, apart := false, narrowed := true }
def FnExactReplacePartUptoSaid : Prop := fnExactReplacePartUptoRow.holds Try.pinned (OpenSpec.upto fnExactReplacePartSpec)

end Rows
end Go.Proofs.Ytnfkmcphkecemaa
