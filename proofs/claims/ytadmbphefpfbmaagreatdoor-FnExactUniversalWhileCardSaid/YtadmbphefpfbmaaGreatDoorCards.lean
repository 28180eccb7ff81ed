/-
  DERIVED. GIVEN WITH THE SEED: THE CARDS: each row of YtadmbphefpfbmaaGreatDoorRows.lean that lists a variable, with what it lists TIED to the program's text (the seventh form; the later family's looks); each row that meets fmt, with fmt's text TOLD by the authors' own Lean function (tested against real Go, not proved from fmt's source: count such statements apart). THE CARD IS WHAT COUNTS. Prove the row's statement (the work); the ties are given (YtadmbphefpfbmaaGreatDoorTie.lean); close each card by the builder's one call (the guide's Derived/Test/ToyasCard.lean, 'card_holds'). Laid BY PROGRAM, IN A SANDBOX (cutbox-door.mjs). By AI agents, Wed Nov 11 2026. No macro, syntax, notation, axiom, sorry.
-/
import Derived.Test.YtadmbphefpfbmaaGreatDoorRows
import GoSem.ClaimSeven
namespace Go.Proofs.YtadmbphefpfbmaaGreatDoor
namespace Rows

/-- THE TIED CARD OF 'laws.FnExactComposePackages'. -/
def fnExactComposePackagesCard : Claim7 := { stood := { row := fnExactComposePackagesRow, standIns := [], harness := (true, "db82992b9de3f615a0c5319d66fa4867d75873442c3fd06659515c68f0ce1fff"), looks := true }, kinds := [], alts := [], laidByText := true, laidKinds := [.data, .data, .data], laidTests := true, laidLooks := .later }
def FnExactComposePackagesCardSaid : Prop := Claim7.holds Tryz.pinned (.plain (OpenSpec.ofChange fnExactComposePackagesSpec)) fnExactComposePackagesCard

/-- THE TIED CARD OF 'laws.FnExactPairPackages'. -/
def fnExactPairPackagesCard : Claim7 := { stood := { row := fnExactPairPackagesRow, standIns := [], harness := (true, "db82992b9de3f615a0c5319d66fa4867d75873442c3fd06659515c68f0ce1fff"), looks := true }, kinds := [], alts := [], laidByText := true, laidKinds := [.data, .data, .data], laidTests := true, laidLooks := .later }
def FnExactPairPackagesCardSaid : Prop := Claim7.holds Tryz.pinned (.plain (OpenSpec.ofChange fnExactPairPackagesSpec)) fnExactPairPackagesCard

/-- THE TIED CARD OF 'laws.FnExactUniversalWhile'. -/
def fnExactUniversalWhileCard : Claim7 := { stood := { row := fnExactUniversalWhileRow, standIns := [], harness := (true, "db82992b9de3f615a0c5319d66fa4867d75873442c3fd06659515c68f0ce1fff"), looks := true }, kinds := [], alts := [], laidByText := true, laidKinds := [.data, .data, .data], laidTests := true, laidLooks := .later }
def FnExactUniversalWhileCardSaid : Prop := Claim7.holds Tryz.pinned (.plain (OpenSpec.ofChange fnExactUniversalWhileSpec)) fnExactUniversalWhileCard

/-- THE TIED CARD OF 'laws.FnExactPadPackage'. -/
def fnExactPadPackageCard : Claim7 := { stood := { row := fnExactPadPackageRow, standIns := [], harness := (true, "db82992b9de3f615a0c5319d66fa4867d75873442c3fd06659515c68f0ce1fff"), looks := true }, kinds := [], alts := [], laidByText := true, laidKinds := [.data, .data, .data], laidTests := true, laidLooks := .later }
def FnExactPadPackageCardSaid : Prop := Claim7.holds Tryz.pinned (.plain (OpenSpec.ofChange fnExactPadPackageSpec)) fnExactPadPackageCard

/-- THE SECOND FORM's CARD OF 'laws.FnExactComposePackages'. -/
def fnExactComposePackagesUptoCard : Claim7 := { stood := { row := fnExactComposePackagesUptoRow, standIns := [], harness := (true, "db82992b9de3f615a0c5319d66fa4867d75873442c3fd06659515c68f0ce1fff"), looks := true }, kinds := [], alts := [], laidByText := true, laidKinds := [.data, .data, .data], laidTests := true, laidLooks := .later }
def FnExactComposePackagesUptoCardSaid : Prop := Claim7.holds Tryz.pinned (.plain (OpenSpec.upto fnExactComposePackagesSpec)) fnExactComposePackagesUptoCard

/-- THE SECOND FORM's CARD OF 'laws.FnExactPairPackages'. -/
def fnExactPairPackagesUptoCard : Claim7 := { stood := { row := fnExactPairPackagesUptoRow, standIns := [], harness := (true, "db82992b9de3f615a0c5319d66fa4867d75873442c3fd06659515c68f0ce1fff"), looks := true }, kinds := [], alts := [], laidByText := true, laidKinds := [.data, .data, .data], laidTests := true, laidLooks := .later }
def FnExactPairPackagesUptoCardSaid : Prop := Claim7.holds Tryz.pinned (.plain (OpenSpec.upto fnExactPairPackagesSpec)) fnExactPairPackagesUptoCard

/-- THE SECOND FORM's CARD OF 'laws.FnExactUniversalWhile'. -/
def fnExactUniversalWhileUptoCard : Claim7 := { stood := { row := fnExactUniversalWhileUptoRow, standIns := [], harness := (true, "db82992b9de3f615a0c5319d66fa4867d75873442c3fd06659515c68f0ce1fff"), looks := true }, kinds := [], alts := [], laidByText := true, laidKinds := [.data, .data, .data], laidTests := true, laidLooks := .later }
def FnExactUniversalWhileUptoCardSaid : Prop := Claim7.holds Tryz.pinned (.plain (OpenSpec.upto fnExactUniversalWhileSpec)) fnExactUniversalWhileUptoCard

/-- THE SECOND FORM's CARD OF 'laws.FnExactPadPackage'. -/
def fnExactPadPackageUptoCard : Claim7 := { stood := { row := fnExactPadPackageUptoRow, standIns := [], harness := (true, "db82992b9de3f615a0c5319d66fa4867d75873442c3fd06659515c68f0ce1fff"), looks := true }, kinds := [], alts := [], laidByText := true, laidKinds := [.data, .data, .data], laidTests := true, laidLooks := .later }
def FnExactPadPackageUptoCardSaid : Prop := Claim7.holds Tryz.pinned (.plain (OpenSpec.upto fnExactPadPackageSpec)) fnExactPadPackageUptoCard
end Rows
end Go.Proofs.YtadmbphefpfbmaaGreatDoor
