/-
  DERIVED. GIVEN WITH THE SEED: THE CARDS: each row of YtaadobggenbbdaaGreatDoorRows.lean that lists a variable, with what it lists TIED to the program's text (the seventh form; the later family's looks); each row that meets fmt, with fmt's text TOLD by the authors' own Lean function (tested against real Go, not proved from fmt's source: count such statements apart). THE CARD IS WHAT COUNTS. Prove the row's statement (the work); the ties are given (YtaadobggenbbdaaGreatDoorTie.lean); close each card by the builder's one call (the guide's Derived/Test/ToyasCard.lean, 'card_holds'). Laid BY PROGRAM, IN A SANDBOX (cutbox-door.mjs). By AI agents, Wed Nov 11 2026. No macro, syntax, notation, axiom, sorry.
-/
import Derived.Test.YtaadobggenbbdaaGreatDoorRows
import GoSem.ClaimSeven
namespace Go.Proofs.YtaadobggenbbdaaGreatDoor
namespace Rows

/-- THE TIED CARD OF 'laws.FnExactQuinePackage'. -/
def fnExactQuinePackageCard : Claim7 := { stood := { row := fnExactQuinePackageRow, standIns := [], harness := (true, "93dd7ec8dc47f4326cdb8c4972346a5c0c5ce4d0e4580a2be8782a84d496153d"), looks := false }, kinds := [], alts := [], laidByText := true, laidKinds := [.data, .data, .data], laidTests := true, laidLooks := .later }
def FnExactQuinePackageCardSaid : Prop := Claim7.holds Tryz.pinned (.plain (OpenSpec.ofChange fnExactQuinePackageSpec)) fnExactQuinePackageCard

/-- THE TIED CARD OF 'laws.FnExactPlainPackage'. -/
def fnExactPlainPackageCard : Claim7 := { stood := { row := fnExactPlainPackageRow, standIns := [], harness := (true, "93dd7ec8dc47f4326cdb8c4972346a5c0c5ce4d0e4580a2be8782a84d496153d"), looks := false }, kinds := [], alts := [], laidByText := true, laidKinds := [.data, .data, .data], laidTests := true, laidLooks := .later }
def FnExactPlainPackageCardSaid : Prop := Claim7.holds Tryz.pinned (.plain (OpenSpec.ofChange fnExactPlainPackageSpec)) fnExactPlainPackageCard

/-- THE TIED CARD OF 'laws.FnExactFixPackage'. -/
def fnExactFixPackageCard : Claim7 := { stood := { row := fnExactFixPackageRow, standIns := [], harness := (true, "93dd7ec8dc47f4326cdb8c4972346a5c0c5ce4d0e4580a2be8782a84d496153d"), looks := false }, kinds := [], alts := [], laidByText := true, laidKinds := [.data, .data, .data], laidTests := true, laidLooks := .later }
def FnExactFixPackageCardSaid : Prop := Claim7.holds Tryz.pinned (.plain (OpenSpec.ofChange fnExactFixPackageSpec)) fnExactFixPackageCard

/-- THE TIED CARD OF 'laws.FnExactMutualPackages'. -/
def fnExactMutualPackagesCard : Claim7 := { stood := { row := fnExactMutualPackagesRow, standIns := [], harness := (true, "93dd7ec8dc47f4326cdb8c4972346a5c0c5ce4d0e4580a2be8782a84d496153d"), looks := false }, kinds := [], alts := [], laidByText := true, laidKinds := [.data, .data, .data], laidTests := true, laidLooks := .later }
def FnExactMutualPackagesCardSaid : Prop := Claim7.holds Tryz.pinned (.plain (OpenSpec.ofChange fnExactMutualPackagesSpec)) fnExactMutualPackagesCard

/-- THE TIED CARD OF 'laws.FnExactSpecializePackage'. -/
def fnExactSpecializePackageCard : Claim7 := { stood := { row := fnExactSpecializePackageRow, standIns := [], harness := (true, "93dd7ec8dc47f4326cdb8c4972346a5c0c5ce4d0e4580a2be8782a84d496153d"), looks := false }, kinds := [], alts := [], laidByText := true, laidKinds := [.data, .data, .data], laidTests := true, laidLooks := .later }
def FnExactSpecializePackageCardSaid : Prop := Claim7.holds Tryz.pinned (.plain (OpenSpec.ofChange fnExactSpecializePackageSpec)) fnExactSpecializePackageCard

/-- THE TIED CARD OF 'laws.FnExactPadPackage'. -/
def fnExactPadPackageCard : Claim7 := { stood := { row := fnExactPadPackageRow, standIns := [], harness := (true, "93dd7ec8dc47f4326cdb8c4972346a5c0c5ce4d0e4580a2be8782a84d496153d"), looks := false }, kinds := [], alts := [], laidByText := true, laidKinds := [.data, .data, .data], laidTests := true, laidLooks := .later }
def FnExactPadPackageCardSaid : Prop := Claim7.holds Tryz.pinned (.plain (OpenSpec.ofChange fnExactPadPackageSpec)) fnExactPadPackageCard

/-- THE SECOND FORM's CARD OF 'laws.FnExactQuinePackage'. -/
def fnExactQuinePackageUptoCard : Claim7 := { stood := { row := fnExactQuinePackageUptoRow, standIns := [], harness := (true, "93dd7ec8dc47f4326cdb8c4972346a5c0c5ce4d0e4580a2be8782a84d496153d"), looks := false }, kinds := [], alts := [], laidByText := true, laidKinds := [.data, .data, .data], laidTests := true, laidLooks := .later }
def FnExactQuinePackageUptoCardSaid : Prop := Claim7.holds Tryz.pinned (.plain (OpenSpec.upto fnExactQuinePackageSpec)) fnExactQuinePackageUptoCard

/-- THE SECOND FORM's CARD OF 'laws.FnExactPlainPackage'. -/
def fnExactPlainPackageUptoCard : Claim7 := { stood := { row := fnExactPlainPackageUptoRow, standIns := [], harness := (true, "93dd7ec8dc47f4326cdb8c4972346a5c0c5ce4d0e4580a2be8782a84d496153d"), looks := false }, kinds := [], alts := [], laidByText := true, laidKinds := [.data, .data, .data], laidTests := true, laidLooks := .later }
def FnExactPlainPackageUptoCardSaid : Prop := Claim7.holds Tryz.pinned (.plain (OpenSpec.upto fnExactPlainPackageSpec)) fnExactPlainPackageUptoCard

/-- THE SECOND FORM's CARD OF 'laws.FnExactFixPackage'. -/
def fnExactFixPackageUptoCard : Claim7 := { stood := { row := fnExactFixPackageUptoRow, standIns := [], harness := (true, "93dd7ec8dc47f4326cdb8c4972346a5c0c5ce4d0e4580a2be8782a84d496153d"), looks := false }, kinds := [], alts := [], laidByText := true, laidKinds := [.data, .data, .data], laidTests := true, laidLooks := .later }
def FnExactFixPackageUptoCardSaid : Prop := Claim7.holds Tryz.pinned (.plain (OpenSpec.upto fnExactFixPackageSpec)) fnExactFixPackageUptoCard

/-- THE SECOND FORM's CARD OF 'laws.FnExactMutualPackages'. -/
def fnExactMutualPackagesUptoCard : Claim7 := { stood := { row := fnExactMutualPackagesUptoRow, standIns := [], harness := (true, "93dd7ec8dc47f4326cdb8c4972346a5c0c5ce4d0e4580a2be8782a84d496153d"), looks := false }, kinds := [], alts := [], laidByText := true, laidKinds := [.data, .data, .data], laidTests := true, laidLooks := .later }
def FnExactMutualPackagesUptoCardSaid : Prop := Claim7.holds Tryz.pinned (.plain (OpenSpec.upto fnExactMutualPackagesSpec)) fnExactMutualPackagesUptoCard

/-- THE SECOND FORM's CARD OF 'laws.FnExactSpecializePackage'. -/
def fnExactSpecializePackageUptoCard : Claim7 := { stood := { row := fnExactSpecializePackageUptoRow, standIns := [], harness := (true, "93dd7ec8dc47f4326cdb8c4972346a5c0c5ce4d0e4580a2be8782a84d496153d"), looks := false }, kinds := [], alts := [], laidByText := true, laidKinds := [.data, .data, .data], laidTests := true, laidLooks := .later }
def FnExactSpecializePackageUptoCardSaid : Prop := Claim7.holds Tryz.pinned (.plain (OpenSpec.upto fnExactSpecializePackageSpec)) fnExactSpecializePackageUptoCard

/-- THE SECOND FORM's CARD OF 'laws.FnExactPadPackage'. -/
def fnExactPadPackageUptoCard : Claim7 := { stood := { row := fnExactPadPackageUptoRow, standIns := [], harness := (true, "93dd7ec8dc47f4326cdb8c4972346a5c0c5ce4d0e4580a2be8782a84d496153d"), looks := false }, kinds := [], alts := [], laidByText := true, laidKinds := [.data, .data, .data], laidTests := true, laidLooks := .later }
def FnExactPadPackageUptoCardSaid : Prop := Claim7.holds Tryz.pinned (.plain (OpenSpec.upto fnExactPadPackageSpec)) fnExactPadPackageUptoCard
end Rows
end Go.Proofs.YtaadobggenbbdaaGreatDoor
