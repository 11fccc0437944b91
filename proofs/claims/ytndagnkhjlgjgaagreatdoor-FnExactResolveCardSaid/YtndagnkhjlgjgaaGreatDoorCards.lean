/-
  DERIVED. GIVEN WITH THE SEED: THE CARDS: each row of YtndagnkhjlgjgaaGreatDoorRows.lean that lists a variable, with what it lists TIED to the program's text (the seventh form; the later family's looks); each row that meets fmt, with fmt's text TOLD by the authors' own Lean function (tested against real Go, not proved from fmt's source: count such statements apart). THE CARD IS WHAT COUNTS. Prove the row's statement (the work); the ties are given (YtndagnkhjlgjgaaGreatDoorTie.lean); close each card by the builder's one call (the guide's Derived/Test/ToyasCard.lean, 'card_holds'). Laid BY PROGRAM, IN A SANDBOX (cutbox-door.mjs). By AI agents, Wed Nov 11 2026. No macro, syntax, notation, axiom, sorry.
-/
import Derived.Test.YtndagnkhjlgjgaaGreatDoorRows
import GoSem.ClaimSeven
namespace Go.Proofs.YtndagnkhjlgjgaaGreatDoor
namespace Rows

/-- THE TIED CARD OF 'laws.FnExactResolve'. -/
def fnExactResolveCard : Claim7 := { stood := { row := fnExactResolveRow, standIns := [], harness := (true, "00c13aba23106b0ca927a51365c764b65ae74e90c42c055d553493005ebb2b0b"), looks := true }, kinds := [], alts := [], laidByText := true, laidKinds := [.data, .data, .data, .data, .sentinel, .sentinel, .pinned], laidTests := true, laidLooks := .later }
def FnExactResolveCardSaid : Prop := Claim7.holds Tryz.pinned (.plain (OpenSpec.ofChange fnExactResolveSpec)) fnExactResolveCard

/-- THE TIED CARD OF 'laws.FnExactPlaces'. -/
def fnExactPlacesCard : Claim7 := { stood := { row := fnExactPlacesRow, standIns := [], harness := (true, "00c13aba23106b0ca927a51365c764b65ae74e90c42c055d553493005ebb2b0b"), looks := true }, kinds := [], alts := [], laidByText := true, laidKinds := [.data, .data, .data, .data, .sentinel, .sentinel, .pinned], laidTests := true, laidLooks := .later }
def FnExactPlacesCardSaid : Prop := Claim7.holds Tryz.pinned (.plain (OpenSpec.ofChange fnExactPlacesSpec)) fnExactPlacesCard

/-- THE TIED CARD OF 'laws.FnExactChanges'. -/
def fnExactChangesCard : Claim7 := { stood := { row := fnExactChangesRow, standIns := [], harness := (true, "00c13aba23106b0ca927a51365c764b65ae74e90c42c055d553493005ebb2b0b"), looks := true }, kinds := [], alts := [], laidByText := true, laidKinds := [.data, .data, .data, .data, .sentinel, .sentinel, .pinned], laidTests := true, laidLooks := .later }
def FnExactChangesCardSaid : Prop := Claim7.holds Tryz.pinned (.plain (OpenSpec.ofChange fnExactChangesSpec)) fnExactChangesCard

/-- THE TIED CARD OF 'laws.FnExactStoreOk'. -/
def fnExactStoreOkCard : Claim7 := { stood := { row := fnExactStoreOkRow, standIns := [], harness := (true, "00c13aba23106b0ca927a51365c764b65ae74e90c42c055d553493005ebb2b0b"), looks := true }, kinds := [], alts := [], laidByText := true, laidKinds := [.data, .data, .data, .data, .sentinel, .sentinel, .pinned], laidTests := true, laidLooks := .later }
def FnExactStoreOkCardSaid : Prop := Claim7.holds Tryz.pinned (.plain (OpenSpec.ofChange fnExactStoreOkSpec)) fnExactStoreOkCard

/-- THE TIED CARD OF 'laws.FnPlaces'. -/
def fnPlacesCard : Claim7 := { stood := { row := fnPlacesRow, standIns := [], harness := (true, "00c13aba23106b0ca927a51365c764b65ae74e90c42c055d553493005ebb2b0b"), looks := true }, kinds := [], alts := [], laidByText := true, laidKinds := [.data, .data, .data, .data, .sentinel, .sentinel, .pinned], laidTests := true, laidLooks := .later }
def FnPlacesCardSaid : Prop := Claim7.holds Tryz.pinned (.plain (OpenSpec.ofChange fnPlacesSpec)) fnPlacesCard

/-- THE SECOND FORM's CARD OF 'laws.FnExactResolve'. -/
def fnExactResolveUptoCard : Claim7 := { stood := { row := fnExactResolveUptoRow, standIns := [], harness := (true, "00c13aba23106b0ca927a51365c764b65ae74e90c42c055d553493005ebb2b0b"), looks := true }, kinds := [], alts := [], laidByText := true, laidKinds := [.data, .data, .data, .data, .sentinel, .sentinel, .pinned], laidTests := true, laidLooks := .later }
def FnExactResolveUptoCardSaid : Prop := Claim7.holds Tryz.pinned (.plain (OpenSpec.upto fnExactResolveSpec)) fnExactResolveUptoCard

/-- THE SECOND FORM's CARD OF 'laws.FnExactPlaces'. -/
def fnExactPlacesUptoCard : Claim7 := { stood := { row := fnExactPlacesUptoRow, standIns := [], harness := (true, "00c13aba23106b0ca927a51365c764b65ae74e90c42c055d553493005ebb2b0b"), looks := true }, kinds := [], alts := [], laidByText := true, laidKinds := [.data, .data, .data, .data, .sentinel, .sentinel, .pinned], laidTests := true, laidLooks := .later }
def FnExactPlacesUptoCardSaid : Prop := Claim7.holds Tryz.pinned (.plain (OpenSpec.upto fnExactPlacesSpec)) fnExactPlacesUptoCard

/-- THE SECOND FORM's CARD OF 'laws.FnExactChanges'. -/
def fnExactChangesUptoCard : Claim7 := { stood := { row := fnExactChangesUptoRow, standIns := [], harness := (true, "00c13aba23106b0ca927a51365c764b65ae74e90c42c055d553493005ebb2b0b"), looks := true }, kinds := [], alts := [], laidByText := true, laidKinds := [.data, .data, .data, .data, .sentinel, .sentinel, .pinned], laidTests := true, laidLooks := .later }
def FnExactChangesUptoCardSaid : Prop := Claim7.holds Tryz.pinned (.plain (OpenSpec.upto fnExactChangesSpec)) fnExactChangesUptoCard

/-- THE SECOND FORM's CARD OF 'laws.FnExactStoreOk'. -/
def fnExactStoreOkUptoCard : Claim7 := { stood := { row := fnExactStoreOkUptoRow, standIns := [], harness := (true, "00c13aba23106b0ca927a51365c764b65ae74e90c42c055d553493005ebb2b0b"), looks := true }, kinds := [], alts := [], laidByText := true, laidKinds := [.data, .data, .data, .data, .sentinel, .sentinel, .pinned], laidTests := true, laidLooks := .later }
def FnExactStoreOkUptoCardSaid : Prop := Claim7.holds Tryz.pinned (.plain (OpenSpec.upto fnExactStoreOkSpec)) fnExactStoreOkUptoCard

/-- THE SECOND FORM's CARD OF 'laws.FnPlaces'. -/
def fnPlacesUptoCard : Claim7 := { stood := { row := fnPlacesUptoRow, standIns := [], harness := (true, "00c13aba23106b0ca927a51365c764b65ae74e90c42c055d553493005ebb2b0b"), looks := true }, kinds := [], alts := [], laidByText := true, laidKinds := [.data, .data, .data, .data, .sentinel, .sentinel, .pinned], laidTests := true, laidLooks := .later }
def FnPlacesUptoCardSaid : Prop := Claim7.holds Tryz.pinned (.plain (OpenSpec.upto fnPlacesSpec)) fnPlacesUptoCard
end Rows
end Go.Proofs.YtndagnkhjlgjgaaGreatDoor
