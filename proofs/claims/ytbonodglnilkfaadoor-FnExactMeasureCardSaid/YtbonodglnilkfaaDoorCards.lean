/-
  DERIVED. GIVEN WITH THE SEED: THE CARDS: each row of YtbonodglnilkfaaDoorRows.lean that lists a variable, with what it lists TIED to the program's text (the seventh form; the later family's looks); each row that meets fmt, with fmt's text TOLD by the authors' own Lean function (tested against real Go, not proved from fmt's source: count such statements apart). THE CARD IS WHAT COUNTS. Prove the row's statement (the work); the ties are given (YtbonodglnilkfaaDoorTie.lean); close each card by the builder's one call (the guide's Derived/Test/ToyasCard.lean, 'card_holds'). Laid BY PROGRAM, IN A SANDBOX (cutbox-door.mjs). By AI agents, Wed Nov 11 2026. No macro, syntax, notation, axiom, sorry.
-/
import Derived.Test.YtbonodglnilkfaaDoorRows
import GoSem.ClaimSeven
namespace Go.Proofs.YtbonodglnilkfaaDoor
namespace Rows

/-- THE TIED CARD OF 'laws.FnExactMeasure'. -/
def fnExactMeasureCard : Claim7 := { stood := { row := fnExactMeasureRow, standIns := [], harness := (true, "c76ee437065f8f8d5b011868364360b2c2bc6ccd702aa3a31fdf3c0e9f53ba59"), looks := true }, kinds := [], alts := [], laidByText := true, laidKinds := [.data, .data, .data, .data, .sentinel, .sentinel, .pinned], laidTests := true, laidLooks := .later }
def FnExactMeasureCardSaid : Prop := Claim7.holds Tryd.pinned (.plain (OpenSpec.ofChange fnExactMeasureSpec)) fnExactMeasureCard

/-- THE SECOND FORM's CARD OF 'laws.FnExactMeasure'. -/
def fnExactMeasureUptoCard : Claim7 := { stood := { row := fnExactMeasureUptoRow, standIns := [], harness := (true, "c76ee437065f8f8d5b011868364360b2c2bc6ccd702aa3a31fdf3c0e9f53ba59"), looks := true }, kinds := [], alts := [], laidByText := true, laidKinds := [.data, .data, .data, .data, .sentinel, .sentinel, .pinned], laidTests := true, laidLooks := .later }
def FnExactMeasureUptoCardSaid : Prop := Claim7.holds Tryd.pinned (.plain (OpenSpec.upto fnExactMeasureSpec)) fnExactMeasureUptoCard
end Rows
end Go.Proofs.YtbonodglnilkfaaDoor
