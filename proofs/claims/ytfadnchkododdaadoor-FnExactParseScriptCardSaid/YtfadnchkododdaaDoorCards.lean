/-
  DERIVED. GIVEN WITH THE SEED: THE CARDS: each row of YtfadnchkododdaaDoorRows.lean that lists a variable, with what it lists TIED to the program's text (the seventh form; the later family's looks); each row that meets fmt, with fmt's text TOLD by the authors' own Lean function (tested against real Go, not proved from fmt's source: count such statements apart). THE CARD IS WHAT COUNTS. Prove the row's statement (the work); the ties are given (YtfadnchkododdaaDoorTie.lean); close each card by the builder's one call (the guide's Derived/Test/ToyasCard.lean, 'card_holds'). Laid BY PROGRAM, IN A SANDBOX (cutbox-door.mjs). By AI agents, Wed Nov 11 2026. No macro, syntax, notation, axiom, sorry.
-/
import Derived.Test.YtfadnchkododdaaDoorRows
import GoSem.ClaimSeven
namespace Go.Proofs.YtfadnchkododdaaDoor
namespace Rows

/-- THE TIED CARD OF 'laws.FnExactUnquote'. -/
def fnExactUnquoteCard : Claim7 := { stood := { row := fnExactUnquoteRow, standIns := [], harness := (true, "08e882fdd83824456e254bcb0680e64dffebd9b3ca0835f1aa7f2f93b1211d71"), looks := true }, kinds := [], alts := [], laidByText := true, laidKinds := [.data, .data, .data, .data, .sentinel, .sentinel, .pinned], laidTests := true, laidLooks := .later }
def FnExactUnquoteCardSaid : Prop := Claim7.holds Tryd.pinned (.plain (OpenSpec.ofChange fnExactUnquoteSpec)) fnExactUnquoteCard

/-- THE TIED CARD OF 'laws.FnExactParseScript'. -/
def fnExactParseScriptCard : Claim7 := { stood := { row := fnExactParseScriptRow, standIns := [], harness := (true, "08e882fdd83824456e254bcb0680e64dffebd9b3ca0835f1aa7f2f93b1211d71"), looks := true }, kinds := [], alts := [], laidByText := true, laidKinds := [.data, .data, .data, .data, .sentinel, .sentinel, .pinned], laidTests := true, laidLooks := .later }
def FnExactParseScriptCardSaid : Prop := Claim7.holds Tryd.pinned (.plain (OpenSpec.ofChange fnExactParseScriptSpec)) fnExactParseScriptCard

/-- THE SECOND FORM's CARD OF 'laws.FnExactUnquote'. -/
def fnExactUnquoteUptoCard : Claim7 := { stood := { row := fnExactUnquoteUptoRow, standIns := [], harness := (true, "08e882fdd83824456e254bcb0680e64dffebd9b3ca0835f1aa7f2f93b1211d71"), looks := true }, kinds := [], alts := [], laidByText := true, laidKinds := [.data, .data, .data, .data, .sentinel, .sentinel, .pinned], laidTests := true, laidLooks := .later }
def FnExactUnquoteUptoCardSaid : Prop := Claim7.holds Tryd.pinned (.plain (OpenSpec.upto fnExactUnquoteSpec)) fnExactUnquoteUptoCard

/-- THE SECOND FORM's CARD OF 'laws.FnExactParseScript'. -/
def fnExactParseScriptUptoCard : Claim7 := { stood := { row := fnExactParseScriptUptoRow, standIns := [], harness := (true, "08e882fdd83824456e254bcb0680e64dffebd9b3ca0835f1aa7f2f93b1211d71"), looks := true }, kinds := [], alts := [], laidByText := true, laidKinds := [.data, .data, .data, .data, .sentinel, .sentinel, .pinned], laidTests := true, laidLooks := .later }
def FnExactParseScriptUptoCardSaid : Prop := Claim7.holds Tryd.pinned (.plain (OpenSpec.upto fnExactParseScriptSpec)) fnExactParseScriptUptoCard
end Rows
end Go.Proofs.YtfadnchkododdaaDoor
