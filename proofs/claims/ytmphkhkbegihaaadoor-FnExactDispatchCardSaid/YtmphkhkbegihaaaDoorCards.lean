/-
  DERIVED. GIVEN WITH THE SEED: THE CARDS: each row of YtmphkhkbegihaaaDoorRows.lean that lists a variable, with what it lists TIED to the program's text (the seventh form; the later family's looks); each row that meets fmt, with fmt's text TOLD by the authors' own Lean function (tested against real Go, not proved from fmt's source: count such statements apart). THE CARD IS WHAT COUNTS. Prove the row's statement (the work); the ties are given (YtmphkhkbegihaaaDoorTie.lean); close each card by the builder's one call (the guide's Derived/Test/ToyasCard.lean, 'card_holds'). Laid BY PROGRAM, IN A SANDBOX (cutbox-door.mjs). By AI agents, Wed Nov 11 2026. No macro, syntax, notation, axiom, sorry.
-/
import Derived.Test.YtmphkhkbegihaaaDoorRows
import GoSem.ClaimSeven
namespace Go.Proofs.YtmphkhkbegihaaaDoor
namespace Rows

/-- THE TIED CARD OF 'laws.FnExactPtrText'. -/
def fnExactPtrTextCard : Claim7 := { stood := { row := fnExactPtrTextRow, standIns := [], harness := (true, "8b38d8b1d19a4c033d113d260e45c1d3237767305289ef9991d5c366f2b702a2"), looks := false }, kinds := [], alts := [], laidByText := true, laidKinds := [.data, .pinned], laidTests := true, laidLooks := .later }
def FnExactPtrTextCardSaid : Prop := Claim7.holds Tryd.pinned (.plain (OpenSpec.ofChange fnExactPtrTextSpec)) fnExactPtrTextCard

/-- THE TIED CARD OF 'laws.FnExactPtrTokens'. -/
def fnExactPtrTokensCard : Claim7 := { stood := { row := fnExactPtrTokensRow, standIns := [], harness := (true, "8b38d8b1d19a4c033d113d260e45c1d3237767305289ef9991d5c366f2b702a2"), looks := false }, kinds := [], alts := [], laidByText := true, laidKinds := [.data, .pinned], laidTests := true, laidLooks := .later }
def FnExactPtrTokensCardSaid : Prop := Claim7.holds Tryd.pinned (.plain (OpenSpec.ofChange fnExactPtrTokensSpec)) fnExactPtrTokensCard

/-- THE TIED CARD OF 'laws.FnExactWithin'. -/
def fnExactWithinCard : Claim7 := { stood := { row := fnExactWithinRow, standIns := [], harness := (true, "8b38d8b1d19a4c033d113d260e45c1d3237767305289ef9991d5c366f2b702a2"), looks := false }, kinds := [], alts := [], laidByText := true, laidKinds := [.data, .pinned], laidTests := true, laidLooks := .later }
def FnExactWithinCardSaid : Prop := Claim7.holds Tryd.pinned (.plain (OpenSpec.ofChange fnExactWithinSpec)) fnExactWithinCard

/-- THE TIED CARD OF 'laws.FnPointer'. -/
def fnPointerCard : Claim7 := { stood := { row := fnPointerRow, standIns := [], harness := (true, "8b38d8b1d19a4c033d113d260e45c1d3237767305289ef9991d5c366f2b702a2"), looks := false }, kinds := [], alts := [], laidByText := true, laidKinds := [.data, .pinned], laidTests := true, laidLooks := .later }
def FnPointerCardSaid : Prop := Claim7.holds Tryd.pinned (.plain (OpenSpec.ofChange fnPointerSpec)) fnPointerCard

/-- THE TIED CARD OF 'laws.FnExactClash'. -/
def fnExactClashCard : Claim7 := { stood := { row := fnExactClashRow, standIns := [], harness := (true, "8b38d8b1d19a4c033d113d260e45c1d3237767305289ef9991d5c366f2b702a2"), looks := false }, kinds := [], alts := [], laidByText := true, laidKinds := [.data, .pinned], laidTests := true, laidLooks := .later }
def FnExactClashCardSaid : Prop := Claim7.holds Tryd.pinned (.plain (OpenSpec.ofChange fnExactClashSpec)) fnExactClashCard

/-- THE TIED CARD OF 'laws.FnExactSubscribe'. -/
def fnExactSubscribeCard : Claim7 := { stood := { row := fnExactSubscribeRow, standIns := [], harness := (true, "8b38d8b1d19a4c033d113d260e45c1d3237767305289ef9991d5c366f2b702a2"), looks := false }, kinds := [], alts := [], laidByText := true, laidKinds := [.data, .pinned], laidTests := true, laidLooks := .later }
def FnExactSubscribeCardSaid : Prop := Claim7.holds Tryd.pinned (.plain (OpenSpec.ofChange fnExactSubscribeSpec)) fnExactSubscribeCard

/-- THE TIED CARD OF 'laws.FnExactDispatch'. -/
def fnExactDispatchCard : Claim7 := { stood := { row := fnExactDispatchRow, standIns := [], harness := (true, "8b38d8b1d19a4c033d113d260e45c1d3237767305289ef9991d5c366f2b702a2"), looks := false }, kinds := [], alts := [], laidByText := true, laidKinds := [.data, .pinned], laidTests := true, laidLooks := .later }
def FnExactDispatchCardSaid : Prop := Claim7.holds Tryd.pinned (.plain (OpenSpec.ofChange fnExactDispatchSpec)) fnExactDispatchCard

/-- THE SECOND FORM's CARD OF 'laws.FnExactPtrText'. -/
def fnExactPtrTextUptoCard : Claim7 := { stood := { row := fnExactPtrTextUptoRow, standIns := [], harness := (true, "8b38d8b1d19a4c033d113d260e45c1d3237767305289ef9991d5c366f2b702a2"), looks := false }, kinds := [], alts := [], laidByText := true, laidKinds := [.data, .pinned], laidTests := true, laidLooks := .later }
def FnExactPtrTextUptoCardSaid : Prop := Claim7.holds Tryd.pinned (.plain (OpenSpec.upto fnExactPtrTextSpec)) fnExactPtrTextUptoCard

/-- THE SECOND FORM's CARD OF 'laws.FnExactPtrTokens'. -/
def fnExactPtrTokensUptoCard : Claim7 := { stood := { row := fnExactPtrTokensUptoRow, standIns := [], harness := (true, "8b38d8b1d19a4c033d113d260e45c1d3237767305289ef9991d5c366f2b702a2"), looks := false }, kinds := [], alts := [], laidByText := true, laidKinds := [.data, .pinned], laidTests := true, laidLooks := .later }
def FnExactPtrTokensUptoCardSaid : Prop := Claim7.holds Tryd.pinned (.plain (OpenSpec.upto fnExactPtrTokensSpec)) fnExactPtrTokensUptoCard

/-- THE SECOND FORM's CARD OF 'laws.FnExactWithin'. -/
def fnExactWithinUptoCard : Claim7 := { stood := { row := fnExactWithinUptoRow, standIns := [], harness := (true, "8b38d8b1d19a4c033d113d260e45c1d3237767305289ef9991d5c366f2b702a2"), looks := false }, kinds := [], alts := [], laidByText := true, laidKinds := [.data, .pinned], laidTests := true, laidLooks := .later }
def FnExactWithinUptoCardSaid : Prop := Claim7.holds Tryd.pinned (.plain (OpenSpec.upto fnExactWithinSpec)) fnExactWithinUptoCard

/-- THE SECOND FORM's CARD OF 'laws.FnPointer'. -/
def fnPointerUptoCard : Claim7 := { stood := { row := fnPointerUptoRow, standIns := [], harness := (true, "8b38d8b1d19a4c033d113d260e45c1d3237767305289ef9991d5c366f2b702a2"), looks := false }, kinds := [], alts := [], laidByText := true, laidKinds := [.data, .pinned], laidTests := true, laidLooks := .later }
def FnPointerUptoCardSaid : Prop := Claim7.holds Tryd.pinned (.plain (OpenSpec.upto fnPointerSpec)) fnPointerUptoCard

/-- THE SECOND FORM's CARD OF 'laws.FnExactClash'. -/
def fnExactClashUptoCard : Claim7 := { stood := { row := fnExactClashUptoRow, standIns := [], harness := (true, "8b38d8b1d19a4c033d113d260e45c1d3237767305289ef9991d5c366f2b702a2"), looks := false }, kinds := [], alts := [], laidByText := true, laidKinds := [.data, .pinned], laidTests := true, laidLooks := .later }
def FnExactClashUptoCardSaid : Prop := Claim7.holds Tryd.pinned (.plain (OpenSpec.upto fnExactClashSpec)) fnExactClashUptoCard

/-- THE SECOND FORM's CARD OF 'laws.FnExactSubscribe'. -/
def fnExactSubscribeUptoCard : Claim7 := { stood := { row := fnExactSubscribeUptoRow, standIns := [], harness := (true, "8b38d8b1d19a4c033d113d260e45c1d3237767305289ef9991d5c366f2b702a2"), looks := false }, kinds := [], alts := [], laidByText := true, laidKinds := [.data, .pinned], laidTests := true, laidLooks := .later }
def FnExactSubscribeUptoCardSaid : Prop := Claim7.holds Tryd.pinned (.plain (OpenSpec.upto fnExactSubscribeSpec)) fnExactSubscribeUptoCard

/-- THE SECOND FORM's CARD OF 'laws.FnExactDispatch'. -/
def fnExactDispatchUptoCard : Claim7 := { stood := { row := fnExactDispatchUptoRow, standIns := [], harness := (true, "8b38d8b1d19a4c033d113d260e45c1d3237767305289ef9991d5c366f2b702a2"), looks := false }, kinds := [], alts := [], laidByText := true, laidKinds := [.data, .pinned], laidTests := true, laidLooks := .later }
def FnExactDispatchUptoCardSaid : Prop := Claim7.holds Tryd.pinned (.plain (OpenSpec.upto fnExactDispatchSpec)) fnExactDispatchUptoCard
end Rows
end Go.Proofs.YtmphkhkbegihaaaDoor
