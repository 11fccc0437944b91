/-
  NARROWER THAN 'FOR EVERY INPUT', by the rows' own cells (each row's printed sentence says how): FnExactPtrText: laid · FnExactPtrTokens: laid · FnExactWithin: laid · FnPointer: laid · FnExactClash: laid · FnExactSubscribe: laid · FnExactDispatch: laid.
  DERIVED. THE GIVEN ROWS OF THIS SEAT. 7 by the template 'for every input the law returns true; each argument reads behind the call as it read before'; 0 by the template 'total and deterministic' (their statements: YtmphkhkbegihaaaDoorTotals.lean).
  GIVEN WITH THE SEED: the statements are not yours to turn. If you find one false, say at which input.
  Laid BY PROGRAM, IN A SANDBOX (cutbox-rows.mjs): the forced cells as the released guide's own fill.sh prints them over the translation a1e8c995db4f779e… (all of the seat's roots in one cut). By AI agents, Wed Nov 11 2026. No macro, syntax, notation, axiom, sorry.
-/
import Derived.Test.YtmphkhkbegihaaaDoorChecked
import GoSem.PinnedTables
import GoSem.Claim
import GoSem.ClaimJoined
import GoSem.ClaimMapViews
import Derived.JoinedTies
import Derived.KernelRfl
namespace Go.Proofs.YtmphkhkbegihaaaDoor
/- THE CELL 'sum', in the pinned program and in every row, IS THE sha256 OF THE DUMP (.gsa) THAT YtmphkhkbegihaaaDoorProg.lean LOADS. Nothing in Lean hashes anything: it is a label: what it is worth is what the hold of that sum in a sandbox is worth. -/
noncomputable def Tryd.pinned : Pinned := { name := "ytmphkhkbegihaaadoor", sum := "a1e8c995db4f779e3ff4ed034979f49f2f5bffb9121e2ab7cdcab08dbf75e5e7", checked := Tryd.checked }
namespace Rows
def none {H : Type} : Left H := { results := [], args := [] }

/- WHAT THE LISTED PACKAGE-LEVEL VARIABLES READ AS WHEN THE CALL BEGINS. Each datum BY PROGRAM (the guide's laid-datum.mjs) off the statement by which the dump's own 'gosem.cut.vars' lays the variable. In a bare row this is a premise. The card (YtmphkhkbegihaaaDoorCards.lean) ties it to the program's text. -/
def laid_unicode_utf8_acceptRanges {H : Type} : DataW H := .agg [.agg [.lit (.int .u8 128), .lit (.int .u8 191)], .agg [.lit (.int .u8 160), .lit (.int .u8 191)], .agg [.lit (.int .u8 128), .lit (.int .u8 159)], .agg [.lit (.int .u8 144), .lit (.int .u8 191)], .agg [.lit (.int .u8 128), .lit (.int .u8 143)], .agg [.lit (.int .u8 0), .lit (.int .u8 0)], .agg [.lit (.int .u8 0), .lit (.int .u8 0)], .agg [.lit (.int .u8 0), .lit (.int .u8 0)], .agg [.lit (.int .u8 0), .lit (.int .u8 0)], .agg [.lit (.int .u8 0), .lit (.int .u8 0)], .agg [.lit (.int .u8 0), .lit (.int .u8 0)], .agg [.lit (.int .u8 0), .lit (.int .u8 0)], .agg [.lit (.int .u8 0), .lit (.int .u8 0)], .agg [.lit (.int .u8 0), .lit (.int .u8 0)], .agg [.lit (.int .u8 0), .lit (.int .u8 0)], .agg [.lit (.int .u8 0), .lit (.int .u8 0)]]
/-- One of Go's own tables, pinned by name: the form's constant. -/
def laid_unicode_utf8_first : DataW Unit := Go.Pinned.utf8First

/-- 'laws.FnExactPtrText': WHATEVER THE INPUT: true; the input reads as it did. -/
def fnExactPtrTextSpec : ChangeSpec := { name := "fnExactPtrText", fn := fun _ => fun
  | [d] => { results := [.lit (.bool true)], args := [d] }
  | _ => none }
def fnExactPtrTextRow : OpenClaim := { program := "ytmphkhkbegihaaadoor", sum := "a1e8c995db4f779e3ff4ed034979f49f2f5bffb9121e2ab7cdcab08dbf75e5e7", func := "loop.example/s04350/laws.FnExactPtrText", spec := "fnExactPtrText", inPlace := ["internal/abi.NoEscape", "internal/bytealg.CountString", "internal/bytealg.IndexByteString", "internal/bytealg.IndexString", "internal/bytealg.MakeNoZero"], named := ["internal/bytealg.MaxLen", "unicode/utf8.first", "unicode/utf8.acceptRanges"], apart := false, laid := [("unicode/utf8.acceptRanges", laid_unicode_utf8_acceptRanges), ("unicode/utf8.first", laid_unicode_utf8_first)] }
def FnExactPtrTextSaid : Prop := fnExactPtrTextRow.holds Tryd.pinned (OpenSpec.ofChange fnExactPtrTextSpec)

/-- ITS FALSE NEIGHBOUR: 'it returns false'. Refute it at one input. -/
def fnExactPtrTextWrong : ChangeSpec := { name := "fnExactPtrText", fn := fun _ => fun
  | [d] => { results := [.lit (.bool false)], args := [d] }
  | _ => none }
def FnExactPtrTextWrongFalsely : Prop := fnExactPtrTextRow.holds Tryd.pinned (OpenSpec.ofChange fnExactPtrTextWrong)

/-- 'laws.FnExactPtrTokens': WHATEVER THE INPUT: true; the input reads as it did. -/
def fnExactPtrTokensSpec : ChangeSpec := { name := "fnExactPtrTokens", fn := fun _ => fun
  | [d] => { results := [.lit (.bool true)], args := [d] }
  | _ => none }
def fnExactPtrTokensRow : OpenClaim := { program := "ytmphkhkbegihaaadoor", sum := "a1e8c995db4f779e3ff4ed034979f49f2f5bffb9121e2ab7cdcab08dbf75e5e7", func := "loop.example/s04350/laws.FnExactPtrTokens", spec := "fnExactPtrTokens", inPlace := ["internal/bytealg.CountString", "internal/bytealg.IndexByteString", "internal/bytealg.IndexString", "internal/abi.NoEscape", "internal/bytealg.MakeNoZero"], named := ["unicode/utf8.first", "unicode/utf8.acceptRanges", "internal/bytealg.MaxLen"], apart := false, laid := [("unicode/utf8.acceptRanges", laid_unicode_utf8_acceptRanges), ("unicode/utf8.first", laid_unicode_utf8_first)] }
def FnExactPtrTokensSaid : Prop := fnExactPtrTokensRow.holds Tryd.pinned (OpenSpec.ofChange fnExactPtrTokensSpec)

/-- ITS FALSE NEIGHBOUR: 'it returns false'. Refute it at one input. -/
def fnExactPtrTokensWrong : ChangeSpec := { name := "fnExactPtrTokens", fn := fun _ => fun
  | [d] => { results := [.lit (.bool false)], args := [d] }
  | _ => none }
def FnExactPtrTokensWrongFalsely : Prop := fnExactPtrTokensRow.holds Tryd.pinned (OpenSpec.ofChange fnExactPtrTokensWrong)

/-- 'laws.FnExactWithin': WHATEVER THE INPUT: true; the input reads as it did. -/
def fnExactWithinSpec : ChangeSpec := { name := "fnExactWithin", fn := fun _ => fun
  | [d1, d2] => { results := [.lit (.bool true)], args := [d1, d2] }
  | _ => none }
def fnExactWithinRow : OpenClaim := { program := "ytmphkhkbegihaaadoor", sum := "a1e8c995db4f779e3ff4ed034979f49f2f5bffb9121e2ab7cdcab08dbf75e5e7", func := "loop.example/s04350/laws.FnExactWithin", spec := "fnExactWithin", inPlace := ["internal/bytealg.CountString", "internal/bytealg.IndexByteString", "internal/bytealg.IndexString", "internal/abi.NoEscape", "internal/bytealg.MakeNoZero"], named := ["unicode/utf8.first", "unicode/utf8.acceptRanges", "internal/bytealg.MaxLen"], apart := false, laid := [("unicode/utf8.acceptRanges", laid_unicode_utf8_acceptRanges), ("unicode/utf8.first", laid_unicode_utf8_first)] }
def FnExactWithinSaid : Prop := fnExactWithinRow.holds Tryd.pinned (OpenSpec.ofChange fnExactWithinSpec)

/-- ITS FALSE NEIGHBOUR: 'it returns false'. Refute it at one input. -/
def fnExactWithinWrong : ChangeSpec := { name := "fnExactWithin", fn := fun _ => fun
  | [d1, d2] => { results := [.lit (.bool false)], args := [d1, d2] }
  | _ => none }
def FnExactWithinWrongFalsely : Prop := fnExactWithinRow.holds Tryd.pinned (OpenSpec.ofChange fnExactWithinWrong)

/-- 'laws.FnPointer': WHATEVER THE INPUT: true; the input reads as it did. -/
def fnPointerSpec : ChangeSpec := { name := "fnPointer", fn := fun _ => fun
  | [d1, d2] => { results := [.lit (.bool true)], args := [d1, d2] }
  | _ => none }
def fnPointerRow : OpenClaim := { program := "ytmphkhkbegihaaadoor", sum := "a1e8c995db4f779e3ff4ed034979f49f2f5bffb9121e2ab7cdcab08dbf75e5e7", func := "loop.example/s04350/laws.FnPointer", spec := "fnPointer", inPlace := ["internal/abi.NoEscape", "internal/bytealg.CountString", "internal/bytealg.IndexByteString", "internal/bytealg.IndexString", "internal/bytealg.MakeNoZero"], named := ["internal/bytealg.MaxLen", "unicode/utf8.first", "unicode/utf8.acceptRanges"], apart := false, laid := [("unicode/utf8.acceptRanges", laid_unicode_utf8_acceptRanges), ("unicode/utf8.first", laid_unicode_utf8_first)] }
def FnPointerSaid : Prop := fnPointerRow.holds Tryd.pinned (OpenSpec.ofChange fnPointerSpec)

/-- ITS FALSE NEIGHBOUR: 'it returns false'. Refute it at one input. -/
def fnPointerWrong : ChangeSpec := { name := "fnPointer", fn := fun _ => fun
  | [d1, d2] => { results := [.lit (.bool false)], args := [d1, d2] }
  | _ => none }
def FnPointerWrongFalsely : Prop := fnPointerRow.holds Tryd.pinned (OpenSpec.ofChange fnPointerWrong)

/-- 'laws.FnExactClash': WHATEVER THE INPUT: true; the input reads as it did. -/
def fnExactClashSpec : ChangeSpec := { name := "fnExactClash", fn := fun _ => fun
  | [d1, d2] => { results := [.lit (.bool true)], args := [d1, d2] }
  | _ => none }
def fnExactClashRow : OpenClaim := { program := "ytmphkhkbegihaaadoor", sum := "a1e8c995db4f779e3ff4ed034979f49f2f5bffb9121e2ab7cdcab08dbf75e5e7", func := "loop.example/s04350/laws.FnExactClash", spec := "fnExactClash", inPlace := ["internal/bytealg.CountString", "internal/bytealg.IndexByteString", "internal/bytealg.IndexString", "internal/abi.NoEscape", "internal/bytealg.MakeNoZero"], named := ["unicode/utf8.first", "unicode/utf8.acceptRanges", "internal/bytealg.MaxLen"], apart := false, laid := [("unicode/utf8.acceptRanges", laid_unicode_utf8_acceptRanges), ("unicode/utf8.first", laid_unicode_utf8_first)] }
def FnExactClashSaid : Prop := fnExactClashRow.holds Tryd.pinned (OpenSpec.ofChange fnExactClashSpec)

/-- ITS FALSE NEIGHBOUR: 'it returns false'. Refute it at one input. -/
def fnExactClashWrong : ChangeSpec := { name := "fnExactClash", fn := fun _ => fun
  | [d1, d2] => { results := [.lit (.bool false)], args := [d1, d2] }
  | _ => none }
def FnExactClashWrongFalsely : Prop := fnExactClashRow.holds Tryd.pinned (OpenSpec.ofChange fnExactClashWrong)

/-- 'laws.FnExactSubscribe': WHATEVER THE INPUT: true; the input reads as it did. -/
def fnExactSubscribeSpec : ChangeSpec := { name := "fnExactSubscribe", fn := fun _ => fun
  | [d1, d2, d3, d4, d5] => { results := [.lit (.bool true)], args := [d1, d2, d3, d4, d5] }
  | _ => none }
def fnExactSubscribeRow : OpenClaim := { program := "ytmphkhkbegihaaadoor", sum := "a1e8c995db4f779e3ff4ed034979f49f2f5bffb9121e2ab7cdcab08dbf75e5e7", func := "loop.example/s04350/laws.FnExactSubscribe", spec := "fnExactSubscribe", inPlace := ["internal/bytealg.CountString", "internal/bytealg.IndexByteString", "internal/bytealg.IndexString", "internal/abi.NoEscape", "internal/bytealg.MakeNoZero"], unfollowed := true, recurses := true, named := ["unicode/utf8.first", "unicode/utf8.acceptRanges", "internal/bytealg.MaxLen"], apart := false, laid := [("unicode/utf8.acceptRanges", laid_unicode_utf8_acceptRanges), ("unicode/utf8.first", laid_unicode_utf8_first)] }
def FnExactSubscribeSaid : Prop := fnExactSubscribeRow.holds Tryd.pinned (OpenSpec.ofChange fnExactSubscribeSpec)

/-- ITS FALSE NEIGHBOUR: 'it returns false'. Refute it at one input. -/
def fnExactSubscribeWrong : ChangeSpec := { name := "fnExactSubscribe", fn := fun _ => fun
  | [d1, d2, d3, d4, d5] => { results := [.lit (.bool false)], args := [d1, d2, d3, d4, d5] }
  | _ => none }
def FnExactSubscribeWrongFalsely : Prop := fnExactSubscribeRow.holds Tryd.pinned (OpenSpec.ofChange fnExactSubscribeWrong)

/-- 'laws.FnExactDispatch': WHATEVER THE INPUT: true; the input reads as it did. -/
def fnExactDispatchSpec : ChangeSpec := { name := "fnExactDispatch", fn := fun _ => fun
  | [d] => { results := [.lit (.bool true)], args := [d] }
  | _ => none }
def fnExactDispatchRow : OpenClaim := { program := "ytmphkhkbegihaaadoor", sum := "a1e8c995db4f779e3ff4ed034979f49f2f5bffb9121e2ab7cdcab08dbf75e5e7", func := "loop.example/s04350/laws.FnExactDispatch", spec := "fnExactDispatch", inPlace := ["internal/bytealg.CountString", "internal/bytealg.IndexByteString", "internal/bytealg.IndexString", "internal/abi.NoEscape", "internal/bytealg.MakeNoZero"], unfollowed := true, recurses := true, named := ["unicode/utf8.first", "unicode/utf8.acceptRanges", "internal/bytealg.MaxLen"], apart := false, laid := [("unicode/utf8.acceptRanges", laid_unicode_utf8_acceptRanges), ("unicode/utf8.first", laid_unicode_utf8_first)] }
def FnExactDispatchSaid : Prop := fnExactDispatchRow.holds Tryd.pinned (OpenSpec.ofChange fnExactDispatchSpec)

/-- ITS FALSE NEIGHBOUR: 'it returns false'. Refute it at one input. -/
def fnExactDispatchWrong : ChangeSpec := { name := "fnExactDispatch", fn := fun _ => fun
  | [d] => { results := [.lit (.bool false)], args := [d] }
  | _ => none }
def FnExactDispatchWrongFalsely : Prop := fnExactDispatchRow.holds Tryd.pinned (OpenSpec.ofChange fnExactDispatchWrong)

/- THE SECOND FORM. 'bulk': how many values and letters a reading holds, each counted each time it is reached (what is shared counts as often as it is met; a slice's spare places count too). A statement '..UptoSaid' is the law's where the arguments, and the package variables that the reading takes, are together of bulk at most 1048576: NARROWER than '..Said'. Prove '..Said' where nothing that the law and all that it calls make is longer than what came in: it says more and counts as full. Else prove '..UptoSaid'. A law counts once. -/
mutual
def uptoBulk {H : Type} : DataW H → Nat
  | .lit (.string bytes) => bytes.length + 1
  | .lit _ => 1
  | .nil => 1
  | .ptr d => uptoBulk d + 1
  | .slice elems spare => uptoBulkAll elems + uptoBulkAll spare + 1
  | .agg parts => uptoBulkAll parts + 1
  | .iface _ d => uptoBulk d + 1
  | .map entries => uptoBulkEntries entries + 1
  | .held _ => 1
def uptoBulkAll {H : Type} : List (DataW H) → Nat
  | [] => 0
  | d :: r => uptoBulk d + uptoBulkAll r
def uptoBulkEntries {H : Type} : List (Lit × DataW H) → Nat
  | [] => 0
  | x :: r => uptoBulkEntry x + uptoBulkEntries r
def uptoBulkEntry {H : Type} : Lit × DataW H → Nat
  | (.string bytes, d) => bytes.length + uptoBulk d + 1
  | (_, d) => uptoBulk d + 1
 end
def uptoSmall : (H : Type) → List (DataW H) → Bool := fun _ ds => decide (uptoBulkAll ds ≤ 1048576)
def OpenSpec.upto (s : _root_.Go.ChangeSpec) : _root_.Go.OpenSpec := { _root_.Go.OpenSpec.ofChange s with cond := some uptoSmall }

/-- 'laws.FnExactPtrText', WHERE WHAT IT READS IS OF BULK AT MOST 1048576: true; the input reads as it did. -/
def fnExactPtrTextUptoRow : OpenClaim := { program := "ytmphkhkbegihaaadoor", sum := "a1e8c995db4f779e3ff4ed034979f49f2f5bffb9121e2ab7cdcab08dbf75e5e7", func := "loop.example/s04350/laws.FnExactPtrText", spec := "fnExactPtrText", inPlace := ["internal/abi.NoEscape", "internal/bytealg.CountString", "internal/bytealg.IndexByteString", "internal/bytealg.IndexString", "internal/bytealg.MakeNoZero"], named := ["internal/bytealg.MaxLen", "unicode/utf8.first", "unicode/utf8.acceptRanges"], apart := false, laid := [("unicode/utf8.acceptRanges", laid_unicode_utf8_acceptRanges), ("unicode/utf8.first", laid_unicode_utf8_first)], narrowed := true }
def FnExactPtrTextUptoSaid : Prop := fnExactPtrTextUptoRow.holds Tryd.pinned (OpenSpec.upto fnExactPtrTextSpec)

/-- 'laws.FnExactPtrTokens', WHERE WHAT IT READS IS OF BULK AT MOST 1048576: true; the input reads as it did. -/
def fnExactPtrTokensUptoRow : OpenClaim := { program := "ytmphkhkbegihaaadoor", sum := "a1e8c995db4f779e3ff4ed034979f49f2f5bffb9121e2ab7cdcab08dbf75e5e7", func := "loop.example/s04350/laws.FnExactPtrTokens", spec := "fnExactPtrTokens", inPlace := ["internal/bytealg.CountString", "internal/bytealg.IndexByteString", "internal/bytealg.IndexString", "internal/abi.NoEscape", "internal/bytealg.MakeNoZero"], named := ["unicode/utf8.first", "unicode/utf8.acceptRanges", "internal/bytealg.MaxLen"], apart := false, laid := [("unicode/utf8.acceptRanges", laid_unicode_utf8_acceptRanges), ("unicode/utf8.first", laid_unicode_utf8_first)], narrowed := true }
def FnExactPtrTokensUptoSaid : Prop := fnExactPtrTokensUptoRow.holds Tryd.pinned (OpenSpec.upto fnExactPtrTokensSpec)

/-- 'laws.FnExactWithin', WHERE WHAT IT READS IS OF BULK AT MOST 1048576: true; the input reads as it did. -/
def fnExactWithinUptoRow : OpenClaim := { program := "ytmphkhkbegihaaadoor", sum := "a1e8c995db4f779e3ff4ed034979f49f2f5bffb9121e2ab7cdcab08dbf75e5e7", func := "loop.example/s04350/laws.FnExactWithin", spec := "fnExactWithin", inPlace := ["internal/bytealg.CountString", "internal/bytealg.IndexByteString", "internal/bytealg.IndexString", "internal/abi.NoEscape", "internal/bytealg.MakeNoZero"], named := ["unicode/utf8.first", "unicode/utf8.acceptRanges", "internal/bytealg.MaxLen"], apart := false, laid := [("unicode/utf8.acceptRanges", laid_unicode_utf8_acceptRanges), ("unicode/utf8.first", laid_unicode_utf8_first)], narrowed := true }
def FnExactWithinUptoSaid : Prop := fnExactWithinUptoRow.holds Tryd.pinned (OpenSpec.upto fnExactWithinSpec)

/-- 'laws.FnPointer', WHERE WHAT IT READS IS OF BULK AT MOST 1048576: true; the input reads as it did. -/
def fnPointerUptoRow : OpenClaim := { program := "ytmphkhkbegihaaadoor", sum := "a1e8c995db4f779e3ff4ed034979f49f2f5bffb9121e2ab7cdcab08dbf75e5e7", func := "loop.example/s04350/laws.FnPointer", spec := "fnPointer", inPlace := ["internal/abi.NoEscape", "internal/bytealg.CountString", "internal/bytealg.IndexByteString", "internal/bytealg.IndexString", "internal/bytealg.MakeNoZero"], named := ["internal/bytealg.MaxLen", "unicode/utf8.first", "unicode/utf8.acceptRanges"], apart := false, laid := [("unicode/utf8.acceptRanges", laid_unicode_utf8_acceptRanges), ("unicode/utf8.first", laid_unicode_utf8_first)], narrowed := true }
def FnPointerUptoSaid : Prop := fnPointerUptoRow.holds Tryd.pinned (OpenSpec.upto fnPointerSpec)

/-- 'laws.FnExactClash', WHERE WHAT IT READS IS OF BULK AT MOST 1048576: true; the input reads as it did. -/
def fnExactClashUptoRow : OpenClaim := { program := "ytmphkhkbegihaaadoor", sum := "a1e8c995db4f779e3ff4ed034979f49f2f5bffb9121e2ab7cdcab08dbf75e5e7", func := "loop.example/s04350/laws.FnExactClash", spec := "fnExactClash", inPlace := ["internal/bytealg.CountString", "internal/bytealg.IndexByteString", "internal/bytealg.IndexString", "internal/abi.NoEscape", "internal/bytealg.MakeNoZero"], named := ["unicode/utf8.first", "unicode/utf8.acceptRanges", "internal/bytealg.MaxLen"], apart := false, laid := [("unicode/utf8.acceptRanges", laid_unicode_utf8_acceptRanges), ("unicode/utf8.first", laid_unicode_utf8_first)], narrowed := true }
def FnExactClashUptoSaid : Prop := fnExactClashUptoRow.holds Tryd.pinned (OpenSpec.upto fnExactClashSpec)

/-- 'laws.FnExactSubscribe', WHERE WHAT IT READS IS OF BULK AT MOST 1048576: true; the input reads as it did. -/
def fnExactSubscribeUptoRow : OpenClaim := { program := "ytmphkhkbegihaaadoor", sum := "a1e8c995db4f779e3ff4ed034979f49f2f5bffb9121e2ab7cdcab08dbf75e5e7", func := "loop.example/s04350/laws.FnExactSubscribe", spec := "fnExactSubscribe", inPlace := ["internal/bytealg.CountString", "internal/bytealg.IndexByteString", "internal/bytealg.IndexString", "internal/abi.NoEscape", "internal/bytealg.MakeNoZero"], unfollowed := true, recurses := true, named := ["unicode/utf8.first", "unicode/utf8.acceptRanges", "internal/bytealg.MaxLen"], apart := false, laid := [("unicode/utf8.acceptRanges", laid_unicode_utf8_acceptRanges), ("unicode/utf8.first", laid_unicode_utf8_first)], narrowed := true }
def FnExactSubscribeUptoSaid : Prop := fnExactSubscribeUptoRow.holds Tryd.pinned (OpenSpec.upto fnExactSubscribeSpec)

/-- 'laws.FnExactDispatch', WHERE WHAT IT READS IS OF BULK AT MOST 1048576: true; the input reads as it did. -/
def fnExactDispatchUptoRow : OpenClaim := { program := "ytmphkhkbegihaaadoor", sum := "a1e8c995db4f779e3ff4ed034979f49f2f5bffb9121e2ab7cdcab08dbf75e5e7", func := "loop.example/s04350/laws.FnExactDispatch", spec := "fnExactDispatch", inPlace := ["internal/bytealg.CountString", "internal/bytealg.IndexByteString", "internal/bytealg.IndexString", "internal/abi.NoEscape", "internal/bytealg.MakeNoZero"], unfollowed := true, recurses := true, named := ["unicode/utf8.first", "unicode/utf8.acceptRanges", "internal/bytealg.MaxLen"], apart := false, laid := [("unicode/utf8.acceptRanges", laid_unicode_utf8_acceptRanges), ("unicode/utf8.first", laid_unicode_utf8_first)], narrowed := true }
def FnExactDispatchUptoSaid : Prop := fnExactDispatchUptoRow.holds Tryd.pinned (OpenSpec.upto fnExactDispatchSpec)

end Rows
end Go.Proofs.YtmphkhkbegihaaaDoor
