/-
  No cell of these rows narrows 'for every input' (looked for: loops, veiled, ifaces, maps, wideKeys, modest, calm, conditions, laid).
  DERIVED. THE GIVEN ROWS OF THIS SEAT. 3 by the template 'for every input the law returns true; each argument reads behind the call as it read before'; 0 by the template 'total and deterministic' (their statements: YtmphkhkbegihaaaTotals.lean).
  GIVEN WITH THE SEED: the statements are not yours to turn. If you find one false, say at which input.
  Laid BY PROGRAM, IN A SANDBOX (cutbox-rows.mjs): the forced cells as the released guide's own fill.sh prints them over the translation e2f2761732eff4f2… (all of the seat's roots in one cut). By AI agents, Wed Nov 11 2026. No macro, syntax, notation, axiom, sorry.
-/
import Derived.Test.YtmphkhkbegihaaaChecked
import GoSem.Claim
import GoSem.ClaimJoined
import GoSem.ClaimMapViews
import Derived.JoinedTies
import Derived.KernelRfl
namespace Go.Proofs.Ytmphkhkbegihaaa
/- THE CELL 'sum', in the pinned program and in every row, IS THE sha256 OF THE DUMP (.gsa) THAT YtmphkhkbegihaaaProg.lean LOADS. Nothing in Lean hashes anything: it is a label: what it is worth is what the hold of that sum in a sandbox is worth. -/
noncomputable def Try.pinned : Pinned := { name := "ytmphkhkbegihaaa", sum := "e2f2761732eff4f267482ef0d50d68db7b5694da3dd5f674b3738c0ab5ffbfab", checked := Try.checked }
namespace Rows
def none {H : Type} : Left H := { results := [], args := [] }

/-- 'laws.FnExactPublish': WHATEVER THE INPUT: true; the input reads as it did. -/
def fnExactPublishSpec : ChangeSpec := { name := "fnExactPublish", fn := fun _ => fun
  | [d1, d2, d3] => { results := [.lit (.bool true)], args := [d1, d2, d3] }
  | _ => none }
def fnExactPublishRow : OpenClaim := { program := "ytmphkhkbegihaaa", sum := "e2f2761732eff4f267482ef0d50d68db7b5694da3dd5f674b3738c0ab5ffbfab", func := "loop.example/s04350/laws.FnExactPublish", spec := "fnExactPublish", apart := false }
def FnExactPublishSaid : Prop := fnExactPublishRow.holds Try.pinned (OpenSpec.ofChange fnExactPublishSpec)

/-- ITS FALSE NEIGHBOUR: 'it returns false'. Refute it at one input. -/
def fnExactPublishWrong : ChangeSpec := { name := "fnExactPublish", fn := fun _ => fun
  | [d1, d2, d3] => { results := [.lit (.bool false)], args := [d1, d2, d3] }
  | _ => none }
def FnExactPublishWrongFalsely : Prop := fnExactPublishRow.holds Try.pinned (OpenSpec.ofChange fnExactPublishWrong)

/-- 'laws.FnExactCancel': WHATEVER THE INPUT: true; the input reads as it did. -/
def fnExactCancelSpec : ChangeSpec := { name := "fnExactCancel", fn := fun _ => fun
  | [d1, d2] => { results := [.lit (.bool true)], args := [d1, d2] }
  | _ => none }
def fnExactCancelRow : OpenClaim := { program := "ytmphkhkbegihaaa", sum := "e2f2761732eff4f267482ef0d50d68db7b5694da3dd5f674b3738c0ab5ffbfab", func := "loop.example/s04350/laws.FnExactCancel", spec := "fnExactCancel", unfollowed := true, recurses := true, apart := false }
def FnExactCancelSaid : Prop := fnExactCancelRow.holds Try.pinned (OpenSpec.ofChange fnExactCancelSpec)

/-- ITS FALSE NEIGHBOUR: 'it returns false'. Refute it at one input. -/
def fnExactCancelWrong : ChangeSpec := { name := "fnExactCancel", fn := fun _ => fun
  | [d1, d2] => { results := [.lit (.bool false)], args := [d1, d2] }
  | _ => none }
def FnExactCancelWrongFalsely : Prop := fnExactCancelRow.holds Try.pinned (OpenSpec.ofChange fnExactCancelWrong)

/-- 'laws.FnExactTake': WHATEVER THE INPUT: true; the input reads as it did. -/
def fnExactTakeSpec : ChangeSpec := { name := "fnExactTake", fn := fun _ => fun
  | [d1, d2] => { results := [.lit (.bool true)], args := [d1, d2] }
  | _ => none }
def fnExactTakeRow : OpenClaim := { program := "ytmphkhkbegihaaa", sum := "e2f2761732eff4f267482ef0d50d68db7b5694da3dd5f674b3738c0ab5ffbfab", func := "loop.example/s04350/laws.FnExactTake", spec := "fnExactTake", unfollowed := true, recurses := true, apart := false }
def FnExactTakeSaid : Prop := fnExactTakeRow.holds Try.pinned (OpenSpec.ofChange fnExactTakeSpec)

/-- ITS FALSE NEIGHBOUR: 'it returns false'. Refute it at one input. -/
def fnExactTakeWrong : ChangeSpec := { name := "fnExactTake", fn := fun _ => fun
  | [d1, d2] => { results := [.lit (.bool false)], args := [d1, d2] }
  | _ => none }
def FnExactTakeWrongFalsely : Prop := fnExactTakeRow.holds Try.pinned (OpenSpec.ofChange fnExactTakeWrong)

/- THE SECOND FORM. 'bulk': how many values and letters a reading holds, each counted each time it is reached (what is shared counts as often as it is met; a slice's spare places count too). A statement '..UptoSaid' is the law's where the arguments, and the package variables that the reading takes, are together of bulk at most 1048576: NARROWER than '..Said'. Prove '..Said' where nothing that the law and all that it calls make is longer than what came in: it says more and counts as full. Else prove '..UptoSaid'. A law counts once. -/
mutual
def uptoBulk {H : Type} : DataW H → Nat
  | .lit (.string bytes) => bytes.length + 1
  | .lit _ => 1
  | .nil => 1
  | .ptr d => uptoBulk d + 1
  | .slice elems spare => uptoBulkAll elems + uptoBulkAll spare + 1
  | .agg parts => uptoBulkAll parts + 1
  | .iface _ d => uptoBulk d + 1
  | .map entries => uptoBulkEntries entries + 1
  | .held _ => 1
def uptoBulkAll {H : Type} : List (DataW H) → Nat
  | [] => 0
  | d :: r => uptoBulk d + uptoBulkAll r
def uptoBulkEntries {H : Type} : List (Lit × DataW H) → Nat
  | [] => 0
  | x :: r => uptoBulkEntry x + uptoBulkEntries r
def uptoBulkEntry {H : Type} : Lit × DataW H → Nat
  | (.string bytes, d) => bytes.length + uptoBulk d + 1
  | (_, d) => uptoBulk d + 1
 end
def uptoSmall : (H : Type) → List (DataW H) → Bool := fun _ ds => decide (uptoBulkAll ds ≤ 1048576)
def OpenSpec.upto (s : _root_.Go.ChangeSpec) : _root_.Go.OpenSpec := { _root_.Go.OpenSpec.ofChange s with cond := some uptoSmall }

/-- 'laws.FnExactPublish', WHERE WHAT IT READS IS OF BULK AT MOST 1048576: true; the input reads as it did. -/
def fnExactPublishUptoRow : OpenClaim := { program := "ytmphkhkbegihaaa", sum := "e2f2761732eff4f267482ef0d50d68db7b5694da3dd5f674b3738c0ab5ffbfab", func := "loop.example/s04350/laws.FnExactPublish", spec := "fnExactPublish", apart := false, narrowed := true }
def FnExactPublishUptoSaid : Prop := fnExactPublishUptoRow.holds Try.pinned (OpenSpec.upto fnExactPublishSpec)

/-- 'laws.FnExactCancel', WHERE WHAT IT READS IS OF BULK AT MOST 1048576: true; the input reads as it did. -/
def fnExactCancelUptoRow : OpenClaim := { program := "ytmphkhkbegihaaa", sum := "e2f2761732eff4f267482ef0d50d68db7b5694da3dd5f674b3738c0ab5ffbfab", func := "loop.example/s04350/laws.FnExactCancel", spec := "fnExactCancel", unfollowed := true, recurses := true, apart := false, narrowed := true }
def FnExactCancelUptoSaid : Prop := fnExactCancelUptoRow.holds Try.pinned (OpenSpec.upto fnExactCancelSpec)

/-- 'laws.FnExactTake', WHERE WHAT IT READS IS OF BULK AT MOST 1048576: true; the input reads as it did. -/
def fnExactTakeUptoRow : OpenClaim := { program := "ytmphkhkbegihaaa", sum := "e2f2761732eff4f267482ef0d50d68db7b5694da3dd5f674b3738c0ab5ffbfab", func := "loop.example/s04350/laws.FnExactTake", spec := "fnExactTake", unfollowed := true, recurses := true, apart := false, narrowed := true }
def FnExactTakeUptoSaid : Prop := fnExactTakeUptoRow.holds Try.pinned (OpenSpec.upto fnExactTakeSpec)

end Rows
end Go.Proofs.Ytmphkhkbegihaaa
