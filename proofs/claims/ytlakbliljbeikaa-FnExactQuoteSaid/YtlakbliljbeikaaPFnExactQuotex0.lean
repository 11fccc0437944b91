-- Written by a turned copy of the kit print (wip/patch_print.py of this repo), this session
import Derived.Test.YtlakbliljbeikaaProg
import Derived.Below
import Derived.Deep.Draws
import Derived.Deep.AppendLies
import Derived.Maps.AppendAt
import Derived.OwnWalk
import Derived.Laws.BytesArg
import Derived.Laws.MakeOwn
import Derived.Laws.OwnMore
import Derived.Deep.OwnRows
import Derived.Tactics
import Derived.Lib.ConvBytes
import Derived.Laws.Slices
import Derived.WalkKit
import Derived.KernelRfl
import Derived.RowKit3
import Derived.Deep.LoopGhost
import Derived.Deep.QuietTactic
import Derived.BigQuiet
import Derived.WideLaws
import Derived.Deep.DeepCutAuto
import Derived.Deep.CutBlock
import Derived.Deep.RegionHeld3
import Derived.Laws.Rows
import Derived.Lib.AppendStr
import Derived.ArgAppend
import Derived.Laws.IdiomCopy
import Derived.OrdersHeld
import Derived.Laws.BitsLemmas
import Derived.RowKit
import Derived.Test.YtlakbliljbeikaaWWords
import Derived.Test.YtlakbliljbeikaaWLast
import Derived.Test.YtlakbliljbeikaaWTab
import Derived.Test.YtlakbliljbeikaaWFour
import Derived.Test.YtlakbliljbeikaaWQPut
import Derived.Test.YtlakbliljbeikaaWApart
import Derived.Test.YtlakbliljbeikaaWArr
import Derived.Test.YtlakbliljbeikaaWZeros
import Derived.Test.YtlakbliljbeikaaWFoot
import Derived.Test.YtlakbliljbeikaaWKept
import Derived.Test.YtlakbliljbeikaaWShare
import Derived.Test.YtlakbliljbeikaaWN
import Derived.Test.YtlakbliljbeikaaWFootNe
import Derived.Test.YtlakbliljbeikaaWAt
import Derived.Test.YtlakbliljbeikaaWEqStruct
import Derived.Test.YtlakbliljbeikaaWRepsOne
import Derived.Test.YtlakbliljbeikaaWInv
import Derived.Test.YtlakbliljbeikaaWInvWords
import Derived.Test.YtlakbliljbeikaaWGuard
import Derived.Test.YtlakbliljbeikaaWNEv
import Derived.Test.YtlakbliljbeikaaWMore
namespace Go.Proofs.Ytlakbliljbeikaa.PFnExactQuote
open Go.RowKit Go.Proofs.YtlakbliljbeikaaW.PrintWords Go.Proofs.YtlakbliljbeikaaW.PrintLast Go.Proofs.YtlakbliljbeikaaW.PrintMore
attribute [local go_sem] max2_int min2_int max_two min_two max_three min_three max_four min_four   -- for this text's walks alone
set_option linter.unusedVariables false
set_option linter.unusedSimpArgs false



def errW : Option Int → Value
  | none => .nilIface
  | some c => .iface 0 (.int .i64 c)
theorem errW_none : errW none = .nilIface := rfl
theorem errW_some (c : Int) : errW (some c) = .iface 0 (.int .i64 c) := rfl

theorem info5 : (Try.prog.info? 5).map (fun i => (i.zero, i.size, i.bytes)) = some (some (.int .u8 0), 1, 1) := by kernel_rfl
-- the values' own types

end Go.Proofs.Ytlakbliljbeikaa.PFnExactQuote
