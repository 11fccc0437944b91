-- Written by a turned copy of the kit print (wip/patch_print.py of this repo), this session
import Derived.Test.YtfadnchkododdaaDoorProg
import Derived.Below
import Derived.Deep.Draws
import Derived.Deep.AppendLies
import Derived.Maps.AppendAt
import Derived.OwnWalk
import Derived.Laws.BytesArg
import Derived.Laws.MakeOwn
import Derived.Laws.OwnMore
import Derived.Deep.OwnRows
import Derived.Tactics
import Derived.Lib.ConvBytes
import Derived.Laws.Slices
import Derived.WalkKit
import Derived.KernelRfl
import Derived.RowKit3
import Derived.Deep.LoopGhost
import Derived.Deep.QuietTactic
import Derived.BigQuiet
import Derived.WideLaws
import Derived.Deep.DeepCutAuto
import Derived.Deep.CutBlock
import Derived.Deep.RegionHeld3
import Derived.Laws.Rows
import Derived.Lib.AppendStr
import Derived.ArgAppend
import Derived.Laws.IdiomCopy
import Derived.OrdersHeld
import Derived.Laws.BitsLemmas
import Derived.RowKit
import Derived.Test.YtfadnchkododdaaDoorWWords
import Derived.Test.YtfadnchkododdaaDoorWLast
import Derived.Test.YtfadnchkododdaaDoorWTab
import Derived.Test.YtfadnchkododdaaDoorWFour
import Derived.Test.YtfadnchkododdaaDoorWQPut
import Derived.Test.YtfadnchkododdaaDoorWApart
import Derived.Test.YtfadnchkododdaaDoorWArr
import Derived.Test.YtfadnchkododdaaDoorWZeros
import Derived.Test.YtfadnchkododdaaDoorWFoot
import Derived.Test.YtfadnchkododdaaDoorWKept
import Derived.Test.YtfadnchkododdaaDoorWShare
import Derived.Test.YtfadnchkododdaaDoorWN
import Derived.Test.YtfadnchkododdaaDoorWFootNe
import Derived.Test.YtfadnchkododdaaDoorWAt
import Derived.Test.YtfadnchkododdaaDoorWEqStruct
import Derived.Test.YtfadnchkododdaaDoorWRepsOne
import Derived.Test.YtfadnchkododdaaDoorWInv
import Derived.Test.YtfadnchkododdaaDoorWInvWords
import Derived.Test.YtfadnchkododdaaDoorWGuard
import Derived.Test.YtfadnchkododdaaDoorWNEv
import Derived.Test.YtfadnchkododdaaDoorWMore
namespace Go.Proofs.YtfadnchkododdaaDoor.PJs
open Go.RowKit Go.Proofs.YtfadnchkododdaaDoorW.PrintWords Go.Proofs.YtfadnchkododdaaDoorW.PrintLast Go.Proofs.YtfadnchkododdaaDoorW.PrintMore
attribute [local go_sem] max2_int min2_int max_two min_two max_three min_three max_four min_four   -- for this text's walks alone
set_option linter.unusedVariables false
set_option linter.unusedSimpArgs false



def errW : Option Int → Value
  | none => .nilIface
  | some c => .iface 0 (.int .i64 c)
theorem errW_none : errW none = .nilIface := rfl
theorem errW_some (c : Int) : errW (some c) = .iface 0 (.int .i64 c) := rfl

theorem info5 : (Tryd.prog.info? 5).map (fun i => (i.zero, i.size, i.bytes)) = some (some (.int .u8 0), 1, 1) := by kernel_rfl
-- the values' own types

end Go.Proofs.YtfadnchkododdaaDoor.PJs
