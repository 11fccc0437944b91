-- Words of the kit's print, cut down by this session (wip/trimw.py): not as the print laid them
import Derived.Test.YtmphkhkbegihaaaDoorWInv
import Derived.Test.YtmphkhkbegihaaaDoorWFootNe
namespace Go.Proofs.YtmphkhkbegihaaaDoorW.PrintWords
open Go.RowKit
end Go.Proofs.YtmphkhkbegihaaaDoorW.PrintWords
namespace Go.Proofs.YtmphkhkbegihaaaDoorW.PrintLast
section
variable {ops : Array Oper} {a : Act} {o og : Oper} {g : Nat} {t : Tmp} {u : Bool}
end
end Go.Proofs.YtmphkhkbegihaaaDoorW.PrintLast
