-- Words of the kit's print, cut down by this session (wip/trimw.py): not as the print laid them
import Derived.Test.YtmphkhkbegihaaaWInv
import Derived.Test.YtmphkhkbegihaaaWFootNe
namespace Go.Proofs.YtmphkhkbegihaaaW.PrintWords
open Go.RowKit
end Go.Proofs.YtmphkhkbegihaaaW.PrintWords
namespace Go.Proofs.YtmphkhkbegihaaaW.PrintLast
section
variable {ops : Array Oper} {a : Act} {o og : Oper} {g : Nat} {t : Tmp} {u : Bool}
end
end Go.Proofs.YtmphkhkbegihaaaW.PrintLast
