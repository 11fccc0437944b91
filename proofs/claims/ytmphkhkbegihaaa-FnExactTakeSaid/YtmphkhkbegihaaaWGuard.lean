-- Words of the kit's print, cut down by this session (wip/trimw.py): not as the print laid them
import Derived.Test.YtmphkhkbegihaaaWWords
/-! ### 58. A guarded operation whose guard is known to want it: the same goal without the guard -/
namespace Go.Proofs.YtmphkhkbegihaaaW.PrintWords
open Go.RowKit
section
variable {P : Program} {ops : Array Oper} {rest : List Oper} {o : Oper} {a : Act} {Q : Exit → Act → World → Prop} {W : World}
end
end Go.Proofs.YtmphkhkbegihaaaW.PrintWords
