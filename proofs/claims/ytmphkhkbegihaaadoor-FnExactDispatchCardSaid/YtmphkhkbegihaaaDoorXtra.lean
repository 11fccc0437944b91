/-
  Laws beside the print's words: append(b, s...) onto a row of bytes whose block is told: where the new row lies (the old row's block, or a new one).
-/
import Derived.Test.YtmphkhkbegihaaaDoorWWords
import Derived.Lib.AppendStr
namespace Go.Proofs.YtmphkhkbegihaaaDoor.Xtra
open Go.RowKit Go.Proofs.YtmphkhkbegihaaaDoorW.PrintWords
section
variable {P : Program}

variable {ops : Array Oper} {rest : List Oper} {o : Oper} {a : Act} {Q : Exit → Act → World → Prop}
end
end Go.Proofs.YtmphkhkbegihaaaDoor.Xtra
