-- Words of the kit's print, cut down by this session (wip/trimw.py): not as the print laid them
import Derived.Test.YtmphkhkbegihaaaWWords
import Derived.Laws.StructEq
/-! ### 53. '==' of structs as_ one Bool -/
namespace Go.Proofs.YtmphkhkbegihaaaW.PrintWords
open Go.RowKit
section
variable {P : Program} {d : Nat} {xs ys : Array Value} {f : Field} {fs : List Field} {a b : Value} {r s : Bool} {w : World}
end
end Go.Proofs.YtmphkhkbegihaaaW.PrintWords
