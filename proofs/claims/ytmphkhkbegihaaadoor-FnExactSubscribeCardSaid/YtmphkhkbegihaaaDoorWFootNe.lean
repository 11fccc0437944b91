-- Words of the kit's print, cut down by this session (wip/trimw.py): not as the print laid them
import Derived.Test.YtmphkhkbegihaaaDoorWN
/-! ### 52. A row that stays read whatever happens to a block (a set of blocks) doesn't lie there -/
namespace Go.Proofs.YtmphkhkbegihaaaDoorW.PrintWords
open Go.RowKit
namespace Kd
section
variable {α : Type} {d : Kd α} {W : World} {g n : Nat} {S ok : Nat → Prop} {A : Option Addr} {ad : Addr} {xs : List α}
end
end Kd
end Go.Proofs.YtmphkhkbegihaaaDoorW.PrintWords
