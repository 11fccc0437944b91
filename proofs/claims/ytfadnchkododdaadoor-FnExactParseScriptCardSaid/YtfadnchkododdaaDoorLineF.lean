/- What a line adds to a script (impl.line), over lists. -/
import Derived.Test.YtfadnchkododdaaDoorPPsx0
import Derived.Test.YtfadnchkododdaaDoorPicks
import Derived.Test.YtfadnchkododdaaDoorLines
namespace Go.Proofs.YtfadnchkododdaaDoor.Ps
open Go Go.RowKit Go.Proofs.YtfadnchkododdaaDoorW.PrintWords Go.Proofs.YtfadnchkododdaaDoor.PPs
set_option linter.unusedVariables false
set_option linter.unusedSimpArgs false
/-- The words of a line of picks. -/
def wordsF (has : Bool) (l : List UInt8) : List ByteArray := if has = true then Lib.splitB ⟨#[32]⟩ 0 (Lib.countB (ba l) ⟨#[32]⟩) (ba l) else []
/-- What a line adds to a script. -/
def lineF (l : List UInt8) (cs : List S46) (ps : List Int) : List S46 × List Int × Bool :=
  if (Lib.cut l [32]).1 = [112, 105, 99, 107, 115] then
    (cs, ps ++ (picksG [] (wordsF (Lib.cut l [32]).2.2 (Lib.cut l [32]).2.1)).1, (picksG [] (wordsF (Lib.cut l [32]).2.2 (Lib.cut l [32]).2.1)).2)
  else
    (cs ++ [⟨(clientF (ba (Lib.cut l [32]).1)).1, (callF (Lib.cut l [32]).2.1).1, ba (callF (Lib.cut l [32]).2.1).2.1, (callF (Lib.cut l [32]).2.1).2.2.1⟩], ps, (clientF (ba (Lib.cut l [32]).1)).2 && (Lib.cut l [32]).2.2 && (callF (Lib.cut l [32]).2.1).2.2.2)
theorem lineF_at (l : List UInt8) (cs : List S46) (ps : List Int) : lineF l cs ps = if (Lib.cut l [32]).1 = [112, 105, 99, 107, 115] then
    (cs, ps ++ (picksG [] (wordsF (Lib.cut l [32]).2.2 (Lib.cut l [32]).2.1)).1, (picksG [] (wordsF (Lib.cut l [32]).2.2 (Lib.cut l [32]).2.1)).2)
  else
    (cs ++ [⟨(clientF (ba (Lib.cut l [32]).1)).1, (callF (Lib.cut l [32]).2.1).1, ba (callF (Lib.cut l [32]).2.1).2.1, (callF (Lib.cut l [32]).2.1).2.2.1⟩], ps, (clientF (ba (Lib.cut l [32]).1)).2 && (Lib.cut l [32]).2.2 && (callF (Lib.cut l [32]).2.1).2.2.2) := rfl
end Go.Proofs.YtfadnchkododdaaDoor.Ps
