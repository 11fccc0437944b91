/- What the rows of this seat share: a start at which the listed tables hold what they list; what the door says of bytealg.MaxLen; a slice of strings among the arguments, opened as the printed contracts want it. -/
import Derived.Test.YtmphkhkbegihaaaDoorCards
import Derived.Test.YtmphkhkbegihaaaDoorTie
import Derived.Test.YtmphkhkbegihaaaDoorOwn
import Derived.WalkKit
import Derived.ProofKit
import Derived.OpenShut
import Derived.SliceStrings
import Derived.Lay
namespace Go.Proofs.YtmphkhkbegihaaaDoor.Start
open Go Go.ChangeShapes Go.WideShapes Go.ChangeAt Go.RowKit Go.Proofs.YtmphkhkbegihaaaDoor.Own Go.Proofs.YtmphkhkbegihaaaDoorW.PrintWords

theorem own : ownKnob Tryd.prog.godebug = none := by kernel_rfl
theorem laidOut : laidOutB Tryd.prog = true := by kernel_rfl
theorem gm {w : World} (h : w.ShapedOpen Tryd.prog) : GM w := Tryd.laysM219.s1_3 w h
abbrev laid2 : List (String × DataW Unit) := [("unicode/utf8.acceptRanges", Rows.laid_unicode_utf8_acceptRanges), ("unicode/utf8.first", Rows.laid_unicode_utf8_first)]
end Go.Proofs.YtmphkhkbegihaaaDoor.Start
