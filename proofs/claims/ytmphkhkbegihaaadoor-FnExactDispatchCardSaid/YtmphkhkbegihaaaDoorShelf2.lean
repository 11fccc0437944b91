/-
  Layings of the shelf's contracts of strings.Builder's writers at this seat's program, the numbers given by hand.
-/
import Derived.Shelf.Strings.Builder1
import Derived.Shelf.Strings.Builder2
import Derived.Test.YtmphkhkbegihaaaDoorProg
namespace Go.Proofs
open Go.Shelf
end Go.Proofs
