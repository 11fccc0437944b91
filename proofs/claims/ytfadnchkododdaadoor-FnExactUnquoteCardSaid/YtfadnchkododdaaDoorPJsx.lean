-- Written by a turned copy of the kit print (wip/patch_print.py of this repo), this session
import Derived.Test.YtfadnchkododdaaDoorPJsx0
import Derived.Test.YtfadnchkododdaaDoorPJsx1
import Derived.Test.YtfadnchkododdaaDoorPJsx2
import Derived.Test.YtfadnchkododdaaDoorPJsx3
import Derived.Test.YtfadnchkododdaaDoorPJsx4
namespace Go.Proofs.YtfadnchkododdaaDoor.PJs
open Go.RowKit Go.Proofs.YtfadnchkododdaaDoorW.PrintWords Go.Proofs.YtfadnchkododdaaDoorW.PrintLast Go.Proofs.YtfadnchkododdaaDoorW.PrintMore
attribute [local go_sem] max2_int min2_int max_two min_two max_three min_three max_four min_four   -- for this text's walks alone
set_option linter.unusedVariables false
set_option linter.unusedSimpArgs false

end Go.Proofs.YtfadnchkododdaaDoor.PJs
