-- Written by a turned copy of the kit print (wip/patch_print.py of this repo), this session
import Derived.Test.YtbonodglnilkfaaDoorPJsx1
import Derived.Test.YtbonodglnilkfaaDoorPJsx2
import Derived.Test.YtbonodglnilkfaaDoorPJsx3
import Derived.Test.YtbonodglnilkfaaDoorPJsx4
import Derived.Test.YtbonodglnilkfaaDoorPJsx5
namespace Go.Proofs.YtbonodglnilkfaaDoor.PJs
open Go.RowKit Go.Proofs.YtbonodglnilkfaaDoorW.PrintWords Go.Proofs.YtbonodglnilkfaaDoorW.PrintLast Go.Proofs.YtbonodglnilkfaaDoorW.PrintMore
attribute [local go_sem] max2_int min2_int max_two min_two max_three min_three max_four min_four   -- for this text's walks alone
set_option linter.unusedVariables false
set_option linter.unusedSimpArgs false
end Go.Proofs.YtbonodglnilkfaaDoor.PJs
namespace Go.Proofs.YtbonodglnilkfaaDoor.PJs
open Go.RowKit Go.Proofs.YtbonodglnilkfaaDoorW.PrintWords Go.Proofs.YtbonodglnilkfaaDoorW.PrintLast Go.Proofs.YtbonodglnilkfaaDoorW.PrintMore
attribute [local go_sem] max2_int min2_int max_two min_two max_three min_three max_four min_four   -- for this text's walks alone
set_option linter.unusedVariables false
set_option linter.unusedSimpArgs false
end Go.Proofs.YtbonodglnilkfaaDoor.PJs
