-- Written by a turned copy of the kit print (wip/patch_print.py of this repo), this session
import Derived.Test.YtmphkhkbegihaaaDoorPPtrx0
import Derived.Test.YtmphkhkbegihaaaDoorPPtrx1
import Derived.Test.YtmphkhkbegihaaaDoorPPtrx2
import Derived.Test.YtmphkhkbegihaaaDoorPPtrx3
import Derived.Test.YtmphkhkbegihaaaDoorPPtrx4
import Derived.Test.YtmphkhkbegihaaaDoorPPtrx5
import Derived.Test.YtmphkhkbegihaaaDoorPPtrx6
import Derived.Test.YtmphkhkbegihaaaDoorPPtrx7
namespace Go.Proofs.YtmphkhkbegihaaaDoor.PPtr
open Go.RowKit Go.Proofs.YtmphkhkbegihaaaDoor.Own Go.Proofs.YtmphkhkbegihaaaDoor.Xtra Go.Proofs.YtmphkhkbegihaaaDoorW.PrintWords Go.Proofs.YtmphkhkbegihaaaDoorW.PrintLast Go.Proofs.YtmphkhkbegihaaaDoorW.PrintMore
attribute [local go_sem] max2_int min2_int max_two min_two max_three min_three max_four min_four   -- for this text's walks alone
set_option linter.unusedVariables false
set_option linter.unusedSimpArgs false

end Go.Proofs.YtmphkhkbegihaaaDoor.PPtr
