-- Written by a turned copy of the kit print (wip/patch_print.py of this repo), this session
import Derived.Test.YtmphkhkbegihaaaDoorPHubx0
import Derived.Test.YtmphkhkbegihaaaDoorPHubx1
import Derived.Test.YtmphkhkbegihaaaDoorPHubx2
import Derived.Test.YtmphkhkbegihaaaDoorPHubx3
import Derived.Test.YtmphkhkbegihaaaDoorPHubx6
import Derived.Test.YtmphkhkbegihaaaDoorPHubx7
import Derived.Test.YtmphkhkbegihaaaDoorPHubx8
import Derived.Test.YtmphkhkbegihaaaDoorPHubx9
import Derived.Test.YtmphkhkbegihaaaDoorPHubx10
import Derived.Test.YtmphkhkbegihaaaDoorPHubx11
import Derived.Test.YtmphkhkbegihaaaDoorPHubx12
namespace Go.Proofs.YtmphkhkbegihaaaDoor.PHub
open Go.RowKit Go.Proofs.YtmphkhkbegihaaaDoor.Own Go.Proofs.YtmphkhkbegihaaaDoor.Xtra Go.Proofs.YtmphkhkbegihaaaDoorW.PrintWords Go.Proofs.YtmphkhkbegihaaaDoorW.PrintLast Go.Proofs.YtmphkhkbegihaaaDoorW.PrintMore
attribute [local go_sem] max2_int min2_int max_two min_two max_three min_three max_four min_four   -- for this text's walks alone
set_option linter.unusedVariables false
set_option linter.unusedSimpArgs false

end Go.Proofs.YtmphkhkbegihaaaDoor.PHub
