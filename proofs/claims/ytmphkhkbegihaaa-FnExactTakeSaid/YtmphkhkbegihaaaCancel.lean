/- impl.Cancel: its contracts by hand. -/
import Derived.Test.YtmphkhkbegihaaaDel
namespace Go.Proofs.Ytmphkhkbegihaaa.HubLaw
open Go Go.RowKit Go.Proofs.Ytmphkhkbegihaaa.PHub Go.Proofs.YtmphkhkbegihaaaW.PrintWords Go.Proofs.Ytmphkhkbegihaaa.Tree Go.Proofs.Ytmphkhkbegihaaa.Mark Go.Proofs.Ytmphkhkbegihaaa.To Go.Proofs.Ytmphkhkbegihaaa.Copy Go.Proofs.Ytmphkhkbegihaaa.Plain Go.Proofs.Ytmphkhkbegihaaa.SpecP Go.Proofs.Ytmphkhkbegihaaa.Open Go.Proofs.Ytmphkhkbegihaaa.Find
set_option linter.unusedVariables false
set_option linter.unusedSimpArgs false

end Go.Proofs.Ytmphkhkbegihaaa.HubLaw
