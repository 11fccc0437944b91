/- impl.Subscribe: its contract by hand. -/
import Derived.Test.YtmphkhkbegihaaaDoorHubG
import Derived.Test.YtmphkhkbegihaaaDoorTok
namespace Go.Proofs.YtmphkhkbegihaaaDoor.HubLaw
open Go Go.RowKit Go.Proofs.YtmphkhkbegihaaaDoor.PHub Go.Proofs.YtmphkhkbegihaaaDoorW.PrintWords Go.Proofs.YtmphkhkbegihaaaDoor.Tree Go.Proofs.YtmphkhkbegihaaaDoor.Mark Go.Proofs.YtmphkhkbegihaaaDoor.To Go.Proofs.YtmphkhkbegihaaaDoor.Copy Go.Proofs.YtmphkhkbegihaaaDoor.Plain Go.Proofs.YtmphkhkbegihaaaDoor.SpecP Go.Proofs.YtmphkhkbegihaaaDoor.Open Go.Proofs.YtmphkhkbegihaaaDoor.Find Go.Proofs.YtmphkhkbegihaaaDoor.Tok Go.Proofs.YtmphkhkbegihaaaDoor.Own
set_option linter.unusedVariables false
set_option linter.unusedSimpArgs false

theorem Tch.drew {w w1 : World} {S : Nat → Prop} (h : Tch w w1 S) : Tch w w1.drew S := ⟨h.os, h.tape, h.output, h.kept⟩
theorem hubG_of {w' : World} {lo m n hi : Nat} {ok0 ok1 : Nat → Prop} {v0 v1 : Value} {ws : List S76} {ns : List S87}
    (h0 : T m76 76 w' 0 ok0 v0 ws) (h1 : T m87 87 w' 0 ok1 v1 ns)
    (g0 : ∀ k, ok0 k → lo ≤ k ∧ k < hi ∧ (k < m ∨ n ≤ k)) (g1 : ∀ k, ok1 k → lo ≤ k ∧ k < hi ∧ m ≤ k ∧ k < n) : HubG w' lo hi v0 v1 ws ns := by
  refine ⟨_, _, ?_, ?_, h0, h1⟩
  · intro k hk; have a := g0 k hk; exact ⟨a.1, a.2.1, fun h => by have := g1 k h; omega⟩
  · intro k hk; have a := g1 k hk; exact ⟨a.1, a.2.1, fun h => by have := g0 k h; omega⟩

end Go.Proofs.YtmphkhkbegihaaaDoor.HubLaw
namespace Go.Proofs.YtmphkhkbegihaaaDoor.SpecP
open Go Go.RowKit Go.Proofs.YtmphkhkbegihaaaDoor.PHub Go.Proofs.YtmphkhkbegihaaaDoorW.PrintWords Go.Proofs.YtmphkhkbegihaaaDoor.Copy Go.Proofs.YtmphkhkbegihaaaDoor.Find Go.Proofs.YtmphkhkbegihaaaDoor.Tok Go.Proofs.YtmphkhkbegihaaaDoor.HubLaw Go.Proofs.YtmphkhkbegihaaaDoor.Mark Go.Proofs.YtmphkhkbegihaaaDoor
set_option linter.unusedVariables false
set_option linter.unusedSimpArgs false
end Go.Proofs.YtmphkhkbegihaaaDoor.SpecP
