/- Plain laws of the printed spec.Cancel. -/
import Derived.Test.YtmphkhkbegihaaaPHubC
import Derived.Test.YtmphkhkbegihaaaCancel
namespace Go.Proofs.Ytmphkhkbegihaaa.SpecP
open Go Go.RowKit Go.Proofs.Ytmphkhkbegihaaa.PHub Go.Proofs.YtmphkhkbegihaaaW.PrintWords Go.Proofs.Ytmphkhkbegihaaa.Copy Go.Proofs.Ytmphkhkbegihaaa.Find
set_option linter.unusedVariables false
set_option linter.unusedSimpArgs false
theorem find_loop (c : Int) (ns : List S53) : ∀ (q p : List S65), p.length + q.length ≤ 4194304 → Ev (fun k => spec_l5Find.l0 k c (p.length : Int) (p ++ q) ns) (fnd c p.length q)
  | [], p, hl => by
    refine Ev.step (f := fun _ => some (-1)) (fun k => ?_) (Ev.now _)
    simp [spec_l5Find.l0]
  | x :: q, p, hl => by
    have hrd : rd_T65 (p ++ x :: q) (p.length : Int) = x := by simp [rd_T65]
    have hlen : (p ++ x :: q).length = p.length + q.length + 1 := by simp; omega
    simp only [List.length_cons] at hl
    by_cases h : x.f0 = c
    · have e : fnd c p.length (x :: q) = (p.length : Int) := by simp only [fnd]; rw [if_pos h]
      rw [e]
      refine Ev.step (f := fun _ => some (p.length : Int)) (fun k => ?_) (Ev.now _)
      simp only [spec_l5Find.l0]
      rw [if_pos (by omega), if_pos (by omega), hrd, if_pos h]
    · have e : fnd c p.length (x :: q) = fnd c (p.length + 1) q := by simp only [fnd]; rw [if_neg h]
      rw [e]
      have ih := find_loop c ns q (p ++ [x]) (by simp; omega)
      refine Ev.step (fun k => ?_) (by simpa using ih)
      simp only [spec_l5Find.l0]
      rw [if_pos (by omega), if_pos (by omega), hrd, if_neg h, show wrap64 ((p.length : Int) + 1) = (p.length : Int) + 1 by unfold wrap64; omega]
theorem find_ev (ws : List S65) (ns : List S53) (hw : fitWatS ws) (c : Int) : Ev (fun k => spec_l5Find.f k ws ns c) (fnd c 0 ws) := by
  have h := find_loop c ns ws [] (by simpa using hw.1)
  simpa [spec_l5Find.f] using h
end Go.Proofs.Ytmphkhkbegihaaa.SpecP
