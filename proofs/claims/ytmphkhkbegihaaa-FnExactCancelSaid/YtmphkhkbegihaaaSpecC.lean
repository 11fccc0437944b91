/- Plain laws of the printed spec.Cancel. -/
import Derived.Test.YtmphkhkbegihaaaPHubC
import Derived.Test.YtmphkhkbegihaaaCancel
namespace Go.Proofs.Ytmphkhkbegihaaa.SpecP
open Go Go.RowKit Go.Proofs.Ytmphkhkbegihaaa.PHub Go.Proofs.YtmphkhkbegihaaaW.PrintWords Go.Proofs.Ytmphkhkbegihaaa.Copy Go.Proofs.Ytmphkhkbegihaaa.Find
set_option linter.unusedVariables false
set_option linter.unusedSimpArgs false
theorem find_loop (c : Int) (ns : List S53) : ∀ (q p : List S65), p.length + q.length ≤ 4194304 → Ev (fun k => spec_l5Find.l0 k c (p.length : Int) (p ++ q) ns) (fnd c p.length q)
  | [], p, hl => by
    refine Ev.step (f := fun _ => some (-1)) (fun k => ?_) (Ev.now _)
    simp [spec_l5Find.l0]
  | x :: q, p, hl => by
    have hrd : rd_T65 (p ++ x :: q) (p.length : Int) = x := by simp [rd_T65]
    have hlen : (p ++ x :: q).length = p.length + q.length + 1 := by simp; omega
    simp only [List.length_cons] at hl
    by_cases h : x.f0 = c
    · have e : fnd c p.length (x :: q) = (p.length : Int) := by simp only [fnd]; rw [if_pos h]
      rw [e]
      refine Ev.step (f := fun _ => some (p.length : Int)) (fun k => ?_) (Ev.now _)
      simp only [spec_l5Find.l0]
      rw [if_pos (by omega), if_pos (by omega), hrd, if_pos h]
    · have e : fnd c p.length (x :: q) = fnd c (p.length + 1) q := by simp only [fnd]; rw [if_neg h]
      rw [e]
      have ih := find_loop c ns q (p ++ [x]) (by simp; omega)
      refine Ev.step (fun k => ?_) (by simpa using ih)
      simp only [spec_l5Find.l0]
      rw [if_pos (by omega), if_pos (by omega), hrd, if_neg h, show wrap64 ((p.length : Int) + 1) = (p.length : Int) + 1 by unfold wrap64; omega]
theorem find_ev (ws : List S65) (ns : List S53) (hw : fitWatS ws) (c : Int) : Ev (fun k => spec_l5Find.f k ws ns c) (fnd c 0 ws) := by
  have h := find_loop c ns ws [] (by simpa using hw.1)
  simpa [spec_l5Find.f] using h
theorem cancel_ev (ws : List S65) (ns : List S53) (hw : fitWatS ws) (hn : fitNewS ns) (c : Int) : Ev (fun k => spec_Cancel.f k ws ns c) (wo (fnd c 0 ws) 0 ws, ns, if fnd c 0 ws < 0 then 1 else 0) := by
  refine Ev.bind (find_ev ws ns hw c) ?_
  by_cases h : fnd c 0 ws < 0
  · have h1 : fnd c 0 ws = -1 := by
      rcases fnd_cases c ws 0 with h1 | ⟨j, _, h1⟩
      · exact h1
      · rw [h1] at h; omega
    simp only [h1, if_pos (show (-1 : Int) < 0 by decide)]
    have h2 := copy_ev ws ns hw hn (-1) 0 (Nat.zero_le _)
    refine Ev.bind (by simpa using h2) ?_
    simpa using Ev.now _
  · simp only [if_neg h]
    have h2 := copy_ev ws ns hw hn (fnd c 0 ws) 0 (Nat.zero_le _)
    refine Ev.bind (by simpa using h2) ?_
    simpa using Ev.now _
theorem wo_fit (s : Int) (ws : List S65) (hw : fitWatS ws) : fitWatS (wo s 0 ws) := by
  have key : ∀ (i : Nat) (l : List S65) (x : S65), x ∈ wo s i l → x ∈ l := by
    intro i l
    induction l generalizing i with
    | nil => intro x hx; exact hx
    | cons y t ih =>
      intro x hx
      unfold wo at hx
      split at hx
      · exact List.mem_cons_of_mem _ (ih _ _ hx)
      · rcases List.mem_cons.1 hx with rfl | hx
        · exact List.mem_cons_self
        · exact List.mem_cons_of_mem _ (ih _ _ hx)
  exact ⟨Nat.le_trans (wo_len s 0 ws) hw.1, fun x hx => hw.2 x (key 0 ws x hx)⟩
end Go.Proofs.Ytmphkhkbegihaaa.SpecP
