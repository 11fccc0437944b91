/- Plain laws of the printed spec.Subscribe. -/
import Derived.Test.YtmphkhkbegihaaaDoorSub
namespace Go.Proofs.YtmphkhkbegihaaaDoor.SpecP
open Go Go.RowKit Go.Proofs.YtmphkhkbegihaaaDoor.PHub Go.Proofs.YtmphkhkbegihaaaDoorW.PrintWords Go.Proofs.YtmphkhkbegihaaaDoor.Copy Go.Proofs.YtmphkhkbegihaaaDoor.Find Go.Proofs.YtmphkhkbegihaaaDoor.Tok Go.Proofs.YtmphkhkbegihaaaDoor.HubLaw Go.Proofs.YtmphkhkbegihaaaDoor.Mark Go.Proofs.YtmphkhkbegihaaaDoor
set_option linter.unusedVariables false
set_option linter.unusedSimpArgs false
theorem find_loop (c : Int) (ns : List S87) : ∀ (q p : List S76), p.length + q.length ≤ 4194304 → Ev (fun k => spec_l5Find.l0 k c (p.length : Int) (p ++ q) ns) (fnd c p.length q)
  | [], p, hl => by
    refine Ev.step (f := fun _ => some (-1)) (fun k => ?_) (Ev.now _)
    simp [spec_l5Find.l0]
  | x :: q, p, hl => by
    have hrd : rd_T76 (p ++ x :: q) (p.length : Int) = x := by simp [rd_T76]
    have hlen : (p ++ x :: q).length = p.length + q.length + 1 := by simp; omega
    simp only [List.length_cons] at hl
    by_cases h : x.f0 = c
    · have e : fnd c p.length (x :: q) = (p.length : Int) := by simp only [fnd]; rw [if_pos h]
      rw [e]
      refine Ev.step (f := fun _ => some (p.length : Int)) (fun k => ?_) (Ev.now _)
      simp only [spec_l5Find.l0]
      rw [if_pos (by omega), if_pos (by omega), hrd, if_pos h]
    · have e : fnd c p.length (x :: q) = fnd c (p.length + 1) q := by simp only [fnd]; rw [if_neg h]
      rw [e]
      have ih := find_loop c ns q (p ++ [x]) (by simp; omega)
      refine Ev.step (fun k => ?_) (by simpa using ih)
      simp only [spec_l5Find.l0]
      rw [if_pos (by omega), if_pos (by omega), hrd, if_neg h, show wrap64 ((p.length : Int) + 1) = (p.length : Int) + 1 by unfold wrap64; omega]
theorem find_ev (ws : List S76) (ns : List S87) (hw : fitWatS ws) (c : Int) : Ev (fun k => spec_l5Find.f k ws ns c) (fnd c 0 ws) := by
  have h := find_loop c ns ws [] (by simpa using hw.1)
  simpa [spec_l5Find.f] using h
theorem wo_fit (s : Int) (ws : List S76) (hw : fitWatS ws) : fitWatS (wo s 0 ws) := by
  have key : ∀ (i : Nat) (l : List S76) (x : S76), x ∈ wo s i l → x ∈ l := by
    intro i l
    induction l generalizing i with
    | nil => intro x hx; exact hx
    | cons y t ih =>
      intro x hx
      unfold wo at hx
      split at hx
      · exact List.mem_cons_of_mem _ (ih _ _ hx)
      · rcases List.mem_cons.1 hx with rfl | hx
        · exact List.mem_cons_self
        · exact List.mem_cons_of_mem _ (ih _ _ hx)
  exact ⟨Nat.le_trans (wo_len s 0 ws) hw.1, fun x hx => hw.2 x (key 0 ws x hx)⟩

theorem l2isptr_ev (a : ByteArray) (h : a.size ≤ 4194304) : Ev (fun k => spec_l2IsPtr.f k a) (tokF a).2 := by
  refine ⟨3 * a.size + 5, fun k hk => ?_⟩
  simp only [spec_l2IsPtr.f]
  rw [specPtrTokens a h k hk]
  rfl
theorem copy_ev0 (ws : List S76) (ns : List S87) (hw : fitWatS ws) (hn : fitNewS ns) (s : Int) : Ev (fun k => spec_l5Copy.f k ws ns s 0) (wo s 0 ws, ns) := by
  have h := copy_ev ws ns hw hn s 0 (Nat.zero_le _)
  simpa using h
theorem sub1_ev (ws : List S76) (ns : List S87) (hw : fitWatS ws) (hn : fitNewS ns) (c : Int) (ptr : ByteArray) (room ver : Int) (b : Bool) :
    Ev (fun k => spec_Subscribe.j1 k c ptr room ver b ws ns) (if b = true then (ws, ns, 3) else (wo (fnd c 0 ws) 0 ws ++ [⟨c, ptr, room, ver, false, []⟩], ns, 0)) := by
  cases b
  · refine Ev.step (f := fun k => (spec_l5Find.f k ws ns c).bind fun t => (spec_l5Copy.f k ws ns t 0).bind fun bt => if bt.1.length < 1954687338268 then some (bt.1 ++ [(⟨c, ptr, room, ver, false, []⟩ : S76)], bt.2, 0) else none) (fun k => ?_) ?_
    · simp only [spec_Subscribe.j1]
      rw [if_neg (by decide)]
    · refine Ev.bind (find_ev ws ns hw c) ?_
      refine Ev.bind (copy_ev0 ws ns hw hn _) ?_
      have hl := wo_len (fnd c 0 ws) 0 ws
      have hl2 := hw.1
      simp only [Bool.false_eq_true, if_false]
      rw [if_pos (show (wo (fnd c 0 ws) 0 ws).length < 1954687338268 by omega)]
      exact Ev.now _
  · refine Ev.step (f := fun k => (spec_l5Copy.f k ws ns (-1) 0).bind fun bt => some (bt.1, bt.2, 3)) (fun k => ?_) ?_
    · simp only [spec_Subscribe.j1]
      rw [if_pos trivial]
    · refine Ev.bind (copy_id ws ns hw hn) ?_
      simpa using Ev.now _
theorem sub0_ev (ws : List S76) (ns : List S87) (hw : fitWatS ws) (hn : fitNewS ns) (c : Int) (ptr : ByteArray) (hp : ptr.size ≤ 4194304) (room ver : Int) (b : Bool) :
    Ev (fun k => spec_Subscribe.j0 k c ptr room ver b ws ns) (if b = true then (ws, ns, 1) else if (tokF ptr).2 = false then (ws, ns, 2) else if room < 1 ∨ room > 100 then (ws, ns, 3) else (wo (fnd c 0 ws) 0 ws ++ [⟨c, ptr, room, ver, false, []⟩], ns, 0)) := by
  cases b
  · refine Ev.step (f := fun k => (spec_l2IsPtr.f k ptr).bind fun t => if t = true then (if room < 1 then spec_Subscribe.j1 k c ptr room ver true ws ns else spec_Subscribe.j1 k c ptr room ver (decide (room > 100)) ws ns) else (spec_l5Copy.f k ws ns (-1) 0).bind fun bt => some (bt.1, bt.2, 2)) (fun k => ?_) ?_
    · simp only [spec_Subscribe.j0]
      rw [if_neg (by decide)]
    · refine Ev.bind (l2isptr_ev ptr hp) ?_
      simp only [Bool.false_eq_true, if_false]
      cases hok : (tokF ptr).2
      · simp only [Bool.false_eq_true, if_false, if_true]
        refine Ev.bind (copy_id ws ns hw hn) ?_
        exact Ev.now _
      · simp only [Bool.true_eq_false, if_false, if_true]
        by_cases h1 : room < 1
        · rw [if_pos (Or.inl h1)]
          simp only [if_pos h1]
          have h := sub1_ev ws ns hw hn c ptr room ver true
          simpa using h
        · simp only [if_neg h1]
          have h := sub1_ev ws ns hw hn c ptr room ver (decide (room > 100))
          simpa [h1] using h
  · refine Ev.step (f := fun k => (spec_l5Copy.f k ws ns (-1) 0).bind fun bt => some (bt.1, bt.2, 1)) (fun k => ?_) ?_
    · simp only [spec_Subscribe.j0]
      rw [if_pos trivial]
    · refine Ev.bind (copy_id ws ns hw hn) ?_
      simpa using Ev.now _
theorem subscribe_ev (ws : List S76) (ns : List S87) (hw : fitWatS ws) (hn : fitNewS ns) (c : Int) (ptr : ByteArray) (hp : ptr.size ≤ 4194304) (room ver : Int) :
    Ev (fun k => spec_Subscribe.f k ws ns c ptr room ver) ((sb c ptr room ver (tokF ptr).2 ws).1, ns, (sb c ptr room ver (tokF ptr).2 ws).2) := by
  unfold spec_Subscribe.f sb
  have e : (((if c < 0 ∨ c ≥ 8 then (ws, (1 : Int)) else if (tokF ptr).2 = false then (ws, 2) else if room < 1 ∨ room > 100 then (ws, 3) else (wo (fnd c 0 ws) 0 ws ++ [(⟨c, ptr, room, ver, false, []⟩ : S76)], 0)).1, ns, (if c < 0 ∨ c ≥ 8 then (ws, (1 : Int)) else if (tokF ptr).2 = false then (ws, 2) else if room < 1 ∨ room > 100 then (ws, 3) else (wo (fnd c 0 ws) 0 ws ++ [(⟨c, ptr, room, ver, false, []⟩ : S76)], 0)).2)) = if c < 0 ∨ c ≥ 8 then (ws, ns, (1 : Int)) else if (tokF ptr).2 = false then (ws, ns, 2) else if room < 1 ∨ room > 100 then (ws, ns, 3) else (wo (fnd c 0 ws) 0 ws ++ [(⟨c, ptr, room, ver, false, []⟩ : S76)], ns, 0) := by
    split
    · rfl
    · split
      · rfl
      · split <;> rfl
  rw [e]
  by_cases h1 : c < 0
  · simp only [if_pos h1]
    rw [if_pos (Or.inl h1)]
    have h := sub0_ev ws ns hw hn c ptr hp room ver true
    simpa using h
  · simp only [if_neg h1]
    have h := sub0_ev ws ns hw hn c ptr hp room ver (decide (c ≥ 8))
    simpa [h1] using h
theorem cWatS_append : ∀ (a b : List S76), cWatS (a ++ b) = cWatS a + cWatS b
  | [], b => by simp [cWatS]
  | x :: t, b => by simp only [List.cons_append, cWatS, cWatS_append t b]; omega
theorem cWatS_wo (s : Int) : ∀ (i : Nat) (l : List S76), cWatS (wo s i l) ≤ cWatS l
  | _, [] => Nat.le_refl _
  | i, x :: t => by
    have := cWatS_wo s (i + 1) t
    unfold wo
    split
    · simp only [cWatS]; omega
    · simp only [cWatS]; omega
theorem sb_c (c : Int) (ptr : ByteArray) (room ver : Int) (ok : Bool) (ws : List S76) : cWatS (sb c ptr room ver ok ws).1 ≤ cWatS ws + 5 := by
  unfold sb
  split
  · simp
  · split
    · simp
    · split
      · simp
      · show cWatS (wo (fnd c 0 ws) 0 ws ++ [_]) ≤ _
        rw [cWatS_append]
        have := cWatS_wo (fnd c 0 ws) 0 ws
        simp only [cWatS, cWat, cMsgS]
        omega
theorem sb_small (c : Int) (ptr : ByteArray) (room ver : Int) (ok : Bool) (ws : List S76) (h : fitWatS ws) : Plain.smallWatS (sb c ptr room ver ok ws).1 := by
  unfold sb
  split
  · exact HubLaw.small_watches _ h
  · split
    · exact HubLaw.small_watches _ h
    · split
      · exact HubLaw.small_watches _ h
      · show Plain.smallWatS (wo (fnd c 0 ws) 0 ws ++ [_])
        have h2 := HubLaw.small_watches _ (wo_fit (fnd c 0 ws) ws h)
        refine ⟨?_, fun x hx => ?_⟩
        · have := wo_len (fnd c 0 ws) 0 ws; have := h.1; simp; omega
        · rcases List.mem_append.1 hx with hx | hx
          · exact h2.2 x hx
          · rw [List.mem_singleton.1 hx]
            exact ⟨by simp, fun y hy => by cases hy⟩
end Go.Proofs.YtmphkhkbegihaaaDoor.SpecP
