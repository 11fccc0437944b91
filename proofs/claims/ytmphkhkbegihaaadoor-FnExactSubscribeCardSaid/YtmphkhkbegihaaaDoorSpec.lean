/- Plain laws of the printed spec functions on hubs. -/
import Derived.Test.YtmphkhkbegihaaaDoorPHubx
import Derived.Test.YtmphkhkbegihaaaDoorCopy
namespace Go.Proofs.YtmphkhkbegihaaaDoor.SpecP
open Go Go.RowKit Go.Proofs.YtmphkhkbegihaaaDoor.PHub Go.Proofs.YtmphkhkbegihaaaDoorW.PrintWords Go.Proofs.YtmphkhkbegihaaaDoor.Copy
set_option linter.unusedVariables false
set_option linter.unusedSimpArgs false

theorem texts_id (l : List ByteArray) (h : l.length ≤ 4194304) : spec_l5Texts.f l = some l := by
  unfold spec_l5Texts.f
  simp only [Option.bind_some, List.length_nil, List.nil_append]
  rw [if_pos (by omega)]
theorem msg_id (x : S112) (h : x.f1.length ≤ 4194304) : spec_l5Message.f x.f0 x.f1 x.f2 = some (x.f0, x.f1, x.f2) := by
  unfold spec_l5Message.f
  rw [texts_id _ h]
  rfl
theorem watch_loop (f0 : Int) (f1 : ByteArray) (f2 f3 : Int) (f4 : Bool) : ∀ (q p acc : List S112), fitMsgS (p ++ q) → acc.length + q.length ≤ 4194304 → Ev (fun k => spec_l5Watch.l0 k acc (p.length : Int) f0 f1 f2 f3 f4 (p ++ q)) (f0, f1, f2, f3, f4, acc ++ q)
  | [], p, acc, hf, hl => by
    refine Ev.step (f := fun _ => some (f0, f1, f2, f3, f4, acc ++ [])) (fun k => ?_) (Ev.now _)
    simp [spec_l5Watch.l0]
  | x :: q, p, acc, hf, hl => by
    have hrd : rd_T112 (p ++ x :: q) (p.length : Int) = x := by simp [rd_T112]
    have hlen : (p ++ x :: q).length = p.length + q.length + 1 := by simp; omega
    have hx : x.f1.length ≤ 4194304 := hf.2 x (by simp)
    have hl1 := hf.1
    have ih := watch_loop f0 f1 f2 f3 f4 q (p ++ [x]) (acc ++ [x]) (by simpa using hf) (by simp at hl ⊢; omega)
    refine Ev.step (fun k => ?_) (by simpa using ih)
    simp only [spec_l5Watch.l0]
    simp only [List.length_cons] at hl
    rw [if_pos (by omega), if_pos (by omega), hrd, msg_id x hx]
    simp only [Option.bind_some]
    rw [if_pos (by omega), show wrap64 ((p.length : Int) + 1) = (p.length : Int) + 1 by unfold wrap64; omega]
theorem watch_id (x : S76) (h : fitMsgS x.f5) : Ev (fun k => spec_l5Watch.f k x.f0 x.f1 x.f2 x.f3 x.f4 x.f5 0) (x.f0, x.f1, x.f2, x.f3, x.f4, x.f5) := by
  have h2 := watch_loop x.f0 x.f1 x.f2 x.f3 x.f4 x.f5 [] [] h (by simpa using h.1)
  simpa [spec_l5Watch.f] using h2
/-- A list without its place s, told from place i on. -/
def wo {α : Type} (s : Int) : Nat → List α → List α
  | _, [] => []
  | i, x :: t => if (i : Int) = s then wo s (i + 1) t else x :: wo s (i + 1) t
theorem wo_len {α : Type} (s : Int) : ∀ (i : Nat) (l : List α), (wo s i l).length ≤ l.length
  | _, [] => Nat.le_refl _
  | i, x :: t => by
    have := wo_len s (i + 1) t
    unfold wo
    split
    · simp only [List.length_cons]; omega
    · simp only [List.length_cons]; omega
theorem wo_all {α : Type} (s : Int) : ∀ (i : Nat) (l : List α), (∀ j : Nat, i ≤ j → j < i + l.length → (j : Int) ≠ s) → wo s i l = l
  | _, [], _ => rfl
  | i, x :: t, h => by
    unfold wo
    rw [if_neg (h i (Nat.le_refl _) (by simp)), wo_all s (i + 1) t (fun j h1 h2 => h j (by omega) (by simp only [List.length_cons]; omega))]
theorem wo_erase {α : Type} (s : Nat) : ∀ (i : Nat) (l : List α), i ≤ s → wo (s : Int) i l = l.eraseIdx (s - i)
  | _, [], _ => rfl
  | i, x :: t, h => by
    unfold wo
    by_cases e : i = s
    · subst e
      rw [if_pos rfl, wo_all _ _ _ (fun j h1 _ => by omega), Nat.sub_self]
      rfl
    · rw [if_neg (by omega), wo_erase s (i + 1) t (by omega)]
      obtain ⟨m, hm⟩ : ∃ m, s - i = m + 1 := ⟨s - i - 1, by omega⟩
      rw [hm, show s - (i + 1) = m by omega]
      rfl
theorem copy_news (ws : List S76) (aW : List S76) : ∀ (q p acc : List S87), fitNewS (p ++ q) → acc.length + q.length ≤ 4194304 → Ev (fun k => spec_l5Copy.l1 k (p.length : Int) ws (p ++ q) aW acc) (aW, acc ++ q)
  | [], p, acc, hf, hl => by
    refine Ev.step (f := fun _ => some (aW, acc ++ [])) (fun k => ?_) (Ev.now _)
    simp [spec_l5Copy.l1]
  | x :: q, p, acc, hf, hl => by
    have hrd : rd_T87 (p ++ x :: q) (p.length : Int) = x := by simp [rd_T87]
    have hlen : (p ++ x :: q).length = p.length + q.length + 1 := by simp; omega
    have hx : x.f1.length ≤ 4194304 := hf.2 x (by simp)
    have hl1 := hf.1
    have ih := copy_news ws aW q (p ++ [x]) (acc ++ [x]) (by simpa using hf) (by simp at hl ⊢; omega)
    refine Ev.step (fun k => ?_) (by simpa using ih)
    simp only [spec_l5Copy.l1]
    simp only [List.length_cons] at hl
    rw [if_pos (by omega), if_pos (by omega), hrd, texts_id _ hx]
    simp only [Option.bind_some]
    rw [if_pos (by omega), show wrap64 ((p.length : Int) + 1) = (p.length : Int) + 1 by unfold wrap64; omega]
theorem copy_watches (ns : List S87) (hn : fitNewS ns) (s : Int) (d : Nat) (hd : d ≤ ns.length) : ∀ (q p acc : List S76), fitWatS (p ++ q) → acc.length + q.length ≤ 4194304 → Ev (fun k => spec_l5Copy.l0 k s (d : Int) (p.length : Int) (p ++ q) ns acc []) (acc ++ wo s p.length q, ns.drop d)
  | [], p, acc, hf, hl => by
    have h2 := copy_news (p ++ []) (acc ++ []) (ns.drop d) (ns.take d) [] (by rw [List.take_append_drop]; exact hn) (by have := hn.1; simp; omega)
    rw [List.take_append_drop, show (ns.take d).length = d by simp; omega] at h2
    refine Ev.step (fun k => ?_) (by simpa [wo] using h2)
    simp [spec_l5Copy.l0]
  | x :: q, p, acc, hf, hl => by
    have hrd : rd_T76 (p ++ x :: q) (p.length : Int) = x := by simp [rd_T76]
    have hlen : (p ++ x :: q).length = p.length + q.length + 1 := by simp; omega
    have hx : fitMsgS x.f5 := hf.2 x (by simp)
    have hl1 := hf.1
    simp only [List.length_cons] at hl
    have hw : wrap64 ((p.length : Int) + 1) = (p.length : Int) + 1 := by unfold wrap64; omega
    by_cases c : (p.length : Int) = s
    · have ih := copy_watches ns hn s d hd q (p ++ [x]) acc (by simpa using hf) (by omega)
      have e : wo s p.length (x :: q) = wo s (p.length + 1) q := by simp only [wo]; rw [if_pos c]
      rw [e]
      refine Ev.step (fun k => ?_) (by simpa using ih)
      simp only [spec_l5Copy.l0]
      rw [if_pos (by omega), if_pos c, hw]
    · have ih := copy_watches ns hn s d hd q (p ++ [x]) (acc ++ [x]) (by simpa using hf) (by simp; omega)
      have e : wo s p.length (x :: q) = x :: wo s (p.length + 1) q := by simp only [wo]; rw [if_neg c]
      rw [e]
      have e2 : acc ++ x :: wo s (p.length + 1) q = (acc ++ [x]) ++ wo s (p.length + 1) q := by simp
      rw [e2]
      refine Ev.step (f := fun k => (spec_l5Watch.f k x.f0 x.f1 x.f2 x.f3 x.f4 x.f5 0).bind fun b => if acc.length < 1954687338268 then spec_l5Copy.l0 k s (d : Int) ((p.length : Int) + 1) (p ++ x :: q) ns (acc ++ [(⟨b.1, b.2.1, b.2.2.1, b.2.2.2.1, b.2.2.2.2.1, b.2.2.2.2.2⟩ : S76)]) [] else none) (fun k => ?_) (Ev.bind (watch_id x hx) ?_)
      · simp only [spec_l5Copy.l0]
        rw [if_pos (by omega), if_neg c, if_pos (by omega), hrd, hw]
      · have e3 : (fun n => if acc.length < 1954687338268 then spec_l5Copy.l0 n s (d : Int) ((p.length : Int) + 1) (p ++ x :: q) ns (acc ++ [x]) [] else none) = fun n => spec_l5Copy.l0 n s (d : Int) ((p.length : Int) + 1) (p ++ x :: q) ns (acc ++ [x]) [] := by
          funext n
          rw [if_pos (by omega)]
        show Ev (fun n => if acc.length < 1954687338268 then spec_l5Copy.l0 n s (d : Int) ((p.length : Int) + 1) (p ++ x :: q) ns (acc ++ [x]) [] else none) _
        rw [e3]
        simpa using ih
theorem copy_ev (ws : List S76) (ns : List S87) (hw : fitWatS ws) (hn : fitNewS ns) (s : Int) (d : Nat) (hd : d ≤ ns.length) : Ev (fun k => spec_l5Copy.f k ws ns s (d : Int)) (wo s 0 ws, ns.drop d) := by
  have h := copy_watches ns hn s d hd ws [] [] hw (by simpa using hw.1)
  simpa [spec_l5Copy.f] using h
theorem copy_id (ws : List S76) (ns : List S87) (hw : fitWatS ws) (hn : fitNewS ns) : Ev (fun k => spec_l5Copy.f k ws ns (-1) 0) (ws, ns) := by
  have h := copy_ev ws ns hw hn (-1) 0 (Nat.zero_le _)
  rw [wo_all (-1) 0 ws (fun j _ _ => by omega)] at h
  simpa using h
end Go.Proofs.YtmphkhkbegihaaaDoor.SpecP
