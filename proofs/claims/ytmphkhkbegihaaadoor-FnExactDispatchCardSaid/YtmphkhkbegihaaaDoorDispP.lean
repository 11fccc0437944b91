/- What a dispatch makes of a hub: bounds. -/
import Derived.Test.YtmphkhkbegihaaaDoorSpecS
import Derived.Test.YtmphkhkbegihaaaDoorSpecD
import Derived.Test.YtmphkhkbegihaaaDoorSizes
namespace Go.Proofs.YtmphkhkbegihaaaDoor.HubLaw
open Go Go.RowKit Go.Proofs.YtmphkhkbegihaaaDoor.PHub Go.Proofs.YtmphkhkbegihaaaDoorW.PrintWords Go.Proofs.YtmphkhkbegihaaaDoor.Tree Go.Proofs.YtmphkhkbegihaaaDoor.Mark Go.Proofs.YtmphkhkbegihaaaDoor.To Go.Proofs.YtmphkhkbegihaaaDoor.Copy Go.Proofs.YtmphkhkbegihaaaDoor.Plain Go.Proofs.YtmphkhkbegihaaaDoor.SpecP Go.Proofs.YtmphkhkbegihaaaDoor.Open Go.Proofs.YtmphkhkbegihaaaDoor.Find Go.Proofs.YtmphkhkbegihaaaDoor.Tok Go.Proofs.YtmphkhkbegihaaaDoor.Near Go.Proofs.YtmphkhkbegihaaaDoor.Tell
set_option linter.unusedVariables false
set_option linter.unusedSimpArgs false

theorem cMsgS_app (l l' : List S112) : cMsgS (l ++ l') = cMsgS l + cMsgS l' := by
  induction l with
  | nil => simp [cMsgS]
  | cons x t ih => simp only [List.cons_append, cMsgS, ih]; omega
theorem cWatS_app (l l' : List S76) : cWatS (l ++ l') = cWatS l + cWatS l' := by
  induction l with
  | nil => simp [cWatS]
  | cons x t ih => simp only [List.cons_append, cWatS, ih]; omega
theorem keepN_len (a : ByteArray) (ps : List ByteArray) : (keepN a ps).length ≤ ps.length := List.length_filter_le _ _
theorem tellF_c (x : S76) (n0 : Int) (ps : List ByteArray) : cWat (tellF x n0 ps) ≤ cWat x + (2 + ps.length) := by
  have hk := keepN_len x.f1 ps
  unfold tellF
  split
  · omega
  · split
    · omega
    · split
      · show 5 + cMsgS (x.f5 ++ [_]) ≤ 5 + cMsgS x.f5 + _
        rw [cMsgS_app]
        show 5 + (cMsgS x.f5 + (2 + (keepN x.f1 ps).length + 0)) ≤ _
        omega
      · show 5 + cMsgS (x.f5 ++ [_]) ≤ 5 + cMsgS x.f5 + _
        rw [cMsgS_app]
        show 5 + (cMsgS x.f5 + (2 + 0 + 0)) ≤ _
        omega
theorem tellMap_c (n0 : Int) (ps : List ByteArray) (ws : List S76) : cWatS (ws.map (fun x => tellF x n0 ps)) ≤ cWatS ws + ws.length * (2 + ps.length) := by
  induction ws with
  | nil => simp [cWatS]
  | cons x t ih =>
    simp only [List.map_cons, cWatS, List.length_cons, Nat.succ_mul]
    have := tellF_c x n0 ps
    omega
theorem tellS_c (n0 : Int) (ps : List ByteArray) (ws : List S76) : cWatS (tellS n0 ps ws) ≤ cWatS ws + 100 * (2 + ps.length) := by
  have h1 := tellMap_c n0 ps (ws.take 100)
  have h2 : cWatS ws = cWatS (ws.take 100) + cWatS (ws.drop 100) := by rw [← cWatS_app, List.take_append_drop]
  have h3 : (ws.take 100).length * (2 + ps.length) ≤ 100 * (2 + ps.length) := Nat.mul_le_mul_right _ (by simp; omega)
  unfold tellS
  rw [cWatS_app, h2]
  omega
theorem dp_c (ws : List S76) (ns : List S87) (hn : fitNewS ns) : cWatS (dp ws ns).1 ≤ cWatS ws + 500000000 ∧ cNewS (dp ws ns).2.1 ≤ cNewS ns := by
  cases ns with
  | nil => exact ⟨Nat.le_add_right _ _, Nat.le_refl _⟩
  | cons n t =>
    have h1 := tellS_c n.f0 n.f1 ws
    have h2 := hn.2 n (by simp)
    refine ⟨?_, ?_⟩
    · show cWatS (tellS n.f0 n.f1 ws) ≤ _
      omega
    · show cNewS t ≤ cNew n + cNewS t
      omega
theorem tellF_small (x : S76) (n0 : Int) (ps : List ByteArray) (hx : fitMsgS x.f5) (hp : ps.length ≤ 4194304) : Plain.smallWat (tellF x n0 ps) := by
  have hs := HubLaw.small_msgs _ hx
  have hk := keepN_len x.f1 ps
  have app : ∀ y : S112, y.f1.length ≤ 4194304 → Plain.smallMsgS (x.f5 ++ [y]) := fun y hy => by
    refine ⟨by have := hx.1; simp; omega, fun z hz => ?_⟩
    rcases List.mem_append.1 hz with hz | hz
    · exact hs.2 z hz
    · rw [List.mem_singleton.1 hz]
      show y.f1.length ≤ _
      omega
  unfold tellF
  split
  · exact hs
  · split
    · exact hs
    · split
      · exact app _ (by show (keepN x.f1 ps).length ≤ _; omega)
      · exact app _ (by show (0 : Nat) ≤ _; omega)
theorem dp_small (ws : List S76) (ns : List S87) (hw : fitWatS ws) (hn : fitNewS ns) : Plain.smallWatS (dp ws ns).1 ∧ Plain.smallNewS (dp ws ns).2.1 := by
  cases ns with
  | nil => exact ⟨HubLaw.small_watches _ hw, HubLaw.small_news _ hn⟩
  | cons n t =>
    refine ⟨⟨?_, fun x hx => ?_⟩, HubLaw.small_news _ ⟨by have := hn.1; simp at this; show t.length ≤ _; omega, fun x hx => hn.2 x (List.mem_cons_of_mem _ hx)⟩⟩
    · show (tellS n.f0 n.f1 ws).length ≤ _
      have := hw.1
      simp [tellS]
      omega
    · replace hx : x ∈ tellS n.f0 n.f1 ws := hx
      rcases List.mem_append.1 hx with hx | hx
      · obtain ⟨y, hy, rfl⟩ := List.mem_map.1 hx
        exact tellF_small y _ _ (hw.2 y (List.mem_of_mem_take hy)) (hn.2 n (by simp))
      · exact HubLaw.small_msgs _ (hw.2 x (List.mem_of_mem_drop hx))
/-! ### at the law's places -/
theorem eq_hubGG {w : World} {lo hi lo' hi' : Nat} {ws : List S76} {ns : List S87} {A0 A1 B0 B1 : Option Addr} {n0 n1 m0 m1 c0 c1 d0 d1 : Nat} (h : HubG w lo hi (.slice A0 n0 c0) (.slice A1 n1 c1) ws ns) (h' : HubG w lo' hi' (.slice B0 m0 d0) (.slice B1 m1 d1) ws ns) (hw : Plain.smallWatS ws) (hn : Plain.smallNewS ns) :
    Calls Tryd.prog 29 #[.agg #[.slice A0 n0 c0, .slice A1 n1 c1], .agg #[.slice B0 m0 d0, .slice B1 m1 d1]] w fun e w' => e = .returned (.bool true) ∧ Below w.heap.size w w' := by
  obtain ⟨_, _, _, _, e0, e1, h1, h2, h3, h4⟩ := h.reads
  obtain ⟨_, _, _, _, f0, f1, g1, g2, g3, g4⟩ := h'.reads
  rw [e0, e1, f0, f1]
  exact eq_hub h3 h1 h4 h2 g3 g1 g4 g2 hw hn
end Go.Proofs.YtmphkhkbegihaaaDoor.HubLaw
