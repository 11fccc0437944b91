/- What the hub laws share beside the walks. -/
import Derived.Test.YtmphkhkbegihaaaDoorLaw
namespace Go.Proofs.YtmphkhkbegihaaaDoor.HubLaw
open Go Go.RowKit Go.Proofs.YtmphkhkbegihaaaDoor.PHub Go.Proofs.YtmphkhkbegihaaaDoorW.PrintWords Go.Proofs.YtmphkhkbegihaaaDoor.Tree Go.Proofs.YtmphkhkbegihaaaDoor.Mark Go.Proofs.YtmphkhkbegihaaaDoor.To Go.Proofs.YtmphkhkbegihaaaDoor.Copy Go.Proofs.YtmphkhkbegihaaaDoor.Plain Go.Proofs.YtmphkhkbegihaaaDoor.SpecP Go.Proofs.YtmphkhkbegihaaaDoor.Open
set_option linter.unusedVariables false
set_option linter.unusedSimpArgs false

theorem below_tch {w W W1 : World} {S : Nat → Prop} (h : Below w.heap.size w W) (ht : Tch W W1 S) (hS : ∀ k, S k → w.heap.size ≤ k) : Below w.heap.size w W1 :=
  ⟨ht.os.trans h.os, ht.tape.trans h.tape, ht.output.trans h.output, Nat.le_trans h.size ht.kept.1, fun k hk => (ht.kept.2 k (Nat.lt_of_lt_of_le hk h.size) (fun hs => by have := hS k hs; omega)).trans (h.block k hk)⟩
def bdHub (l0 : List S105) (l1 : List S107) : Prop := ((∀ x ∈ l0, bdWat x) ∧ l0.length ≤ 9223372036854775807) ∧ ((∀ x ∈ l1, bdNew x) ∧ l1.length ≤ 9223372036854775807)
theorem szHub_tells (l0 : List S105) (l1 : List S107) (hb : bdHub l0 l1) : ∃ r, Ev (fun k => laws_szHub.f k l0 l1 1048576) r ∧ (r < 0 ∨ (0 ≤ r ∧ r + (wWatS l0 : Nat) + (wNewS l1 : Nat) ≤ 1048576 ∧ okWatS l0 ∧ okNewS l1)) := by
  obtain ⟨r0, e0, g0⟩ := szWatS_tells l0 hb.1 1048576 (by omega) (by omega)
  by_cases c : r0 < 0
  · refine ⟨-1, Ev.bind e0 ?_, .inl (by omega)⟩
    simpa [c] using Ev.now (-1 : Int)
  · rcases g0 with g0 | g0
    · exact absurd g0 c
    · obtain ⟨r1, e1, g1⟩ := szNewS_tells l1 hb.2 r0 g0.1 (by omega)
      refine ⟨if r1 < 0 then -1 else r1, Ev.bind e0 ?_, ?_⟩
      · simp only [if_neg c]
        refine Ev.bind e1 ?_
        by_cases c1 : r1 < 0
        · simpa [c1] using Ev.now (-1 : Int)
        · simpa [c1] using Ev.now r1
      · rcases g1 with g1 | g1
        · left; rw [if_pos g1]; omega
        · right; rw [if_neg (by omega)]; exact ⟨g1.1, by omega, g0.2.2, g1.2.2⟩
theorem fit_news (l : List S107) (h : okNewS l) : fitNewS (cvNewS l) := by
  refine ⟨by simpa [cvNewS] using h.1, fun x hx => ?_⟩
  obtain ⟨y, hy, rfl⟩ := List.mem_map.1 hx
  exact h.2 y hy
theorem fit_msgs (l : List S140) (h : okMsgS l) : fitMsgS (cvMsgS l) := by
  refine ⟨by simpa [cvMsgS] using h.1, fun x hx => ?_⟩
  obtain ⟨y, hy, rfl⟩ := List.mem_map.1 hx
  exact h.2 y hy
theorem fit_watches (l : List S105) (h : okWatS l) : fitWatS (cvWatS l) := by
  refine ⟨by simpa [cvWatS] using h.1, fun x hx => ?_⟩
  obtain ⟨y, hy, rfl⟩ := List.mem_map.1 hx
  exact fit_msgs _ (h.2 y hy)
theorem small_msgs (l : List S112) (h : fitMsgS l) : smallMsgS l := ⟨by have := h.1; omega, fun x hx => by have := h.2 x hx; show x.f1.length ≤ _; omega⟩
theorem small_watches (l : List S76) (h : fitWatS l) : smallWatS l := ⟨by have := h.1; omega, fun x hx => small_msgs _ (h.2 x hx)⟩
theorem small_news (l : List S87) (h : fitNewS l) : smallNewS l := ⟨by have := h.1; omega, fun x hx => by have := h.2 x hx; show x.f1.length ≤ _; omega⟩
theorem eqHub_ev (ws : List S76) (ns : List S87) (h0 : smallWatS ws) (h1 : smallNewS ns) : Ev (fun k => laws_eqHub.f k ws ns ws ns) true := by
  refine Ev.bind (eqWatS_refl ws h0) ?_
  have e : (fun n => if (true : Bool) = true then (laws_eqNewsS.f n ns ns).bind fun t => if t = true then some true else some false else some false) = fun n => (laws_eqNewsS.f n ns ns).bind fun t => if t = true then some true else some false := by
    funext n
    rw [if_pos rfl]
  show Ev (fun n => if (true : Bool) = true then (laws_eqNewsS.f n ns ns).bind fun t => if t = true then some true else some false else some false) true
  rw [e]
  refine Ev.bind (eqNewS_refl ns h1) ?_
  simpa using Ev.now true
theorem heldHub_ev (ws : List S76) (ns : List S87) (a : Int) (h0 : 0 ≤ a) (hb : a + cWatS ws + cNewS ns ≤ 4611686018427387904) :
    Ev (fun k => laws_heldHub.f k (mkWatS a ws) (mkNewS (a + cWatS ws) ns) a) (a + cWatS ws + cNewS ns) := by
  have hl0 := lenWatS_le ws
  have hl1 := lenNewS_le ns
  refine Ev.bind (heldWatS_tells ws a h0 (by omega) (by omega)) ?_
  have hn : ¬ (a + ((cWatS ws : Nat) : Int) < 0) := by omega
  have hn2 : ¬ (a + ((cWatS ws : Nat) : Int) + ((cNewS ns : Nat) : Int) < 0) := by omega
  simp only [if_neg hn]
  refine Ev.bind (heldNewS_tells ns _ (by omega) (by omega) (by omega)) ?_
  simp only [if_neg hn2]
  exact Ev.now _
/-! ### the printed contracts at the law's own places -/
theorem eq_hub {ws : List S76} {ns : List S87} {A0 A1 B0 B1 : Option Addr} {c0 c1 d0 d1 : Nat} {w : World} (hr0 : k76.C w A0 ws.length ws) (hc0 : ws.length ≤ c0) (hr1 : k87.C w A1 ns.length ns) (hc1 : ns.length ≤ c1) (hs0 : k76.C w B0 ws.length ws) (hd0 : ws.length ≤ d0) (hs1 : k87.C w B1 ns.length ns) (hd1 : ns.length ≤ d1) (hw : smallWatS ws) (hn : smallNewS ns) :
    Calls Tryd.prog 29 #[.agg #[.slice A0 ws.length c0, .slice A1 ns.length c1], .agg #[.slice B0 ws.length d0, .slice B1 ns.length d1]] w fun e w' => e = .returned (.bool true) ∧ Below w.heap.size w w' := by
  obtain ⟨k, hk⟩ := (eqHub_ev ws ns hw hn).rounds
  exact laws_eqHub.calls k _ _ _ _ _ _ _ _ _ _ _ _ _ w hr0 hc0 hr1 hc1 hs0 hd0 hs1 hd1 hk
theorem eq_hubTT {ws : List S76} {ns : List S87} {A0 A1 B0 B1 : Option Addr} {n0 n1 m0 m1 c0 c1 d0 d1 lo hi lo' hi' : Nat} {w : World} (h : HubT w lo hi (.slice A0 n0 c0) (.slice A1 n1 c1) ws ns) (h' : HubT w lo' hi' (.slice B0 m0 d0) (.slice B1 m1 d1) ws ns) (hw : smallWatS ws) (hn : smallNewS ns) :
    Calls Tryd.prog 29 #[.agg #[.slice A0 n0 c0, .slice A1 n1 c1], .agg #[.slice B0 m0 d0, .slice B1 m1 d1]] w fun e w' => e = .returned (.bool true) ∧ Below w.heap.size w w' := by
  obtain ⟨_, _, _, _, e0, e1, h1, h2, h3, h4⟩ := h.reads
  obtain ⟨_, _, _, _, f0, f1, g1, g2, g3, g4⟩ := h'.reads
  rw [e0, e1, f0, f1]
  exact eq_hub h3 h1 h4 h2 g3 g1 g4 g2 hw hn
end Go.Proofs.YtmphkhkbegihaaaDoor.HubLaw
