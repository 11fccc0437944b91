/- watchOf: contracts by hand of the closure, slices.IndexFunc and impl.watchOf. -/
import Derived.Test.YtmphkhkbegihaaaDoorLawB
import Derived.Deep.RegionLaw
import Derived.Laws.IdiomCopy
namespace Go.Proofs.YtmphkhkbegihaaaDoor.Find
open Go Go.RowKit Go.Proofs.YtmphkhkbegihaaaDoor.PHub Go.Proofs.YtmphkhkbegihaaaDoorW.PrintWords Go.Proofs.YtmphkhkbegihaaaDoor.Tree Go.Proofs.YtmphkhkbegihaaaDoor.Mark Go.Proofs.YtmphkhkbegihaaaDoor.To Go.Proofs.YtmphkhkbegihaaaDoor.Copy
set_option linter.unusedVariables false
set_option linter.unusedSimpArgs false

end Go.Proofs.YtmphkhkbegihaaaDoor.Find
namespace Go.Proofs.YtmphkhkbegihaaaDoor.Find
open Go Go.RowKit Go.Proofs.YtmphkhkbegihaaaDoor.PHub Go.Proofs.YtmphkhkbegihaaaDoorW.PrintWords Go.Proofs.YtmphkhkbegihaaaDoor.Tree Go.Proofs.YtmphkhkbegihaaaDoor.Mark Go.Proofs.YtmphkhkbegihaaaDoor.To Go.Proofs.YtmphkhkbegihaaaDoor.Copy
set_option linter.unusedVariables false
set_option linter.unusedSimpArgs false

end Go.Proofs.YtmphkhkbegihaaaDoor.Find
namespace Go.Proofs.YtmphkhkbegihaaaDoor.HubLaw
open Go Go.RowKit Go.Proofs.YtmphkhkbegihaaaDoor.PHub Go.Proofs.YtmphkhkbegihaaaDoorW.PrintWords Go.Proofs.YtmphkhkbegihaaaDoor.Tree Go.Proofs.YtmphkhkbegihaaaDoor.Mark Go.Proofs.YtmphkhkbegihaaaDoor.To Go.Proofs.YtmphkhkbegihaaaDoor.Copy Go.Proofs.YtmphkhkbegihaaaDoor.Plain Go.Proofs.YtmphkhkbegihaaaDoor.SpecP Go.Proofs.YtmphkhkbegihaaaDoor.Open
set_option linter.unusedVariables false
set_option linter.unusedSimpArgs false

/-- A hub's two rows, apart from each other, in the blocks from lo to hi. -/
def HubG (w : World) (lo hi : Nat) (v0 v1 : Value) (ws : List S76) (ns : List S87) : Prop :=
  ∃ ok0 ok1 : Nat → Prop, (∀ k, ok0 k → lo ≤ k ∧ k < hi ∧ ¬ ok1 k) ∧ (∀ k, ok1 k → lo ≤ k ∧ k < hi ∧ ¬ ok0 k) ∧
    T m76 76 w 0 ok0 v0 ws ∧ T m87 87 w 0 ok1 v1 ns
section
variable {w w1 : World} {lo hi : Nat} {v0 v1 : Value} {ws : List S76} {ns : List S87}
theorem HubG.below (h : HubG w lo hi v0 v1 ws ns) (hb : Below w.heap.size w w1) : HubG w1 lo hi v0 v1 ws ns := by
  obtain ⟨a, b, h1, h2, h4, h5⟩ := h
  exact ⟨a, b, h1, h2, T_below h4 hb, T_below h5 hb⟩
theorem HubG.tch {S : Nat → Prop} (h : HubG w lo hi v0 v1 ws ns) (ht : Tch w w1 S) (hS : ∀ k, lo ≤ k → k < hi → ¬ S k) : HubG w1 lo hi v0 v1 ws ns := by
  obtain ⟨a, b, h1, h2, h4, h5⟩ := h
  exact ⟨a, b, h1, h2, T_kept h4 ht.kept (fun k hk => hS k (h1 k hk).1 (h1 k hk).2.1), T_kept h5 ht.kept (fun k hk => hS k (h2 k hk).1 (h2 k hk).2.1)⟩
theorem HubG.reads (h : HubG w lo hi v0 v1 ws ns) : ∃ A0 c0 A1 c1, v0 = .slice A0 ws.length c0 ∧ v1 = .slice A1 ns.length c1 ∧ ws.length ≤ c0 ∧ ns.length ≤ c1 ∧ k76.C w A0 ws.length ws ∧ k87.C w A1 ns.length ns := by
  obtain ⟨a, b, h1, h2, h4, h5⟩ := h
  obtain ⟨A0, c0, e0, hc0, hr0⟩ := T_reads h4
  obtain ⟨A1, c1, e1, hc1, hr1⟩ := T_reads h5
  exact ⟨A0, c0, A1, c1, e0, e1, hc0, hc1, m_k76 hr0, m_k87 hr1⟩
end

set_option maxRecDepth 100000 in
set_option maxHeartbeats 4000000 in
theorem mark_hubG (ws : List S76) (ns : List S87) (a1 : Int) (u0 u1 : Value) (lo hi : Nat) (w : World) (h0 : 0 ≤ a1) (hb : a1 + cWatS ws + cNewS ns ≤ 4611686018427387904) (hT : HubG w lo hi u0 u1 ws ns) (hhi : hi ≤ w.heap.size) :
    Calls Tryd.prog 30 #[.agg #[u0, u1], .int .i64 a1] w fun e w' => e = .returned (.int .i64 (a1 + cWatS ws + cNewS ns)) ∧ HubG w' lo hi u0 u1 (mkWatS a1 ws) (mkNewS (a1 + cWatS ws) ns) ∧ Tch w w' (fun k => lo ≤ k ∧ k < hi) := by
  obtain ⟨ok0, ok1, g0, g1, hT0, hT1⟩ := hT
  obtain ⟨A0, c0, rfl, hc0⟩ := T_slice hT0
  obtain ⟨A1, c1, rfl, hc1⟩ := T_slice hT1
  have HT0 := Lib.hid hT0
  have HT1 := Lib.hid hT1
  clear hT0 hT1 hc0 hc1
  go_enter Tryd.func30, Tryd.ntmps30
  go_wp2_with fail
  refine (mark_Wat ws a1 _ _ _ h0 (by omega) (T_below HT0.out (below_alloc (Below.refl _ _) _))).mono ?_
  rintro e w1 ⟨rfl, hT2, ht1⟩
  have HG := Lib.hid (blk_kept (heap_alloc_new w (.cells #[.slice A0 ws.length c0, .slice A1 ns.length c1] 44)) ht1.kept (fun h => by have := (g0 _ h).2.1; omega))
  have HT2 := Lib.hid hT2
  have HT3 := Lib.hid (T_kept (T_below HT1.out (below_alloc (Below.refl _ _) (.cells #[.slice A0 ws.length c0, .slice A1 ns.length c1] 44))) ht1.kept (fun k hk hS => (g0 k hS).2.2 hk))
  have HK := Lib.hid (((Tch.refl w (fun k => lo ≤ k ∧ k < hi)).below (below_alloc (Below.refl _ _) (.cells #[.slice A0 ws.length c0, .slice A1 ns.length c1] 44))).then_ ht1 (fun k hk => .inl ⟨(g0 k hk).1, (g0 k hk).2.1⟩))
  have hx1 := blk_cell HG.out 1
  simp only [List.getElem?_toArray, List.getElem?_cons_zero, List.getElem?_cons_succ] at hx1
  clear hT2 ht1
  go_wp2_with fail
  refine (mark_New ns (a1 + cWatS ws) _ _ _ (by omega) (by omega) HT3.out).mono ?_
  rintro e w2 ⟨rfl, hT4, ht2⟩
  have HT5 := Lib.hid hT4
  have HT6 := Lib.hid (T_kept HT2.out ht2.kept (fun k hk hS => (g1 k hS).2.2 hk))
  have HK2 := Lib.hid (HK.out.then_ ht2 (fun k hk => .inl ⟨(g1 k hk).1, (g1 k hk).2.1⟩))
  clear hT4 ht2 hx1
  go_wp2_with fail
  go_ret
  exact ⟨rfl, ⟨ok0, ok1, g0, g1, HT6.out, HT5.out⟩, HK2.out⟩

/-! ### at the law's places -/
section
variable {w : World} {lo hi lo' hi' : Nat} {ws : List S76} {ns : List S87} {A0 A1 B0 B1 : Option Addr} {n0 n1 m0 m1 c0 c1 d0 d1 : Nat}
theorem held_hubG {a : Int} (h : HubG w lo hi (.slice A0 n0 c0) (.slice A1 n1 c1) (mkWatS a ws) (mkNewS (a + cWatS ws) ns)) (h0 : 0 ≤ a) (hb : a + cWatS ws + cNewS ns ≤ 4611686018427387904) :
    Calls Tryd.prog 31 #[.agg #[.slice A0 n0 c0, .slice A1 n1 c1], .int .i64 a] w fun e w' => e = .returned (.int .i64 (a + cWatS ws + cNewS ns)) ∧ Below w.heap.size w w' := by
  obtain ⟨k, hk⟩ := (heldHub_ev ws ns a h0 hb).rounds
  obtain ⟨_, _, _, _, e0, e1, h1, h2, h3, h4⟩ := h.reads
  rw [e0, e1]
  exact laws_heldHub.calls k _ _ _ _ _ _ _ _ w h3 h1 h4 h2 hk
end
end Go.Proofs.YtmphkhkbegihaaaDoor.HubLaw
