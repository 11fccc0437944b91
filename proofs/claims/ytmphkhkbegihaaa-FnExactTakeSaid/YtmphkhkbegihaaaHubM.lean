/- A hub and a message of one's own beside it: what the laws of Take tell of them. -/
import Derived.Test.YtmphkhkbegihaaaLawB
import Derived.Test.YtmphkhkbegihaaaRing
namespace Go.Proofs.Ytmphkhkbegihaaa.HubLaw
open Go Go.RowKit Go.Proofs.Ytmphkhkbegihaaa.PHub Go.Proofs.YtmphkhkbegihaaaW.PrintWords Go.Proofs.Ytmphkhkbegihaaa.Tree Go.Proofs.Ytmphkhkbegihaaa.Mark Go.Proofs.Ytmphkhkbegihaaa.To Go.Proofs.Ytmphkhkbegihaaa.Copy Go.Proofs.Ytmphkhkbegihaaa.Plain Go.Proofs.Ytmphkhkbegihaaa.SpecP Go.Proofs.Ytmphkhkbegihaaa.Open
set_option linter.unusedVariables false
set_option linter.unusedSimpArgs false

/-- Three rows (a hub's two and a message's pointers), apart from each other, in the blocks from lo to hi. -/
def HubM (w : World) (lo hi : Nat) (v0 v1 u1 : Value) (ws : List S65) (ns : List S53) (ps : List ByteArray) : Prop :=
  ∃ ok0 ok1 ok2 : Nat → Prop, (∀ k, ok0 k → lo ≤ k ∧ k < hi ∧ ¬ ok1 k ∧ ¬ ok2 k) ∧ (∀ k, ok1 k → lo ≤ k ∧ k < hi ∧ ¬ ok0 k ∧ ¬ ok2 k) ∧ (∀ k, ok2 k → lo ≤ k ∧ k < hi ∧ ¬ ok0 k ∧ ¬ ok1 k) ∧
    T m65 65 w 0 ok0 v0 ws ∧ T m53 53 w 0 ok1 v1 ns ∧ T Kd.string 9 w 0 ok2 u1 ps
section
variable {w w1 : World} {lo hi : Nat} {v0 v1 u1 : Value} {ws : List S65} {ns : List S53} {ps : List ByteArray}
theorem HubM.below (h : HubM w lo hi v0 v1 u1 ws ns ps) (hb : Below w.heap.size w w1) : HubM w1 lo hi v0 v1 u1 ws ns ps := by
  obtain ⟨a, b, c, h1, h2, h3, h4, h5, h6⟩ := h
  exact ⟨a, b, c, h1, h2, h3, T_below h4 hb, T_below h5 hb, T_below h6 hb⟩
theorem HubM.tch {S : Nat → Prop} (h : HubM w lo hi v0 v1 u1 ws ns ps) (ht : Tch w w1 S) (hS : ∀ k, lo ≤ k → k < hi → ¬ S k) : HubM w1 lo hi v0 v1 u1 ws ns ps := by
  obtain ⟨a, b, c, h1, h2, h3, h4, h5, h6⟩ := h
  exact ⟨a, b, c, h1, h2, h3, T_kept h4 ht.kept (fun k hk => hS k (h1 k hk).1 (h1 k hk).2.1), T_kept h5 ht.kept (fun k hk => hS k (h2 k hk).1 (h2 k hk).2.1), T_kept h6 ht.kept (fun k hk => hS k (h3 k hk).1 (h3 k hk).2.1)⟩
theorem HubM.reads (h : HubM w lo hi v0 v1 u1 ws ns ps) : ∃ A0 c0 A1 c1 A2 c2, v0 = .slice A0 ws.length c0 ∧ v1 = .slice A1 ns.length c1 ∧ u1 = .slice A2 ps.length c2 ∧ ws.length ≤ c0 ∧ ns.length ≤ c1 ∧ ps.length ≤ c2 ∧ k65.C w A0 ws.length ws ∧ k53.C w A1 ns.length ns ∧ Kd.string.C w A2 ps.length ps := by
  obtain ⟨a, b, c, h1, h2, h3, h4, h5, h6⟩ := h
  obtain ⟨A0, c0, e0, hc0, hr0⟩ := T_reads h4
  obtain ⟨A1, c1, e1, hc1, hr1⟩ := T_reads h5
  obtain ⟨A2, c2, e2, hc2, hr2⟩ := T_reads h6
  exact ⟨A0, c0, A1, c1, A2, c2, e0, e1, e2, hc0, hc1, hc2, m_k65 hr0, m_k53 hr1, hr2⟩
end
/-- The spec's answer: nothing is told of how its rows lie to each other. -/
def HubN (w : World) (lo hi : Nat) (v0 v1 u1 : Value) (ws : List S65) (ns : List S53) (ps : List ByteArray) : Prop :=
  HubR w lo hi v0 v1 ws ns ∧ Kd.R Kd.string 9 w 0 (fun k => lo ≤ k ∧ k < hi) u1 ps
section
variable {w w1 : World} {lo hi : Nat} {v0 v1 u1 : Value} {ws : List S65} {ns : List S53} {ps : List ByteArray}
theorem HubN.below (h : HubN w lo hi v0 v1 u1 ws ns ps) (hb : Below w.heap.size w w1) : HubN w1 lo hi v0 v1 u1 ws ns ps := ⟨h.1.below hb, Kd.R_below h.2 hb⟩
theorem HubN.tch {S : Nat → Prop} (h : HubN w lo hi v0 v1 u1 ws ns ps) (ht : Tch w w1 S) (hS : ∀ k, lo ≤ k → k < hi → ¬ S k) : HubN w1 lo hi v0 v1 u1 ws ns ps :=
  ⟨h.1.tch ht hS, Kd.R_kept h.2 ht.kept (fun k hk => hS k hk.1 hk.2)⟩
theorem HubN.reads (h : HubN w lo hi v0 v1 u1 ws ns ps) : ∃ A0 c0 A1 c1 A2 c2, v0 = .slice A0 ws.length c0 ∧ v1 = .slice A1 ns.length c1 ∧ u1 = .slice A2 ps.length c2 ∧ ws.length ≤ c0 ∧ ns.length ≤ c1 ∧ ps.length ≤ c2 ∧ k65.C w A0 ws.length ws ∧ k53.C w A1 ns.length ns ∧ Kd.string.C w A2 ps.length ps := by
  obtain ⟨A0, c0, A1, c1, e0, e1, hc0, hc1, hr0, hr1⟩ := h.1.reads
  obtain ⟨A2, c2, e2, hc2, hr2⟩ := Kd.R_reads h.2
  exact ⟨A0, c0, A1, c1, A2, c2, e0, e1, e2, hc0, hc1, hc2, hr0, hr1, hr2⟩
end

set_option maxRecDepth 100000 in
set_option maxHeartbeats 4000000 in
theorem mark_hubM {ps : List ByteArray} (ws : List S65) (ns : List S53) (a1 : Int) (u0 u1 u2 : Value) (lo hi : Nat) (w : World) (h0 : 0 ≤ a1) (hb : a1 + cWatS ws + cNewS ns ≤ 4611686018427387904) (hT : HubM w lo hi u0 u1 u2 ws ns ps) (hhi : hi ≤ w.heap.size) :
    Calls Try.prog 14 #[.agg #[u0, u1], .int .i64 a1] w fun e w' => e = .returned (.int .i64 (a1 + cWatS ws + cNewS ns)) ∧ HubM w' lo hi u0 u1 u2 (mkWatS a1 ws) (mkNewS (a1 + cWatS ws) ns) ps ∧ Tch w w' (fun k => lo ≤ k ∧ k < hi) := by
  obtain ⟨ok0, ok1, ok2, g0, g1, g2, hT0, hT1, hTp⟩ := hT
  obtain ⟨A0, c0, rfl, hc0⟩ := T_slice hT0
  obtain ⟨A1, c1, rfl, hc1⟩ := T_slice hT1
  have HT0 := Lib.hid hT0
  have HT1 := Lib.hid hT1
  have HTp := Lib.hid hTp
  clear hT0 hT1 hTp hc0 hc1
  go_enter Try.func14, Try.ntmps14
  go_wp2_with fail
  refine (mark_Wat ws a1 _ _ _ h0 (by omega) (T_below HT0.out (below_alloc (Below.refl _ _) _))).mono ?_
  rintro e w1 ⟨rfl, hT2, ht1⟩
  have HG := Lib.hid (blk_kept (heap_alloc_new w (.cells #[.slice A0 ws.length c0, .slice A1 ns.length c1] 32)) ht1.kept (fun h => by have := (g0 _ h).2.1; omega))
  have HT2 := Lib.hid hT2
  have HT3 := Lib.hid (T_kept (T_below HT1.out (below_alloc (Below.refl _ _) (.cells #[.slice A0 ws.length c0, .slice A1 ns.length c1] 32))) ht1.kept (fun k hk hS => (g0 k hS).2.2.1 hk))
  have HT4 := Lib.hid (T_kept (T_below HTp.out (below_alloc (Below.refl _ _) (.cells #[.slice A0 ws.length c0, .slice A1 ns.length c1] 32))) ht1.kept (fun k hk hS => (g0 k hS).2.2.2 hk))
  have HK := Lib.hid (((Tch.refl w (fun k => lo ≤ k ∧ k < hi)).below (below_alloc (Below.refl _ _) (.cells #[.slice A0 ws.length c0, .slice A1 ns.length c1] 32))).then_ ht1 (fun k hk => .inl ⟨(g0 k hk).1, (g0 k hk).2.1⟩))
  have hx1 := blk_cell HG.out 1
  simp only [List.getElem?_toArray, List.getElem?_cons_zero, List.getElem?_cons_succ] at hx1
  clear hT2 ht1
  go_wp2_with fail
  refine (mark_New ns (a1 + cWatS ws) _ _ _ (by omega) (by omega) HT3.out).mono ?_
  rintro e w2 ⟨rfl, hT4, ht2⟩
  have HT5 := Lib.hid hT4
  have HT6 := Lib.hid (T_kept HT2.out ht2.kept (fun k hk hS => (g1 k hS).2.2.1 hk))
  have HT7 := Lib.hid (T_kept HT4.out ht2.kept (fun k hk hS => (g1 k hS).2.2.2 hk))
  have HK2 := Lib.hid (HK.out.then_ ht2 (fun k hk => .inl ⟨(g1 k hk).1, (g1 k hk).2.1⟩))
  clear hT4 ht2 hx1
  go_wp2_with fail
  go_ret
  exact ⟨rfl, ⟨ok0, ok1, ok2, g0, g1, g2, HT6.out, HT5.out, HT7.out⟩, HK2.out⟩

set_option maxRecDepth 100000 in
set_option maxHeartbeats 4000000 in
theorem mark_msgM {ps : List ByteArray} {ws : List S65} {ns : List S53} (f0 : Int) (f2 : Bool) (a1 : Int) (u0 u1 u2 : Value) (lo hi : Nat) (w : World) (h0 : 0 ≤ a1) (hb : a1 + ps.length ≤ 4611686018427387904) (hT : HubM w lo hi u0 u1 u2 ws ns ps) (hhi : hi ≤ w.heap.size) :
    Calls Try.prog 22 #[.agg #[.int .i64 f0, u2, .bool f2], .int .i64 a1] w fun e w' => e = .returned (.int .i64 (a1 + ps.length)) ∧ HubM w' lo hi u0 u1 u2 ws ns (mkStr a1 ps) ∧ Tch w w' (fun k => lo ≤ k ∧ k < hi) := by
  obtain ⟨ok0, ok1, ok2, g0, g1, g2, hT0, hT1, hTp⟩ := hT
  obtain ⟨A2, c2, rfl, hc2⟩ := T_slice hTp
  have HT0 := Lib.hid hT0
  have HT1 := Lib.hid hT1
  have HTp := Lib.hid hTp
  clear hT0 hT1 hTp hc2
  go_enter Try.func22, Try.ntmps22
  go_wp2_with fail
  refine (mark_str ps a1 _ _ _ h0 (by omega) (T_below HTp.out (below_alloc (Below.refl _ _) _))).mono ?_
  rintro e w1 ⟨rfl, hT2, ht1⟩
  have HT2 := Lib.hid hT2
  have HT3 := Lib.hid (T_kept (T_below HT0.out (below_alloc (Below.refl _ _) (.cells #[.int .i64 f0, .slice A2 ps.length c2, .bool f2] 44))) ht1.kept (fun k hk hS => (g2 k hS).2.2.1 hk))
  have HT4 := Lib.hid (T_kept (T_below HT1.out (below_alloc (Below.refl _ _) (.cells #[.int .i64 f0, .slice A2 ps.length c2, .bool f2] 44))) ht1.kept (fun k hk hS => (g2 k hS).2.2.2 hk))
  have HK := Lib.hid (((Tch.refl w (fun k => lo ≤ k ∧ k < hi)).below (below_alloc (Below.refl _ _) (.cells #[.int .i64 f0, .slice A2 ps.length c2, .bool f2] 44))).then_ ht1 (fun k hk => .inl ⟨(g2 k hk).1, (g2 k hk).2.1⟩))
  clear hT2 ht1
  go_wp2_with fail
  go_ret
  exact ⟨rfl, ⟨ok0, ok1, ok2, g0, g1, g2, HT3.out, HT4.out, HT2.out⟩, HK.out⟩

set_option maxRecDepth 100000 in
set_option maxHeartbeats 4000000 in
theorem held_msg (f0 : Int) (f2 : Bool) (ps : List ByteArray) (a1 : Int) (A : Option Addr) (c : Nat) (w : World) (h0 : 0 ≤ a1) (hb : a1 + ps.length ≤ 4611686018427387904) (hr : Kd.C Kd.string w A (mkStr a1 ps).length (mkStr a1 ps)) (hc : (mkStr a1 ps).length ≤ c) :
    Calls Try.prog 23 #[.agg #[.int .i64 f0, .slice A (mkStr a1 ps).length c, .bool f2], .int .i64 a1] w fun e w' => e = .returned (.int .i64 (a1 + ps.length)) ∧ Below w.heap.size w w' := by
  obtain ⟨k, hk⟩ := (heldStr_tells ps a1 h0 hb (by omega)).rounds
  have HR := Lib.hid (Kd.C_below hr (below_alloc (Below.refl _ _) (.cells #[.int .i64 f0, .slice A (mkStr a1 ps).length c, .bool f2] 44)))
  have HC := Lib.hid hc
  have HK := Lib.hid hk
  have hneg : ¬ (a1 + (ps.length : Int) < 0) := by omega
  clear hr hc hk
  go_enter Try.func23, Try.ntmps23
  go_wp2_with fail
  refine (laws_heldStringS.calls k _ _ _ _ _ _ HR.out HC.out HK.out).mono ?_
  rintro e w1 ⟨rfl, hb1⟩
  have HB := Lib.hid (below_then (below_alloc (Below.refl w.heap.size w) (.cells #[.int .i64 f0, .slice A (mkStr a1 ps).length c, .bool f2] 44)) (by simp) hb1)
  clear hb1
  go_wp2_with fail
  go_ret
  exact ⟨rfl, HB.out⟩

/-! ### at the law's places -/
theorem eq_msg {f0 : Int} {f2 : Bool} {ps : List ByteArray} {A B : Option Addr} {c d : Nat} {w : World} (hr : Kd.C Kd.string w A ps.length ps) (hc : ps.length ≤ c) (hs : Kd.C Kd.string w B ps.length ps) (hd : ps.length ≤ d) (hl : ps.length ≤ 4611686018427387904) :
    Calls Try.prog 21 #[.agg #[.int .i64 f0, .slice A ps.length c, .bool f2], .agg #[.int .i64 f0, .slice B ps.length d, .bool f2]] w fun e w' => e = .returned (.bool true) ∧ Below w.heap.size w w' := by
  obtain ⟨k, hk⟩ := (eqMsg_refl ⟨f0, ps, f2⟩ hl).rounds
  exact laws_eqMessage.calls k _ _ _ _ _ _ _ _ _ _ _ w hr hc hs hd hk
section
variable {w : World} {lo hi lo' hi' : Nat} {ws : List S65} {ns : List S53} {ps : List ByteArray} {A0 A1 A2 B0 B1 B2 : Option Addr} {n0 n1 n2 m0 m1 m2 c0 c1 c2 d0 d1 d2 : Nat}
theorem eq_hubMN (h : HubM w lo hi (.slice A0 n0 c0) (.slice A1 n1 c1) (.slice A2 n2 c2) ws ns ps) (h' : HubN w lo' hi' (.slice B0 m0 d0) (.slice B1 m1 d1) (.slice B2 m2 d2) ws ns ps) (hw : smallWatS ws) (hn : smallNewS ns) :
    Calls Try.prog 12 #[.agg #[.slice A0 n0 c0, .slice A1 n1 c1], .agg #[.slice B0 m0 d0, .slice B1 m1 d1]] w fun e w' => e = .returned (.bool true) ∧ Below w.heap.size w w' := by
  obtain ⟨_, _, _, _, _, _, e0, e1, _, h1, h2, _, h3, h4, _⟩ := h.reads
  obtain ⟨_, _, _, _, _, _, f0, f1, _, g1, g2, _, g3, g4, _⟩ := h'.reads
  rw [e0, e1, f0, f1]
  exact eq_hub h3 h1 h4 h2 g3 g1 g4 g2 hw hn
theorem eq_msgMN {f0 : Int} {f2 : Bool} (h : HubM w lo hi (.slice A0 n0 c0) (.slice A1 n1 c1) (.slice A2 n2 c2) ws ns ps) (h' : HubN w lo' hi' (.slice B0 m0 d0) (.slice B1 m1 d1) (.slice B2 m2 d2) ws ns ps) (hl : ps.length ≤ 4611686018427387904) :
    Calls Try.prog 21 #[.agg #[.int .i64 f0, .slice A2 n2 c2, .bool f2], .agg #[.int .i64 f0, .slice B2 m2 d2, .bool f2]] w fun e w' => e = .returned (.bool true) ∧ Below w.heap.size w w' := by
  obtain ⟨_, _, _, _, _, _, _, _, e2, _, _, h1, _, _, h2⟩ := h.reads
  obtain ⟨_, _, _, _, _, _, _, _, f2, _, _, g1, _, _, g2⟩ := h'.reads
  rw [e2, f2]
  exact eq_msg h2 h1 g2 g1 hl
theorem held_hubM {a : Int} (h : HubM w lo hi (.slice A0 n0 c0) (.slice A1 n1 c1) (.slice A2 n2 c2) (mkWatS a ws) (mkNewS (a + cWatS ws) ns) ps) (h0 : 0 ≤ a) (hb : a + cWatS ws + cNewS ns ≤ 4611686018427387904) :
    Calls Try.prog 16 #[.agg #[.slice A0 n0 c0, .slice A1 n1 c1], .int .i64 a] w fun e w' => e = .returned (.int .i64 (a + cWatS ws + cNewS ns)) ∧ Below w.heap.size w w' := by
  obtain ⟨k, hk⟩ := (heldHub_ev ws ns a h0 hb).rounds
  obtain ⟨_, _, _, _, _, _, e0, e1, _, h1, h2, _, h3, h4, _⟩ := h.reads
  rw [e0, e1]
  exact laws_heldHub.calls k _ _ _ _ _ _ _ _ w h3 h1 h4 h2 hk
theorem held_msgM {a f0 : Int} {f2 : Bool} (h : HubM w lo hi (.slice A0 n0 c0) (.slice A1 n1 c1) (.slice A2 n2 c2) ws ns (mkStr a ps)) (h0 : 0 ≤ a) (hb : a + ps.length ≤ 4611686018427387904) :
    Calls Try.prog 23 #[.agg #[.int .i64 f0, .slice A2 n2 c2, .bool f2], .int .i64 a] w fun e w' => e = .returned (.int .i64 (a + ps.length)) ∧ Below w.heap.size w w' := by
  obtain ⟨_, _, _, _, _, _, _, _, e2, _, _, h1, _, _, h2⟩ := h.reads
  rw [e2]
  exact held_msg f0 f2 ps a _ _ w h0 hb h2 h1
end
end Go.Proofs.Ytmphkhkbegihaaa.HubLaw
