/- spec.Dispatch: its contract by hand. -/
import Derived.Test.YtmphkhkbegihaaaDoorSpecK
import Derived.Test.YtmphkhkbegihaaaDoorSpecL
namespace Go.Proofs.YtmphkhkbegihaaaDoor.HubLaw
open Go Go.RowKit Go.Proofs.YtmphkhkbegihaaaDoor.PHub Go.Proofs.YtmphkhkbegihaaaDoorW.PrintWords Go.Proofs.YtmphkhkbegihaaaDoor.Tree Go.Proofs.YtmphkhkbegihaaaDoor.Mark Go.Proofs.YtmphkhkbegihaaaDoor.To Go.Proofs.YtmphkhkbegihaaaDoor.Copy Go.Proofs.YtmphkhkbegihaaaDoor.Plain Go.Proofs.YtmphkhkbegihaaaDoor.SpecP Go.Proofs.YtmphkhkbegihaaaDoor.Open Go.Proofs.YtmphkhkbegihaaaDoor.Find Go.Proofs.YtmphkhkbegihaaaDoor.Tok Go.Proofs.YtmphkhkbegihaaaDoor.Near Go.Proofs.YtmphkhkbegihaaaDoor.Tell
set_option linter.unusedVariables false
set_option linter.unusedSimpArgs false

theorem set6 {w : World} {g o t : Nat} {cur : Array Value} (h : w.heap[g]? = some (.cells cur t (0, 0))) (v0 v1 v2 v3 v4 v5 : Value) (hs : o + 6 ≤ cur.size) : ∃ cur1, ((((((w.setCell ⟨g, o, none⟩ v0).setCell ⟨g, o + 1, none⟩ v1).setCell ⟨g, o + 2, none⟩ v2).setCell ⟨g, o + 3, none⟩ v3).setCell ⟨g, o + 4, none⟩ v4).setCell ⟨g, o + 5, none⟩ v5).heap[g]? = some (.cells cur1 t (0, 0)) ∧ cur1.size = cur.size ∧ (∀ p, p < o ∨ o + 6 ≤ p → cur1[p]? = cur[p]?) ∧ cut cur1 o 6 = [v0, v1, v2, v3, v4, v5] := by
  refine ⟨((((((cur.setIfInBounds (o) v0).setIfInBounds (o + 1) v1).setIfInBounds (o + 2) v2).setIfInBounds (o + 3) v3).setIfInBounds (o + 4) v4).setIfInBounds (o + 5) v5), (blk_set (blk_set (blk_set (blk_set (blk_set (blk_set h _ v0) _ v1) _ v2) _ v3) _ v4) _ v5), by simp, fun p hp => ?_, ?_⟩
  · simp only [Array.getElem?_setIfInBounds]
    repeat rw [if_neg (by omega)]
  · apply List.ext_getElem?
    intro j
    rw [cut_get]
    by_cases hj : j < 6
    · rw [if_pos hj]
      have : j = 0 ∨ j = 1 ∨ j = 2 ∨ j = 3 ∨ j = 4 ∨ j = 5 := by omega
      rcases this with rfl | rfl | rfl | rfl | rfl | rfl <;> simp [Array.getElem?_setIfInBounds] <;> omega
    · rw [if_neg hj]
      rw [List.getElem?_eq_none (by simp; omega)]
set_option maxHeartbeats 4000000 in
theorem spec_end (ws : List S76) (t : List S87) (n : S87) (x : S76) (i : Nat) (A0 A1 AW AN A7 : Option Addr) (c0 c1 cW cN c7 gW oW : Nat) (curW : Array Value) (okA okB FW : Nat → Prop) (w w1 wL wr w6 : World) (bs : Nat)
    (hx : ws[i]? = some x) (hi : i < ws.length) (h100 : (i : Int) < 100) (hA : ∀ k, okA k → w.heap.size + 2 ≤ k ∧ ¬ okB k) (hzl : wL.heap.size = w1.heap.size + 1) (hz1 : w.heap.size + 2 ≤ w1.heap.size) (hz : wL.heap.size ≤ wr.heap.size)
    (hsz6 : oW + i * ms76.sz + ms76.sz ≤ curW.size)
    (hFk : ∀ k, FW k → (((okA k ∧ k < w1.heap.size) ∨ wL.heap.size ≤ k) ∧ k < wr.heap.size) ∧ k ≠ gW) (hgk : ((okA gW ∧ gW < w1.heap.size) ∨ wL.heap.size ≤ gW) ∧ gW < wr.heap.size)
    (hback : ∀ (w1_1 : World) (cur1 : Array Value) (x1 : S76) (F1 ok1 : Nat → Prop), w1_1.heap[gW]? = some (.cells cur1 76 (0, 0)) → cur1.size = curW.size →
        (∀ p, p < oW + i * ms76.sz ∨ oW + i * ms76.sz + ms76.sz ≤ p → cur1[p]? = curW[p]?) → (∀ k, k < wr.heap.size → (((okA k ∧ k < w1.heap.size) ∨ wL.heap.size ≤ k) ∧ k < wr.heap.size) → k ≠ gW → ¬ FW k → w1_1.heap[k]? = wr.heap[k]?) → (∀ k, (((okA k ∧ k < w1.heap.size) ∨ wL.heap.size ≤ k) ∧ k < wr.heap.size) → ok1 k) →
        (∀ k, F1 k → (FW k ∨ wr.heap.size ≤ k ∨ ¬ (((okA k ∧ k < w1.heap.size) ∨ wL.heap.size ≤ k) ∧ k < wr.heap.size)) ∧ ok1 k ∧ k ≠ gW) → ms76.M w1_1 w.heap.size F1 x1 (cut cur1 (oW + i * ms76.sz) ms76.sz) → T ms76 76 w1_1 w.heap.size ok1 (.slice (some ⟨gW, oW, none⟩) ws.length cW) ((tellI n.f0 n.f1 i ws).set i x1))
    (hTN : T k87 87 wr bs (fun k => okB k ∧ k < w1.heap.size) (.slice AN t.length cN) t)
    (hG1 : wr.heap[w.heap.size]? = some (.cells #[.slice A0 ws.length c0, .slice A1 (t.length + 1) c1] 44 (0, 0)))
    (hG2 : wr.heap[w.heap.size + 1]? = some (.cells #[.slice none 0 0, .slice none 0 0] 44 (0, 0)))
    (hG4 : wr.heap[w1.heap.size]? = some (.cells #[.slice AW ws.length cW, .slice AN t.length cN] 44 (0, 0))) (hB : Below w.heap.size w wr)
    (hrw : w6.heap[gW]? = some (.cells curW 76 (0, 0))) (hS6 : Kd.S k112 112 w6 w.heap.size (fun k => FW k ∨ wr.heap.size ≤ k) (.slice A7 (tellF x n.f0 n.f1).f5.length c7) (tellF x n.f0 n.f1).f5) (hT6 : Tch wr w6 FW) :
    Hid (i + 1 ≤ min ws.length 100) ∧ Hid (T ms76 76 ((((((w6.setCell ⟨gW, oW + i * 6, none⟩ (.int .i64 x.f0)).setCell ⟨gW, oW + i * 6 + 1, none⟩ (.string x.f1)).setCell ⟨gW, oW + i * 6 + 2, none⟩ (.int .i64 x.f2)).setCell ⟨gW, oW + i * 6 + 3, none⟩ (.int .i64 x.f3)).setCell ⟨gW, oW + i * 6 + 4, none⟩ (.bool (tellF x n.f0 n.f1).f4)).setCell ⟨gW, oW + i * 6 + 5, none⟩ (.slice A7 (tellF x n.f0 n.f1).f5.length c7)) w.heap.size (fun k => ((okA k ∧ k < w1.heap.size) ∨ wL.heap.size ≤ k) ∧ k < (((((((w6.setCell ⟨gW, oW + i * 6, none⟩ (.int .i64 x.f0)).setCell ⟨gW, oW + i * 6 + 1, none⟩ (.string x.f1)).setCell ⟨gW, oW + i * 6 + 2, none⟩ (.int .i64 x.f2)).setCell ⟨gW, oW + i * 6 + 3, none⟩ (.int .i64 x.f3)).setCell ⟨gW, oW + i * 6 + 4, none⟩ (.bool (tellF x n.f0 n.f1).f4)).setCell ⟨gW, oW + i * 6 + 5, none⟩ (.slice A7 (tellF x n.f0 n.f1).f5.length c7))).heap.size) (.slice (some ⟨gW, oW, none⟩) ws.length cW) (tellI n.f0 n.f1 (i + 1) ws)) ∧ Hid (T k87 87 ((((((w6.setCell ⟨gW, oW + i * 6, none⟩ (.int .i64 x.f0)).setCell ⟨gW, oW + i * 6 + 1, none⟩ (.string x.f1)).setCell ⟨gW, oW + i * 6 + 2, none⟩ (.int .i64 x.f2)).setCell ⟨gW, oW + i * 6 + 3, none⟩ (.int .i64 x.f3)).setCell ⟨gW, oW + i * 6 + 4, none⟩ (.bool (tellF x n.f0 n.f1).f4)).setCell ⟨gW, oW + i * 6 + 5, none⟩ (.slice A7 (tellF x n.f0 n.f1).f5.length c7)) bs (fun k => okB k ∧ k < w1.heap.size) (.slice AN t.length cN) t) ∧ Hid ((((((((w6.setCell ⟨gW, oW + i * 6, none⟩ (.int .i64 x.f0)).setCell ⟨gW, oW + i * 6 + 1, none⟩ (.string x.f1)).setCell ⟨gW, oW + i * 6 + 2, none⟩ (.int .i64 x.f2)).setCell ⟨gW, oW + i * 6 + 3, none⟩ (.int .i64 x.f3)).setCell ⟨gW, oW + i * 6 + 4, none⟩ (.bool (tellF x n.f0 n.f1).f4)).setCell ⟨gW, oW + i * 6 + 5, none⟩ (.slice A7 (tellF x n.f0 n.f1).f5.length c7))).heap[w.heap.size]? = some (.cells #[.slice A0 ws.length c0, .slice A1 (t.length + 1) c1] 44 (0, 0))) ∧ Hid ((((((((w6.setCell ⟨gW, oW + i * 6, none⟩ (.int .i64 x.f0)).setCell ⟨gW, oW + i * 6 + 1, none⟩ (.string x.f1)).setCell ⟨gW, oW + i * 6 + 2, none⟩ (.int .i64 x.f2)).setCell ⟨gW, oW + i * 6 + 3, none⟩ (.int .i64 x.f3)).setCell ⟨gW, oW + i * 6 + 4, none⟩ (.bool (tellF x n.f0 n.f1).f4)).setCell ⟨gW, oW + i * 6 + 5, none⟩ (.slice A7 (tellF x n.f0 n.f1).f5.length c7))).heap[w.heap.size + 1]? = some (.cells #[.slice none 0 0, .slice none 0 0] 44 (0, 0))) ∧ Hid ((((((((w6.setCell ⟨gW, oW + i * 6, none⟩ (.int .i64 x.f0)).setCell ⟨gW, oW + i * 6 + 1, none⟩ (.string x.f1)).setCell ⟨gW, oW + i * 6 + 2, none⟩ (.int .i64 x.f2)).setCell ⟨gW, oW + i * 6 + 3, none⟩ (.int .i64 x.f3)).setCell ⟨gW, oW + i * 6 + 4, none⟩ (.bool (tellF x n.f0 n.f1).f4)).setCell ⟨gW, oW + i * 6 + 5, none⟩ (.slice A7 (tellF x n.f0 n.f1).f5.length c7))).heap[w1.heap.size]? = some (.cells #[.slice AW ws.length cW, .slice AN t.length cN] 44 (0, 0))) ∧ Hid (Below w.heap.size w ((((((w6.setCell ⟨gW, oW + i * 6, none⟩ (.int .i64 x.f0)).setCell ⟨gW, oW + i * 6 + 1, none⟩ (.string x.f1)).setCell ⟨gW, oW + i * 6 + 2, none⟩ (.int .i64 x.f2)).setCell ⟨gW, oW + i * 6 + 3, none⟩ (.int .i64 x.f3)).setCell ⟨gW, oW + i * 6 + 4, none⟩ (.bool (tellF x n.f0 n.f1).f4)).setCell ⟨gW, oW + i * 6 + 5, none⟩ (.slice A7 (tellF x n.f0 n.f1).f5.length c7))) ∧ Hid (wL.heap.size ≤ (((((((w6.setCell ⟨gW, oW + i * 6, none⟩ (.int .i64 x.f0)).setCell ⟨gW, oW + i * 6 + 1, none⟩ (.string x.f1)).setCell ⟨gW, oW + i * 6 + 2, none⟩ (.int .i64 x.f2)).setCell ⟨gW, oW + i * 6 + 3, none⟩ (.int .i64 x.f3)).setCell ⟨gW, oW + i * 6 + 4, none⟩ (.bool (tellF x n.f0 n.f1).f4)).setCell ⟨gW, oW + i * 6 + 5, none⟩ (.slice A7 (tellF x n.f0 n.f1).f5.length c7))).heap.size) := by
  have hkp := tellF_keeps x n.f0 n.f1
  obtain ⟨cur1, hh1, hs1, hout, hcut1⟩ := set6 hrw (o := oW + i * 6) (.int .i64 x.f0) (.string x.f1) (.int .i64 x.f2) (.int .i64 x.f3) (.bool (tellF x n.f0 n.f1).f4) (.slice A7 (tellF x n.f0 n.f1).f5.length c7) hsz6
  have hT7 : Tch wr ((((((w6.setCell ⟨gW, oW + i * 6, none⟩ (.int .i64 x.f0)).setCell ⟨gW, oW + i * 6 + 1, none⟩ (.string x.f1)).setCell ⟨gW, oW + i * 6 + 2, none⟩ (.int .i64 x.f2)).setCell ⟨gW, oW + i * 6 + 3, none⟩ (.int .i64 x.f3)).setCell ⟨gW, oW + i * 6 + 4, none⟩ (.bool (tellF x n.f0 n.f1).f4)).setCell ⟨gW, oW + i * 6 + 5, none⟩ (.slice A7 (tellF x n.f0 n.f1).f5.length c7)) (fun k => k = gW ∨ FW k) := by
    repeat with_reducible refine Tch.setCell ?_ (.inl (.inl rfl)) _
    exact hT6.mono (fun k hk => .inr hk)
  have hT67 : Tch w6 ((((((w6.setCell ⟨gW, oW + i * 6, none⟩ (.int .i64 x.f0)).setCell ⟨gW, oW + i * 6 + 1, none⟩ (.string x.f1)).setCell ⟨gW, oW + i * 6 + 2, none⟩ (.int .i64 x.f2)).setCell ⟨gW, oW + i * 6 + 3, none⟩ (.int .i64 x.f3)).setCell ⟨gW, oW + i * 6 + 4, none⟩ (.bool (tellF x n.f0 n.f1).f4)).setCell ⟨gW, oW + i * 6 + 5, none⟩ (.slice A7 (tellF x n.f0 n.f1).f5.length c7)) (fun k => k = gW) := by
    repeat with_reducible refine Tch.setCell ?_ (.inl (by simp)) _
    exact Tch.refl _ _
  generalize hw7 : ((((((w6.setCell ⟨gW, oW + i * 6, none⟩ (.int .i64 x.f0)).setCell ⟨gW, oW + i * 6 + 1, none⟩ (.string x.f1)).setCell ⟨gW, oW + i * 6 + 2, none⟩ (.int .i64 x.f2)).setCell ⟨gW, oW + i * 6 + 3, none⟩ (.int .i64 x.f3)).setCell ⟨gW, oW + i * 6 + 4, none⟩ (.bool (tellF x n.f0 n.f1).f4)).setCell ⟨gW, oW + i * 6 + 5, none⟩ (.slice A7 (tellF x n.f0 n.f1).f5.length c7)) = w7 at hh1 hT7 hT67 ⊢
  clear hw7
  have hz7 := hT7.kept.1
  have hS7 := Kd.S_kept hS6 hT67.kept (fun k hk h => by rcases hk with hk | hk; exact (hFk k hk).2 h; have := hgk.2; omega)
  have hTT : T ms76 76 w7 w.heap.size (fun k => ((okA k ∧ k < w1.heap.size) ∨ wL.heap.size ≤ k) ∧ k < w7.heap.size) (.slice (some ⟨gW, oW, none⟩) ws.length cW) (tellI n.f0 n.f1 (i + 1) ws) := by
    rw [← tellI_set n.f0 n.f1 i ws x hx]
    refine hback w7 cur1 (tellF x n.f0 n.f1) (fun k => (FW k ∨ wr.heap.size ≤ k) ∧ k < w7.heap.size) _ hh1 hs1 hout (fun k hk hok hne hnF => hT7.kept.2 k hk (fun h => by rcases h with h | h; exact hne h; exact hnF h)) (fun k hk => ⟨hk.1, by omega⟩) (fun k hk => ?_) ?_
    · obtain ⟨hk, hk2⟩ := hk
      rcases hk with hk | hk
      · exact ⟨.inl hk, ⟨(hFk k hk).1.1, hk2⟩, (hFk k hk).2⟩
      · exact ⟨.inr (.inl hk), ⟨.inr (by omega), hk2⟩, by omega⟩
    · show ms76.M w7 w.heap.size _ _ (cut cur1 (oW + i * 6) 6)
      rw [hcut1, ← hkp.1, ← hkp.2.1, ← hkp.2.2.1, ← hkp.2.2.2]
      exact ms76_mk (tellF x n.f0 n.f1) (Kd.S_mono (Kd.S_bound hS7) (fun k hk => ⟨hk.1, hk.2.2.1⟩))
  have hg : ∀ k, k = gW ∨ FW k → (okA k ∧ k < w1.heap.size) ∨ wL.heap.size ≤ k := by
    intro k h2
    rcases h2 with rfl | h2
    · exact hgk.1
    · exact (hFk k h2).1.1
  have hoff : ∀ k, k < w.heap.size + 2 ∨ k = w1.heap.size ∨ (okB k ∧ k < w1.heap.size) → ¬ (k = gW ∨ FW k) := by
    intro k h1 h2
    rcases hg k h2 with h3 | h3
    · have h4 := hA k h3.1
      have h5 := h3.2
      rcases h1 with h1 | h1 | h1
      · omega
      · omega
      · exact h4.2 h1.1
    · rcases h1 with h1 | h1 | h1
      · omega
      · omega
      · have := h1.2; omega
  exact ⟨Lib.hid (by omega), Lib.hid hTT, Lib.hid (T_kept hTN hT7.kept (fun k hk => hoff k (.inr (.inr hk)))), Lib.hid (blk_kept hG1 hT7.kept (hoff _ (.inl (by omega)))), Lib.hid (blk_kept hG2 hT7.kept (hoff _ (.inl (by omega)))), Lib.hid (blk_kept hG4 hT7.kept (hoff _ (.inr (.inl rfl)))), Lib.hid (below_tch hB hT7 (fun k hk => by
      rcases hg k hk with h3 | h3
      · have := (hA k h3.1).1; omega
      · omega)), Lib.hid (Nat.le_trans hz hz7)⟩

set_option maxRecDepth 100000 in
set_option maxHeartbeats 8000000 in
theorem spec_dispatch (ws : List S76) (ns : List S87) (A0 A1 : Option Addr) (c0 c1 : Nat) (w : World) (hr0 : Kd.C k76 w A0 ws.length ws) (hc0 : ws.length ≤ c0) (hr1 : Kd.C k87 w A1 ns.length ns) (hc1 : ns.length ≤ c1) (hfw : fitWatS ws) (hfn : fitNewS ns) (hzw : sizesW ws) (hzn : sizesN ns) :
    Calls Tryd.prog 32 #[.agg #[.slice A0 ws.length c0, .slice A1 ns.length c1]] w fun e w' => ∃ v0 v1, e = .returned (.tuple #[.agg #[v0, v1], .bool (dp ws ns).2.2]) ∧ HubG w' w.heap.size w'.heap.size v0 v1 (dp ws ns).1 (dp ws ns).2.1 ∧ Below w.heap.size w w' := by
  have HR0 := Lib.hid hr0
  have HR1 := Lib.hid hr1
  have HC0 := Lib.hid hc0
  have HC1 := Lib.hid hc1
  have HFW := Lib.hid hfw
  have HFN := Lib.hid hfn
  have HZW := Lib.hid hzw
  have HZN := Lib.hid hzn
  clear hr0 hr1 hc0 hc1 hfw hfn hzw hzn
  have hmw : ws.length ≤ 4194304 := HFW.out.1
  go_enter Tryd.func32, Tryd.ntmps32
  have hB := (show Below w.heap.size w ((w.alloc (.cells #[.slice A0 ws.length c0, .slice A1 ns.length c1] 44)).alloc (.cells #[.slice none 0 0, .slice none 0 0] 44)) from below_alloc (below_alloc (Below.refl _ _) _) _)
  have g1 := blk_alloc (heap_alloc_new w (.cells #[.slice A0 ws.length c0, .slice A1 ns.length c1] 44)) (.cells #[.slice none 0 0, .slice none 0 0] 44)
  have g2 := heap_alloc_new (w.alloc (.cells #[.slice A0 ws.length c0, .slice A1 ns.length c1] 44)) (.cells #[.slice none 0 0, .slice none 0 0] 44)
  simp only [World.size_alloc] at g2
  have HB := Lib.hid hB
  have HG1 := Lib.hid g1
  have HG2 := Lib.hid g2
  clear hB g1 g2
  cases ns with
  | nil =>
    simp only [List.length_nil] at *
    go_wp2_with fail
    have h := spec_copy ws ([] : List S87) 0 A0 A1 c0 c1 w ((w.alloc (.cells #[.slice A0 ws.length c0, .slice A1 0 c1] 44)).alloc (.cells #[.slice none 0 0, .slice none 0 0] 44)) HR0.out HC0.out HR1.out HC1.out HB.out HFW.out HFN.out (Nat.le_refl _)
    refine h.mono ?_
    rintro e w1 ⟨v0, v1, okA, okB, rfl, hA, hBk, hS0, hS1, hb1⟩
    obtain ⟨AW, cW, rfl⟩ := Kd.S_slice hS0
    obtain ⟨AN, cN, rfl⟩ := Kd.S_slice hS1
    have HG21 := Lib.hid (blk_below HG2.out hb1)
    have HS0 := Lib.hid (S_now hS0)
    have HS1 := Lib.hid (S_now hS1)
    have HA := Lib.hid hA
    have HBK := Lib.hid hBk
    have HB1 := Lib.hid (below_then HB.out HB.out.size hb1)
    have hz1 : w.heap.size + 2 ≤ w1.heap.size := by have := hb1.size; simp at this; omega
    clear hS0 hS1 hb1 hA hBk h
    simp only [List.drop_nil, List.length_nil] at HS1 ⊢
    have hy0 := blk_cell HG21.out 0
    have hy1 := blk_cell HG21.out 1
    have hg0 := blk_frozen HG21.out 0
    have hg1 := blk_frozen HG21.out 1
    simp only [List.getElem?_toArray, List.getElem?_cons_zero, List.getElem?_cons_succ] at hy0 hy1
    go_wp2_with fail
    refine bodyPost_ret (v := .tuple #[.agg #[.slice AW ws.length cW, .slice AN 0 cN], .bool false]) (by simp [results, Tryd.results32, go_sem, hy0, hy1]) rfl ⟨_, _, rfl, ?_⟩
    have ht : ∀ w', Tch w1 w' (fun k => k = w.heap.size + 1) → HubG w' w.heap.size w'.heap.size (.slice AW ws.length cW) (.slice AN 0 cN) ws [] ∧ Below w.heap.size w w' := by
      intro w' ht
      have hsz := ht.kept.1
      have ga : ∀ k, okA k → w.heap.size + 2 ≤ k ∧ ¬ okB k := fun k hk => by have := HA.out k hk; simp at this; exact ⟨by omega, this.2⟩
      have gb : ∀ k, okB k → w.heap.size + 2 ≤ k := fun k hk => by have := HBK.out k hk; simp at this; omega
      refine ⟨⟨_, _, ?_, ?_, T_kept (T_imp (T_lower (T_of_S HS0.out) (Nat.zero_le _)) rfl (fun _ _ _ h => ms_m76 h)) ht.kept (fun k hk h => by have := ga k hk.1; omega), T_kept (T_imp (T_lower (T_of_S HS1.out) (Nat.zero_le _)) rfl (fun _ _ _ h => k_m87 h)) ht.kept (fun k hk h => by have := gb k hk.1; omega)⟩, below_tch HB1.out ht (fun k hk => by omega)⟩
      · intro k hk; have := ga k hk.1; exact ⟨by omega, by have := hk.2.2; omega, fun h => this.2 h.1⟩
      · intro k hk; have := gb k hk.1; exact ⟨by omega, by have := hk.2.2; omega, fun h => (ga k h.1).2 hk.1⟩
    refine ht _ ?_
    repeat (first | with_reducible exact Tch.refl _ _ | with_reducible apply Tch.drew | with_reducible refine Tch.setCell ?_ (.inl (by simp)) _ | with_reducible refine Tch.below ?_ (below_alloc (Below.refl _ _) _))
  | cons n t =>
    simp only [List.length_cons] at *
    have hnn := HFN.out.2 n (by simp)
    have HZP := Lib.hid (HZN.out n (by simp))
    have htl : t.length ≤ 4194304 := by have := HFN.out.1; simp at this; omega
    have hne : (((t.length + 1 : Nat) : Int) == 0) = false := by simp; omega
    go_wp2_with fail
    have h := spec_copy ws (n :: t) 1 A0 A1 c0 c1 w ((w.alloc (.cells #[.slice A0 ws.length c0, .slice A1 (t.length + 1) c1] 44)).alloc (.cells #[.slice none 0 0, .slice none 0 0] 44)) HR0.out HC0.out HR1.out HC1.out HB.out HFW.out HFN.out (by simp)
    refine h.mono ?_
    rintro e w1 ⟨v0, v1, okA, okB, rfl, hA, hBk, hS0, hS1, hb1⟩
    rw [List.drop_one, List.tail_cons] at hS1
    obtain ⟨AW, cW, rfl⟩ := Kd.S_slice hS0
    obtain ⟨AN, cN, rfl⟩ := Kd.S_slice hS1
    have hz1 : w.heap.size + 2 ≤ w1.heap.size := by have := hb1.size; simp at this; omega
    have HA := Lib.hid (show ∀ k, okA k → w.heap.size + 2 ≤ k ∧ ¬ okB k from fun k hk => by have := hA k hk; simp at this; exact ⟨by omega, this.2⟩)
    have HBK := Lib.hid (show ∀ k, okB k → w.heap.size + 2 ≤ k from fun k hk => by have := hBk k hk; simp at this; omega)
    have hg1 := blk_alloc (blk_below HG1.out hb1) (.cells #[.slice AW ws.length cW, .slice AN t.length cN] 44)
    have hg2 := blk_alloc (blk_below HG2.out hb1) (.cells #[.slice AW ws.length cW, .slice AN t.length cN] 44)
    have hg4 := heap_alloc_new w1 (.cells #[.slice AW ws.length cW, .slice AN t.length cN] 44)
    have hbL := below_alloc (below_then HB.out HB.out.size hb1) (.cells #[.slice AW ws.length cW, .slice AN t.length cN] 44)
    have hT0 := T_below (T_mono (T_now (T_lower (T_of_S hS0) (base' := w.heap.size) (by simp; omega))) (ok' := fun k => okA k ∧ k < w1.heap.size) (fun k hk => ⟨hk.1, hk.2.2⟩)) (below_alloc (Below.refl _ _) (.cells #[.slice AW ws.length cW, .slice AN t.length cN] 44))
    have hT1 := T_below (T_mono (T_now (T_of_S hS1)) (ok' := fun k => okB k ∧ k < w1.heap.size) (fun k hk => ⟨hk.1, hk.2.2⟩)) (below_alloc (Below.refl _ _) (.cells #[.slice AW ws.length cW, .slice AN t.length cN] 44))
    have hzL : (w1.alloc (.cells #[.slice AW ws.length cW, .slice AN t.length cN] 44)).heap.size = w1.heap.size + 1 := World.size_alloc _ _
    clear hA hBk hS0 hS1 hb1 h
    go_wp2_with fail
    generalize w1.alloc (.cells #[.slice AW ws.length cW, .slice AN t.length cN] 44) = wL at hg1 hg2 hg4 hbL hT0 hT1 hzL ⊢
    have HG1L := Lib.hid hg1
    have HG2L := Lib.hid hg2
    have HG4L := Lib.hid hg4
    have HBL := Lib.hid hbL
    have HT0L := Lib.hid (show T ms76 76 wL w.heap.size (fun k => ((okA k ∧ k < w1.heap.size) ∨ wL.heap.size ≤ k) ∧ k < wL.heap.size) (.slice AW ws.length cW) ws from T_mono (T_now hT0) (fun k hk => ⟨.inl hk.1, hk.2.2⟩))
    have HT1L := Lib.hid hT1
    have HZL := Lib.hid hzL
    have HFW0 := HFW
    clear hg1 hg2 hg4 hbL hT0 hT1 hzL HG1 HG2 HB
    go_loopw [5] (fun v5 wr => ∃ i : Nat, v5 = .int .i64 i ∧ Hid (i ≤ min ws.length 100) ∧ Hid (T ms76 76 wr w.heap.size (fun k => ((okA k ∧ k < w1.heap.size) ∨ wL.heap.size ≤ k) ∧ k < wr.heap.size) (.slice AW ws.length cW) (tellI n.f0 n.f1 i ws)) ∧ Hid (T k87 87 wr (w.alloc (.cells #[.slice A0 ws.length c0, .slice A1 (t.length + 1) c1] 44) |>.alloc (.cells #[.slice none 0 0, .slice none 0 0] 44)).heap.size (fun k => okB k ∧ k < w1.heap.size) (.slice AN t.length cN) t) ∧ Hid (wr.heap[w.heap.size]? = some (.cells #[.slice A0 ws.length c0, .slice A1 (t.length + 1) c1] 44 (0, 0))) ∧ Hid (wr.heap[w.heap.size + 1]? = some (.cells #[.slice none 0 0, .slice none 0 0] 44 (0, 0))) ∧ Hid (wr.heap[w1.heap.size]? = some (.cells #[.slice AW ws.length cW, .slice AN t.length cN] 44 (0, 0))) ∧ Hid (Below w.heap.size w wr) ∧ Hid (wL.heap.size ≤ wr.heap.size)) (fun v5 _ => 100 - (intOf v5).toNat)
    case atStart => exact ⟨0, rfl, Lib.hid (Nat.zero_le _), Lib.hid (by rw [tellI_zero]; exact HT0L.out), HT1L, HG1L, HG2L, HG4L, HBL, Lib.hid (Nat.le_refl _)⟩
    case round =>
      clear HG1L HG2L HG4L HBL HT0L HT1L
      obtain ⟨i, rfl, HI, HTW, HTN, HG1, HG2, HG4, HB, HZ⟩ := hrel
      have hx0 := blk_cell HG4.out 0
      have hx1 := blk_cell HG4.out 1
      have hp1 := blk_cell HG1.out 1
      have hu0 := blk_cell HG2.out 0
      have hu1 := blk_cell HG2.out 1
      have hg0 := blk_frozen HG2.out 0
      have hg1 := blk_frozen HG2.out 1
      simp only [List.getElem?_toArray, List.getElem?_cons_zero, List.getElem?_cons_succ] at hx0 hx1 hp1 hu0 hu1
      have hbs := HB.out.size
      by_cases hil : i < ws.length
      · by_cases h100 : (i : Int) < 100
        · obtain ⟨x, hx⟩ : ∃ x, ws[i]? = some x := ⟨_, List.getElem?_eq_getElem hil⟩
          have HX := Lib.hid hx
          obtain ⟨gW, oW, cW', curW, FW, hvW, hcW, hgok, _, hhW, hsW, hFW, hMW, hback⟩ := T_at HTW.out i x (by rw [tellI_at _ _ _ _ hil]; exact hx)
          injection hvW with h1 h2 h3
          subst h1; subst h3
          obtain ⟨v5, hcsW, hS5⟩ := ms76_open hMW
          obtain ⟨A5, c5, rfl⟩ := Kd.S_slice hS5
          have hcsW' : cut curW (oW + i * 6) 6 = [.int .i64 x.f0, .string x.f1, .int .i64 x.f2, .int .i64 x.f3, .bool x.f4, .slice A5 x.f5.length c5] := hcsW
          have r0 : wr.cell? ⟨gW, oW + i * 6, none⟩ = some (.int .i64 x.f0) := cut_cell (j := 0) hhW hcsW' rfl
          have e0 : curW[oW + i * 6]? = some (.int .i64 x.f0) := by have h := cut_get curW (oW + i * 6) 6 0; rw [hcsW', if_pos (by decide)] at h; exact h.symm
          have r1 : wr.cell? ⟨gW, oW + i * 6 + 1, none⟩ = some (.string x.f1) := cut_cell (j := 1) hhW hcsW' rfl
          have e1 : curW[oW + i * 6 + 1]? = some (.string x.f1) := by have h := cut_get curW (oW + i * 6) 6 1; rw [hcsW', if_pos (by decide)] at h; exact h.symm
          have r2 : wr.cell? ⟨gW, oW + i * 6 + 2, none⟩ = some (.int .i64 x.f2) := cut_cell (j := 2) hhW hcsW' rfl
          have e2 : curW[oW + i * 6 + 2]? = some (.int .i64 x.f2) := by have h := cut_get curW (oW + i * 6) 6 2; rw [hcsW', if_pos (by decide)] at h; exact h.symm
          have r3 : wr.cell? ⟨gW, oW + i * 6 + 3, none⟩ = some (.int .i64 x.f3) := cut_cell (j := 3) hhW hcsW' rfl
          have e3 : curW[oW + i * 6 + 3]? = some (.int .i64 x.f3) := by have h := cut_get curW (oW + i * 6) 6 3; rw [hcsW', if_pos (by decide)] at h; exact h.symm
          have r4 : wr.cell? ⟨gW, oW + i * 6 + 4, none⟩ = some (.bool x.f4) := cut_cell (j := 4) hhW hcsW' rfl
          have e4 : curW[oW + i * 6 + 4]? = some (.bool x.f4) := by have h := cut_get curW (oW + i * 6) 6 4; rw [hcsW', if_pos (by decide)] at h; exact h.symm
          have r5 : wr.cell? ⟨gW, oW + i * 6 + 5, none⟩ = some (.slice A5 x.f5.length c5) := cut_cell (j := 5) hhW hcsW' rfl
          have e5 : curW[oW + i * 6 + 5]? = some (.slice A5 x.f5.length c5) := by have h := cut_get curW (oW + i * 6) 6 5; rw [hcsW', if_pos (by decide)] at h; exact h.symm
          have E0 := Lib.hid e0
          clear e0
          have E1 := Lib.hid e1
          clear e1
          have E2 := Lib.hid e2
          clear e2
          have E3 := Lib.hid e3
          clear e3
          have E4 := Lib.hid e4
          clear e4
          have E5 := Lib.hid e5
          clear e5
          have HHW := Lib.hid hhW
          have HCS := Lib.hid hcsW'
          have HS5 := Lib.hid hS5
          have HFW := Lib.hid (show ∀ k, FW k → (((okA k ∧ k < w1.heap.size) ∨ wL.heap.size ≤ k) ∧ k < wr.heap.size) ∧ k ≠ gW from hFW)
          have HBK := Lib.hid hback
          have HGK := Lib.hid (show ((okA gW ∧ gW < w1.heap.size) ∨ wL.heap.size ≤ gW) ∧ gW < wr.heap.size from T_gok HTW.out (by rw [tellI_len]; omega))
          have hfx := HFW0.out.2 x (List.mem_of_getElem? hx)
          have HX5 := Lib.hid hfx.1
          have HX1 := Lib.hid (HZW.out x (List.mem_of_getElem? hx))
          have hsz6 := Lib.hid hsW
          obtain ⟨ad6, A6, c6, had6, hm0, hm1, hl6, hr6⟩ := at_T87 (Kd.C_below HR1.out HB.out) 0 (by omega) (by omega)
          subst had6
          have hrd6 : rd_T87 (n :: t) 0 = n := rfl
          rw [hrd6] at hm0 hm1 hl6 hr6
          have e6 : ad6.add (Int.toNat 0 * 2) = ad6 := by simp [Addr.add]
          rw [e6] at hm0 hm1
          have HR6 := Lib.hid hr6
          have HL6 := Lib.hid hl6
          clear h2 hgok hhW hsW hFW hMW hback hcsW hcsW' hS5 hx hfx hrd6 e6 hr6 hl6
          go_wp2_with fail
          go_region_with (first | (go_at_call 63; refine (l5_tell x n.f0 n.f1 A6 A5 c6 c5 FW w.heap.size _ (Kd.S_drew HS5.out) (Kd.C_below HR6.out (below_drew (Below.refl _ _))) HL6.out hnn HZP.out HX1.out HX5.out hbs).mono ?_; (rintro e w6 ⟨v5', rfl, hS6, hT6⟩); (obtain ⟨A7, c7, rfl⟩ := Kd.S_slice hS6); (have ht6 : Tch wr w6 FW := ⟨hT6.os, hT6.tape, hT6.output, hT6.kept⟩); (have s0 := blk_cell (blk_kept HG4.out ht6.kept (fun h => by rcases (HFW.out _ h).1.1 with h1 | h1; exact absurd h1.2 (Nat.lt_irrefl _); have := HZL.out; omega)) 0); (have hrw := blk_kept HHW.out ht6.kept (fun h => (HFW.out gW h).2 rfl)); (have d0 := blk_cell hrw (oW + i * 6)); (have k0 := blk_frozen hrw (oW + i * 6)); (rw [E0.out] at d0); (have d1 := blk_cell hrw (oW + i * 6 + 1)); (have k1 := blk_frozen hrw (oW + i * 6 + 1)); (rw [E1.out] at d1); (have d2 := blk_cell hrw (oW + i * 6 + 2)); (have k2 := blk_frozen hrw (oW + i * 6 + 2)); (rw [E2.out] at d2); (have d3 := blk_cell hrw (oW + i * 6 + 3)); (have k3 := blk_frozen hrw (oW + i * 6 + 3)); (rw [E3.out] at d3); (have d4 := blk_cell hrw (oW + i * 6 + 4)); (have k4 := blk_frozen hrw (oW + i * 6 + 4)); (rw [E4.out] at d4); (have d5 := blk_cell hrw (oW + i * 6 + 5)); (have k5 := blk_frozen hrw (oW + i * 6 + 5)); (rw [E5.out] at d5); (simp only [List.getElem?_toArray, List.getElem?_cons_zero, List.getElem?_cons_succ] at s0); (have HRW := Lib.hid hrw); (have HS6 := Lib.hid hS6); (have HT6 := Lib.hid ht6); clear hrw hS6 hT6 ht6))
          all_goals
            clear hx0 hx1 hp1 hu0 hu1 hg0 hg1
            go_wp2_with fail
            obtain ⟨z1, z2, z3, z4, z5, z6, z7, z8⟩ := spec_end ws t n x i _ _ (some ⟨gW, oW, none⟩) AN A7 _ _ cW cN c7 gW oW curW okA okB FW w w1 wL wr w6 _ HX.out hil h100 HA.out HZL.out hz1 HZ.out hsz6.out HFW.out HGK.out HBK.out HTN.out HG1.out HG2.out HG4.out HB.out HRW.out HS6.out HT6.out
            refine ⟨⟨i + 1, by simp, z1, z2, z3, z4, z5, z6, z7, z8⟩, ?_⟩
            simp [intOf]; omega
        · have hni : ¬ ((i : Int) < 100) := h100
          go_wp2_with fail
          have hie : i = min ws.length 100 := by have := HI.out; omega
          refine bodyPost_ret (v := .tuple #[.agg #[.slice AW ws.length cW, .slice AN t.length cN], .bool true]) (by simp [results, Tryd.results32, go_sem, hu0, hu1]) rfl ⟨_, _, rfl, ?_⟩
          have ht : ∀ w', Tch wr w' (fun k => k = w.heap.size + 1) → HubG w' w.heap.size w'.heap.size (.slice AW ws.length cW) (.slice AN t.length cN) (tellS n.f0 n.f1 ws) t ∧ Below w.heap.size w w' := by
            intro w' ht
            have hsz := ht.kept.1
            have hz := HZ.out
            have hzl := HZL.out
            have hTW := HTW.out
            rw [tellI_end _ _ _ _ hie] at hTW
            refine ⟨⟨_, _, fun k hk => ?_, fun k hk => ?_, T_kept (T_imp (T_lower hTW (Nat.zero_le _)) rfl (fun _ _ _ h => ms_m76 h)) ht.kept (fun k hk h => ?_), T_kept (T_imp (T_lower HTN.out (Nat.zero_le _)) rfl (fun _ _ _ h => k_m87 h)) ht.kept (fun k hk h => ?_)⟩, below_tch HB.out ht (fun k hk => by omega)⟩
            · obtain ⟨h1 | h1, h2⟩ := hk
              · have := HA.out k h1.1; exact ⟨by omega, by omega, fun h => this.2 h.1⟩
              · exact ⟨by omega, by omega, fun h => by have := h.2; omega⟩
            · have := HBK.out k hk.1
              refine ⟨by omega, by have := hk.2; omega, fun h => ?_⟩
              rcases h.1 with h1 | h1
              · exact (HA.out k h1.1).2 hk.1
              · have := hk.2; omega
            · obtain ⟨h1 | h1, h2⟩ := hk
              · have := HA.out k h1.1; omega
              · omega
            · have := HBK.out k hk.1; omega
          refine ht _ ?_
          repeat (first | with_reducible exact Tch.refl _ _ | with_reducible apply Tch.drew | with_reducible refine Tch.setCell ?_ (.inl (by simp)) _ | with_reducible refine Tch.below ?_ (below_alloc (Below.refl _ _) _))
      · have hni : ¬ ((i : Int) < (ws.length : Int)) := by omega
        go_wp2_with fail
        have hie : i = min ws.length 100 := by have := HI.out; omega
        refine bodyPost_ret (v := .tuple #[.agg #[.slice AW ws.length cW, .slice AN t.length cN], .bool true]) (by simp [results, Tryd.results32, go_sem, hu0, hu1]) rfl ⟨_, _, rfl, ?_⟩
        have ht : ∀ w', Tch wr w' (fun k => k = w.heap.size + 1) → HubG w' w.heap.size w'.heap.size (.slice AW ws.length cW) (.slice AN t.length cN) (tellS n.f0 n.f1 ws) t ∧ Below w.heap.size w w' := by
          intro w' ht
          have hsz := ht.kept.1
          have hz := HZ.out
          have hzl := HZL.out
          have hTW := HTW.out
          rw [tellI_end _ _ _ _ hie] at hTW
          refine ⟨⟨_, _, fun k hk => ?_, fun k hk => ?_, T_kept (T_imp (T_lower hTW (Nat.zero_le _)) rfl (fun _ _ _ h => ms_m76 h)) ht.kept (fun k hk h => ?_), T_kept (T_imp (T_lower HTN.out (Nat.zero_le _)) rfl (fun _ _ _ h => k_m87 h)) ht.kept (fun k hk h => ?_)⟩, below_tch HB.out ht (fun k hk => by omega)⟩
          · obtain ⟨h1 | h1, h2⟩ := hk
            · have := HA.out k h1.1; exact ⟨by omega, by omega, fun h => this.2 h.1⟩
            · exact ⟨by omega, by omega, fun h => by have := h.2; omega⟩
          · have := HBK.out k hk.1
            refine ⟨by omega, by have := hk.2; omega, fun h => ?_⟩
            rcases h.1 with h1 | h1
            · exact (HA.out k h1.1).2 hk.1
            · have := hk.2; omega
          · obtain ⟨h1 | h1, h2⟩ := hk
            · have := HA.out k h1.1; omega
            · omega
          · have := HBK.out k hk.1; omega
        refine ht _ ?_
        repeat (first | with_reducible exact Tch.refl _ _ | with_reducible apply Tch.drew | with_reducible refine Tch.setCell ?_ (.inl (by simp)) _ | with_reducible refine Tch.below ?_ (below_alloc (Below.refl _ _) _))
end Go.Proofs.YtmphkhkbegihaaaDoor.HubLaw
