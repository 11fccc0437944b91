/- The hub laws' pieces: Publish, the marks and copies of a whole hub. -/
import Derived.Test.YtmphkhkbegihaaaDoorCopy
import Derived.Test.YtmphkhkbegihaaaDoorPure
import Derived.Test.YtmphkhkbegihaaaDoorSpec
namespace Go.Proofs.YtmphkhkbegihaaaDoor.HubLaw
open Go Go.RowKit Go.Proofs.YtmphkhkbegihaaaDoor.PHub Go.Proofs.YtmphkhkbegihaaaDoorW.PrintWords Go.Proofs.YtmphkhkbegihaaaDoor.Tree Go.Proofs.YtmphkhkbegihaaaDoor.Mark Go.Proofs.YtmphkhkbegihaaaDoor.To Go.Proofs.YtmphkhkbegihaaaDoor.Copy Go.Proofs.YtmphkhkbegihaaaDoor.Plain Go.Proofs.YtmphkhkbegihaaaDoor.SpecP Go.Proofs.YtmphkhkbegihaaaDoor.Open
set_option linter.unusedVariables false
set_option linter.unusedSimpArgs false

/-- A hub of one's own: its two rows, apart from each other, in the blocks from lo to hi. -/
def HubT (w : World) (lo hi : Nat) (v0 v1 : Value) (ws : List S76) (ns : List S87) : Prop :=
  ∃ m, lo ≤ m ∧ m ≤ hi ∧ T m76 76 w 0 (fun k => lo ≤ k ∧ k < m) v0 ws ∧ T m87 87 w 0 (fun k => m ≤ k ∧ k < hi) v1 ns
theorem m_k76 {w : World} {A : Option Addr} {n : Nat} {ws : List S76} (h : m76.C w A n ws) : k76.C w A n ws := h
theorem m_k87 {w : World} {A : Option Addr} {n : Nat} {ns : List S87} (h : m87.C w A n ns) : k87.C w A n ns := h
section
variable {w w1 : World} {lo hi : Nat} {v0 v1 : Value} {ws : List S76} {ns : List S87}
theorem HubT.below (h : HubT w lo hi v0 v1 ws ns) (hb : Below w.heap.size w w1) : HubT w1 lo hi v0 v1 ws ns := by
  obtain ⟨m, h1, h2, h3, h4⟩ := h
  exact ⟨m, h1, h2, T_below h3 hb, T_below h4 hb⟩
theorem HubT.tch {S : Nat → Prop} (h : HubT w lo hi v0 v1 ws ns) (ht : Tch w w1 S) (hS : ∀ k, lo ≤ k → k < hi → ¬ S k) : HubT w1 lo hi v0 v1 ws ns := by
  obtain ⟨m, h1, h2, h3, h4⟩ := h
  exact ⟨m, h1, h2, T_kept h3 ht.kept (fun k hk => hS k (by omega) (by omega)), T_kept h4 ht.kept (fun k hk => hS k (by omega) (by omega))⟩
theorem HubT.reads (h : HubT w lo hi v0 v1 ws ns) : ∃ A0 c0 A1 c1, v0 = .slice A0 ws.length c0 ∧ v1 = .slice A1 ns.length c1 ∧ ws.length ≤ c0 ∧ ns.length ≤ c1 ∧ k76.C w A0 ws.length ws ∧ k87.C w A1 ns.length ns := by
  obtain ⟨m, h1, h2, h3, h4⟩ := h
  obtain ⟨A0, c0, e0, hc0, hr0⟩ := T_reads h3
  obtain ⟨A1, c1, e1, hc1, hr1⟩ := T_reads h4
  exact ⟨A0, c0, A1, c1, e0, e1, hc0, hc1, m_k76 hr0, m_k87 hr1⟩
theorem HubT.reads' {A0 A1 : Option Addr} {n0 n1 c0 c1 : Nat} (h : HubT w lo hi (.slice A0 n0 c0) (.slice A1 n1 c1) ws ns) : ws.length ≤ c0 ∧ ns.length ≤ c1 ∧ k76.C w A0 ws.length ws ∧ k87.C w A1 ns.length ns := by
  obtain ⟨B0, d0, B1, d1, e0, e1, h1, h2, h3, h4⟩ := h.reads
  injection e0 with a1 a2 a3
  injection e1 with b1 b2 b3
  subst a1; subst a3; subst b1; subst b3
  exact ⟨h1, h2, h3, h4⟩
end
theorem k_m112 {w : World} {base : Nat} {ok : Nat → Prop} {x : S112} {cs : List Value} (h : k112.M w base ok x cs) : m112.M w base ok x cs := by
  obtain ⟨v1, rfl, h1⟩ := k112_openM h
  exact m112_mk x (T_of_R h1 (fun _ _ _ h => h))
theorem k_m87 {w : World} {base : Nat} {ok : Nat → Prop} {x : S87} {cs : List Value} (h : k87.M w base ok x cs) : m87.M w base ok x cs := by
  obtain ⟨v1, rfl, h1⟩ := k87_openM h
  exact m87_mk x (T_of_R h1 (fun _ _ _ h => h))
theorem ms_m76 {w : World} {base : Nat} {ok : Nat → Prop} {x : S76} {cs : List Value} (h : ms76.M w base ok x cs) : m76.M w base ok x cs := by
  obtain ⟨v5, rfl, h5⟩ := ms76_open h
  exact m76_mk x (T_imp (T_of_S h5) rfl (fun _ _ _ h => k_m112 h))
/-- The spec's answer: its rows are told nothing of each other. -/
def HubR (w : World) (lo hi : Nat) (v0 v1 : Value) (ws : List S76) (ns : List S87) : Prop :=
  Kd.R k76 76 w 0 (fun k => lo ≤ k ∧ k < hi) v0 ws ∧ Kd.R k87 87 w 0 (fun k => lo ≤ k ∧ k < hi) v1 ns
section
variable {w w1 : World} {lo hi : Nat} {v0 v1 : Value} {ws : List S76} {ns : List S87}
theorem HubR.below (h : HubR w lo hi v0 v1 ws ns) (hb : Below w.heap.size w w1) : HubR w1 lo hi v0 v1 ws ns := ⟨Kd.R_below h.1 hb, Kd.R_below h.2 hb⟩
theorem HubR.tch {S : Nat → Prop} (h : HubR w lo hi v0 v1 ws ns) (ht : Tch w w1 S) (hS : ∀ k, lo ≤ k → k < hi → ¬ S k) : HubR w1 lo hi v0 v1 ws ns :=
  ⟨Kd.R_kept h.1 ht.kept (fun k hk => hS k hk.1 hk.2), Kd.R_kept h.2 ht.kept (fun k hk => hS k hk.1 hk.2)⟩
theorem HubR.reads (h : HubR w lo hi v0 v1 ws ns) : ∃ A0 c0 A1 c1, v0 = .slice A0 ws.length c0 ∧ v1 = .slice A1 ns.length c1 ∧ ws.length ≤ c0 ∧ ns.length ≤ c1 ∧ k76.C w A0 ws.length ws ∧ k87.C w A1 ns.length ns := by
  obtain ⟨A0, c0, e0, hc0, hr0⟩ := Kd.R_reads h.1
  obtain ⟨A1, c1, e1, hc1, hr1⟩ := Kd.R_reads h.2
  exact ⟨A0, c0, A1, c1, e0, e1, hc0, hc1, hr0, hr1⟩
theorem HubR.reads' {A0 A1 : Option Addr} {n0 n1 c0 c1 : Nat} (h : HubR w lo hi (.slice A0 n0 c0) (.slice A1 n1 c1) ws ns) : ws.length ≤ c0 ∧ ns.length ≤ c1 ∧ k76.C w A0 ws.length ws ∧ k87.C w A1 ns.length ns := by
  obtain ⟨B0, d0, B1, d1, e0, e1, h1, h2, h3, h4⟩ := h.reads
  injection e0 with a1 a2 a3
  injection e1 with b1 b2 b3
  subst a1; subst a3; subst b1; subst b3
  exact ⟨h1, h2, h3, h4⟩
theorem HubR.of_R {w w1 : World} {v0 v1 : Value} {ws : List S76} {ns : List S87} (h0 : Kd.R k76 76 w1 w.heap.size (fun _ => True) v0 ws) (h1 : Kd.R k87 87 w1 w.heap.size (fun _ => True) v1 ns) : HubR w1 w.heap.size w1.heap.size v0 v1 ws ns :=
  ⟨Kd.R_mono (Kd.R_lower (Kd.R_bound h0) (Nat.zero_le _)) (fun k hk => ⟨hk.2.1, hk.2.2.1⟩), Kd.R_mono (Kd.R_lower (Kd.R_bound h1) (Nat.zero_le _)) (fun k hk => ⟨hk.2.1, hk.2.2.1⟩)⟩
end

/-! ### toHub, markHub -/
set_option maxRecDepth 100000 in
set_option maxHeartbeats 4000000 in
theorem to_hub (l0 : List S105) (l1 : List S107) (A0 A1 : Option Addr) (c0 c1 : Nat) (w0 w : World) (hr0 : Kd.C k105 w0 A0 l0.length l0) (hc0 : l0.length ≤ c0) (hr1 : Kd.C k107 w0 A1 l1.length l1) (hc1 : l1.length ≤ c1) (hw : Below w0.heap.size w0 w) (hs0 : okWatS l0) (hs1 : okNewS l1) :
    Calls Tryd.prog 27 #[.agg #[.slice A0 l0.length c0, .slice A1 l1.length c1]] w fun e w' => ∃ v0 v1, e = .returned (.agg #[v0, v1]) ∧ HubT w' w.heap.size w'.heap.size v0 v1 (cvWatS l0) (cvNewS l1) ∧ Below w.heap.size w w' := by
  have HR0 := Lib.hid (Kd.C_below hr0 hw)
  have HR1 := Lib.hid (Kd.C_below hr1 hw)
  have HC0 := Lib.hid hc0
  have HC1 := Lib.hid hc1
  have HS0 := Lib.hid hs0
  have HS1 := Lib.hid hs1
  clear hr0 hr1 hw hc0 hc1 hs0 hs1
  go_enter Tryd.func27, Tryd.ntmps27
  go_wp2_with fail
  refine (to_WatS l0 A0 c0 w _ HR0.out HC0.out (by repeat (first | exact Below.refl _ _ | apply below_alloc)) HS0.out).mono ?_
  rintro e w1 ⟨v0, rfl, hT0, hb1⟩
  obtain ⟨B0, d0, rfl, hl0⟩ := T_slice hT0
  have HT0 := Lib.hid (T_now hT0)
  have HB1 := Lib.hid hb1
  have HG1 := Lib.hid (blk_below (show (((w.alloc (.cells #[.slice A0 l0.length c0, .slice A1 l1.length c1] 39)).alloc (.cells #[.slice none 0 0, .slice none 0 0] 44)).alloc (.cells #[.slice none 0 0, .slice none 0 0] 44)).heap[w.heap.size]? = some (.cells #[.slice A0 l0.length c0, .slice A1 l1.length c1] 39 (0, 0)) from blk_alloc (blk_alloc (heap_alloc_new w _) _) _) hb1)
  have HG2 := Lib.hid (blk_below (show (((w.alloc (.cells #[.slice A0 l0.length c0, .slice A1 l1.length c1] 39)).alloc (.cells #[.slice none 0 0, .slice none 0 0] 44)).alloc (.cells #[.slice none 0 0, .slice none 0 0] 44)).heap[w.heap.size + 1]? = some (.cells #[.slice none 0 0, .slice none 0 0] 44 (0, 0)) from blk_alloc (by have := heap_alloc_new (w.alloc (.cells #[.slice A0 l0.length c0, .slice A1 l1.length c1] 39)) (.cells #[.slice none 0 0, .slice none 0 0] 44); rwa [World.size_alloc] at this) _) hb1)
  have HG3 := Lib.hid (blk_below (show (((w.alloc (.cells #[.slice A0 l0.length c0, .slice A1 l1.length c1] 39)).alloc (.cells #[.slice none 0 0, .slice none 0 0] 44)).alloc (.cells #[.slice none 0 0, .slice none 0 0] 44)).heap[w.heap.size + 2]? = some (.cells #[.slice none 0 0, .slice none 0 0] 44 (0, 0)) from by have := heap_alloc_new ((w.alloc (.cells #[.slice A0 l0.length c0, .slice A1 l1.length c1] 39)).alloc (.cells #[.slice none 0 0, .slice none 0 0] 44)) (.cells #[.slice none 0 0, .slice none 0 0] 44); rwa [World.size_alloc, World.size_alloc] at this) hb1)
  have HB2 := Lib.hid (show Below w.heap.size w w1 from below_then (by repeat (first | exact Below.refl _ _ | apply below_alloc)) (by simp <;> omega) hb1)
  have HZ1 := Lib.hid (show w.heap.size + 3 ≤ w1.heap.size by have := hb1.size; simp at this; omega)
  have HT0' := Lib.hid (T_mono (T_now hT0) (ok' := fun k => w.heap.size + 3 ≤ k ∧ k < w1.heap.size) (fun k hk => by have h1 := hk.1; simp at h1; exact ⟨h1, hk.2.2⟩))
  have hx0 := blk_cell HG3.out 0
  have hx1 := blk_cell HG1.out 1
  have hf0 := blk_frozen HG3.out 0
  simp only [List.getElem?_toArray, List.getElem?_cons_zero, List.getElem?_cons_succ] at hx0 hx1
  clear hT0 hb1 hl0 HT0 HB1
  go_wp2_with fail
  refine (to_NewS l1 A1 c1 w _ HR1.out HC1.out (HB2.out.setCell (by show w.heap.size ≤ w.heap.size + 1 + 1; omega) _) HS1.out).mono ?_
  rintro e w2 ⟨v1, rfl, hT1, hb2⟩
  obtain ⟨B1, d1, rfl, hl1⟩ := T_slice hT1
  have HG22 := Lib.hid (blk_below (blk_far HG2.out (p := ⟨w.heap.size + 1 + 1, 0, none⟩) (by show w.heap.size + 1 ≠ w.heap.size + 1 + 1; omega) (.slice B0 (cvWatS l0).length d0)) hb2)
  have HG32 := Lib.hid (blk_below (blk_set HG3.out 0 (.slice B0 (cvWatS l0).length d0)) hb2)
  have HT02 := Lib.hid (T_below (T_far HT0'.out (p := ⟨w.heap.size + 1 + 1, 0, none⟩) (fun k hk => by show k ≠ w.heap.size + 1 + 1; omega) (.slice B0 (cvWatS l0).length d0)) hb2)
  have HT12 := Lib.hid (T_mono (T_now hT1) (ok' := fun k => w1.heap.size ≤ k ∧ k < w2.heap.size) (fun k hk => by have h1 := hk.1; rw [size_set] at h1; exact ⟨h1, hk.2.2⟩))
  have HB3 := Lib.hid (show Below w.heap.size w w2 from below_then (HB2.out.setCell (p := ⟨w.heap.size + 1 + 1, 0, none⟩) (by show w.heap.size ≤ w.heap.size + 1 + 1; omega) _) (by rw [size_set]; exact HB2.out.size) hb2)
  have HZ2 := Lib.hid (show w1.heap.size ≤ w2.heap.size by have := hb2.size; rwa [size_set] at this)
  clear hT1 hb2 hl1 hx0 hx1 hf0
  have hx0 := blk_cell HG32.out 0
  have hx1 := blk_cell HG32.out 1
  have hf1 := blk_frozen HG32.out 1
  have hy0 := blk_cell HG22.out 0
  have hy1 := blk_cell HG22.out 1
  have hg0 := blk_frozen HG22.out 0
  have hg1 := blk_frozen HG22.out 1
  simp only [List.getElem?_toArray, List.getElem?_cons_zero, List.getElem?_cons_succ, List.setIfInBounds_toArray, List.set_cons_zero] at hx0 hx1 hy0 hy1
  go_wp2_with fail
  refine bodyPost_ret (v := .agg #[.slice B0 (cvWatS l0).length d0, .slice B1 (cvNewS l1).length d1]) (by simp [results, Tryd.results27, go_sem, hy0, hy1]) rfl ⟨_, _, rfl, ⟨w1.heap.size, ?_, ?_, ?_, ?_⟩, ?_⟩
  · have := HZ1.out; omega
  · rw [size_set, size_set, size_set]; exact HZ2.out
  · exact T_mono (T_far (T_far (T_far HT02.out (fun k hk => by show k ≠ w.heap.size + 1 + 1; omega) _) (fun k hk => by show k ≠ w.heap.size + 1; omega) _) (fun k hk => by show k ≠ w.heap.size + 1; omega) _) (fun k hk => by omega)
  · simp only [size_set]
    exact T_far (T_far (T_far HT12.out (fun k hk => by show k ≠ w.heap.size + 1 + 1; have := HZ1.out; omega) _) (fun k hk => by show k ≠ w.heap.size + 1; have := HZ1.out; omega) _) (fun k hk => by show k ≠ w.heap.size + 1; have := HZ1.out; omega) _
  · exact ((HB3.out.setCell (by show w.heap.size ≤ w.heap.size + 1 + 1; omega) _).setCell (by show w.heap.size ≤ w.heap.size + 1; omega) _).setCell (by show w.heap.size ≤ w.heap.size + 1; omega) _

set_option maxRecDepth 100000 in
set_option maxHeartbeats 4000000 in
theorem mark_hub (ws : List S76) (ns : List S87) (a1 : Int) (u0 u1 : Value) (lo hi : Nat) (w : World) (h0 : 0 ≤ a1) (hb : a1 + cWatS ws + cNewS ns ≤ 4611686018427387904) (hT : HubT w lo hi u0 u1 ws ns) (hhi : hi ≤ w.heap.size) :
    Calls Tryd.prog 30 #[.agg #[u0, u1], .int .i64 a1] w fun e w' => e = .returned (.int .i64 (a1 + cWatS ws + cNewS ns)) ∧ HubT w' lo hi u0 u1 (mkWatS a1 ws) (mkNewS (a1 + cWatS ws) ns) ∧ Tch w w' (fun k => lo ≤ k ∧ k < hi) := by
  obtain ⟨m, hm0, hm1, hT0, hT1⟩ := hT
  obtain ⟨A0, c0, rfl, hc0⟩ := T_slice hT0
  obtain ⟨A1, c1, rfl, hc1⟩ := T_slice hT1
  have HT0 := Lib.hid hT0
  have HT1 := Lib.hid hT1
  clear hT0 hT1 hc0 hc1
  go_enter Tryd.func30, Tryd.ntmps30
  go_wp2_with fail
  refine (mark_Wat ws a1 _ _ _ h0 (by omega) (T_below HT0.out (below_alloc (Below.refl _ _) _))).mono ?_
  rintro e w1 ⟨rfl, hT2, ht1⟩
  have HG := Lib.hid (blk_kept (heap_alloc_new w (.cells #[.slice A0 ws.length c0, .slice A1 ns.length c1] 44)) ht1.kept (fun h => by omega))
  have HT2 := Lib.hid hT2
  have HT3 := Lib.hid (T_kept (T_below HT1.out (below_alloc (Below.refl _ _) (.cells #[.slice A0 ws.length c0, .slice A1 ns.length c1] 44))) ht1.kept (fun k hk hS => by omega))
  have HK := Lib.hid (((Tch.refl w (fun k => lo ≤ k ∧ k < hi)).below (below_alloc (Below.refl _ _) (.cells #[.slice A0 ws.length c0, .slice A1 ns.length c1] 44))).then_ ht1 (fun k hk => .inl (by omega)))
  have hx1 := blk_cell HG.out 1
  simp only [List.getElem?_toArray, List.getElem?_cons_zero, List.getElem?_cons_succ] at hx1
  clear hT2 ht1
  go_wp2_with fail
  refine (mark_New ns (a1 + cWatS ws) _ _ _ (by omega) (by omega) HT3.out).mono ?_
  rintro e w2 ⟨rfl, hT4, ht2⟩
  have HT4 := Lib.hid hT4
  have HT5 := Lib.hid (T_kept HT2.out ht2.kept (fun k hk hS => by omega))
  have HK2 := Lib.hid (HK.out.then_ ht2 (fun k hk => .inl (by omega)))
  clear hT4 ht2 hx1
  go_wp2_with fail
  go_ret
  exact ⟨rfl, ⟨m, hm0, hm1, HT5.out, HT4.out⟩, HK2.out⟩

end Go.Proofs.YtmphkhkbegihaaaDoor.HubLaw
