/- Plain laws of the printed spec functions on hubs. -/
import Derived.Test.YtmphkhkbegihaaaDoorPHubx
import Derived.Test.YtmphkhkbegihaaaDoorCopy
import Derived.Test.YtmphkhkbegihaaaDoorPure
namespace Go.Proofs.YtmphkhkbegihaaaDoor.SpecP
open Go Go.RowKit Go.Proofs.YtmphkhkbegihaaaDoor.PHub Go.Proofs.YtmphkhkbegihaaaDoorW.PrintWords Go.Proofs.YtmphkhkbegihaaaDoor.Copy
set_option linter.unusedVariables false
set_option linter.unusedSimpArgs false

theorem texts_id (l : List ByteArray) (h : l.length ≤ 4194304) : spec_l5Texts.f l = some l := by
  unfold spec_l5Texts.f
  simp only [Option.bind_some, List.length_nil, List.nil_append]
  rw [if_pos (by omega)]
theorem msg_id (x : S112) (h : x.f1.length ≤ 4194304) : spec_l5Message.f x.f0 x.f1 x.f2 = some (x.f0, x.f1, x.f2) := by
  unfold spec_l5Message.f
  rw [texts_id _ h]
  rfl
theorem watch_loop (f0 : Int) (f1 : ByteArray) (f2 f3 : Int) (f4 : Bool) : ∀ (q p acc : List S112), fitMsgS (p ++ q) → acc.length + q.length ≤ 4194304 → Ev (fun k => spec_l5Watch.l0 k acc (p.length : Int) f0 f1 f2 f3 f4 (p ++ q)) (f0, f1, f2, f3, f4, acc ++ q)
  | [], p, acc, hf, hl => by
    refine Ev.step (f := fun _ => some (f0, f1, f2, f3, f4, acc ++ [])) (fun k => ?_) (Ev.now _)
    simp [spec_l5Watch.l0]
  | x :: q, p, acc, hf, hl => by
    have hrd : rd_T112 (p ++ x :: q) (p.length : Int) = x := by simp [rd_T112]
    have hlen : (p ++ x :: q).length = p.length + q.length + 1 := by simp; omega
    have hx : x.f1.length ≤ 4194304 := hf.2 x (by simp)
    have hl1 := hf.1
    have ih := watch_loop f0 f1 f2 f3 f4 q (p ++ [x]) (acc ++ [x]) (by simpa using hf) (by simp at hl ⊢; omega)
    refine Ev.step (fun k => ?_) (by simpa using ih)
    simp only [spec_l5Watch.l0]
    simp only [List.length_cons] at hl
    rw [if_pos (by omega), if_pos (by omega), hrd, msg_id x hx]
    simp only [Option.bind_some]
    rw [if_pos (by omega), show wrap64 ((p.length : Int) + 1) = (p.length : Int) + 1 by unfold wrap64; omega]
theorem watch_id (x : S76) (h : fitMsgS x.f5) : Ev (fun k => spec_l5Watch.f k x.f0 x.f1 x.f2 x.f3 x.f4 x.f5 0) (x.f0, x.f1, x.f2, x.f3, x.f4, x.f5) := by
  have h2 := watch_loop x.f0 x.f1 x.f2 x.f3 x.f4 x.f5 [] [] h (by simpa using h.1)
  simpa [spec_l5Watch.f] using h2
/-- A list without its place s, told from place i on. -/
def wo {α : Type} (s : Int) : Nat → List α → List α
  | _, [] => []
  | i, x :: t => if (i : Int) = s then wo s (i + 1) t else x :: wo s (i + 1) t
end Go.Proofs.YtmphkhkbegihaaaDoor.SpecP
namespace Go.Proofs.YtmphkhkbegihaaaDoor.HubLaw
open Go Go.RowKit Go.Proofs.YtmphkhkbegihaaaDoor.PHub Go.Proofs.YtmphkhkbegihaaaDoorW.PrintWords Go.Proofs.YtmphkhkbegihaaaDoor.Tree Go.Proofs.YtmphkhkbegihaaaDoor.Mark Go.Proofs.YtmphkhkbegihaaaDoor.To Go.Proofs.YtmphkhkbegihaaaDoor.Copy Go.Proofs.YtmphkhkbegihaaaDoor.Plain Go.Proofs.YtmphkhkbegihaaaDoor.SpecP Go.Proofs.YtmphkhkbegihaaaDoor.Open
set_option linter.unusedVariables false
set_option linter.unusedSimpArgs false

/-- A hub of one's own: its two rows, apart from each other, in the blocks from lo to hi. -/
def HubT (w : World) (lo hi : Nat) (v0 v1 : Value) (ws : List S76) (ns : List S87) : Prop :=
  ∃ m, lo ≤ m ∧ m ≤ hi ∧ T m76 76 w 0 (fun k => lo ≤ k ∧ k < m) v0 ws ∧ T m87 87 w 0 (fun k => m ≤ k ∧ k < hi) v1 ns
theorem m_k76 {w : World} {A : Option Addr} {n : Nat} {ws : List S76} (h : m76.C w A n ws) : k76.C w A n ws := h
theorem m_k87 {w : World} {A : Option Addr} {n : Nat} {ns : List S87} (h : m87.C w A n ns) : k87.C w A n ns := h
section
variable {w w1 : World} {lo hi : Nat} {v0 v1 : Value} {ws : List S76} {ns : List S87}
theorem HubT.below (h : HubT w lo hi v0 v1 ws ns) (hb : Below w.heap.size w w1) : HubT w1 lo hi v0 v1 ws ns := by
  obtain ⟨m, h1, h2, h3, h4⟩ := h
  exact ⟨m, h1, h2, T_below h3 hb, T_below h4 hb⟩
theorem HubT.tch {S : Nat → Prop} (h : HubT w lo hi v0 v1 ws ns) (ht : Tch w w1 S) (hS : ∀ k, lo ≤ k → k < hi → ¬ S k) : HubT w1 lo hi v0 v1 ws ns := by
  obtain ⟨m, h1, h2, h3, h4⟩ := h
  exact ⟨m, h1, h2, T_kept h3 ht.kept (fun k hk => hS k (by omega) (by omega)), T_kept h4 ht.kept (fun k hk => hS k (by omega) (by omega))⟩
theorem HubT.reads (h : HubT w lo hi v0 v1 ws ns) : ∃ A0 c0 A1 c1, v0 = .slice A0 ws.length c0 ∧ v1 = .slice A1 ns.length c1 ∧ ws.length ≤ c0 ∧ ns.length ≤ c1 ∧ k76.C w A0 ws.length ws ∧ k87.C w A1 ns.length ns := by
  obtain ⟨m, h1, h2, h3, h4⟩ := h
  obtain ⟨A0, c0, e0, hc0, hr0⟩ := T_reads h3
  obtain ⟨A1, c1, e1, hc1, hr1⟩ := T_reads h4
  exact ⟨A0, c0, A1, c1, e0, e1, hc0, hc1, m_k76 hr0, m_k87 hr1⟩
theorem HubT.reads' {A0 A1 : Option Addr} {n0 n1 c0 c1 : Nat} (h : HubT w lo hi (.slice A0 n0 c0) (.slice A1 n1 c1) ws ns) : ws.length ≤ c0 ∧ ns.length ≤ c1 ∧ k76.C w A0 ws.length ws ∧ k87.C w A1 ns.length ns := by
  obtain ⟨B0, d0, B1, d1, e0, e1, h1, h2, h3, h4⟩ := h.reads
  injection e0 with a1 a2 a3
  injection e1 with b1 b2 b3
  subst a1; subst a3; subst b1; subst b3
  exact ⟨h1, h2, h3, h4⟩
end
theorem k_m112 {w : World} {base : Nat} {ok : Nat → Prop} {x : S112} {cs : List Value} (h : k112.M w base ok x cs) : m112.M w base ok x cs := by
  obtain ⟨v1, rfl, h1⟩ := k112_openM h
  exact m112_mk x (T_of_R h1 (fun _ _ _ h => h))
theorem k_m87 {w : World} {base : Nat} {ok : Nat → Prop} {x : S87} {cs : List Value} (h : k87.M w base ok x cs) : m87.M w base ok x cs := by
  obtain ⟨v1, rfl, h1⟩ := k87_openM h
  exact m87_mk x (T_of_R h1 (fun _ _ _ h => h))
theorem ms_m76 {w : World} {base : Nat} {ok : Nat → Prop} {x : S76} {cs : List Value} (h : ms76.M w base ok x cs) : m76.M w base ok x cs := by
  obtain ⟨v5, rfl, h5⟩ := ms76_open h
  exact m76_mk x (T_imp (T_of_S h5) rfl (fun _ _ _ h => k_m112 h))
/-- The spec's answer: its rows are told nothing of each other. -/
def HubR (w : World) (lo hi : Nat) (v0 v1 : Value) (ws : List S76) (ns : List S87) : Prop :=
  Kd.R k76 76 w 0 (fun k => lo ≤ k ∧ k < hi) v0 ws ∧ Kd.R k87 87 w 0 (fun k => lo ≤ k ∧ k < hi) v1 ns
section
variable {w w1 : World} {lo hi : Nat} {v0 v1 : Value} {ws : List S76} {ns : List S87}
theorem HubR.below (h : HubR w lo hi v0 v1 ws ns) (hb : Below w.heap.size w w1) : HubR w1 lo hi v0 v1 ws ns := ⟨Kd.R_below h.1 hb, Kd.R_below h.2 hb⟩
theorem HubR.tch {S : Nat → Prop} (h : HubR w lo hi v0 v1 ws ns) (ht : Tch w w1 S) (hS : ∀ k, lo ≤ k → k < hi → ¬ S k) : HubR w1 lo hi v0 v1 ws ns :=
  ⟨Kd.R_kept h.1 ht.kept (fun k hk => hS k hk.1 hk.2), Kd.R_kept h.2 ht.kept (fun k hk => hS k hk.1 hk.2)⟩
theorem HubR.reads (h : HubR w lo hi v0 v1 ws ns) : ∃ A0 c0 A1 c1, v0 = .slice A0 ws.length c0 ∧ v1 = .slice A1 ns.length c1 ∧ ws.length ≤ c0 ∧ ns.length ≤ c1 ∧ k76.C w A0 ws.length ws ∧ k87.C w A1 ns.length ns := by
  obtain ⟨A0, c0, e0, hc0, hr0⟩ := Kd.R_reads h.1
  obtain ⟨A1, c1, e1, hc1, hr1⟩ := Kd.R_reads h.2
  exact ⟨A0, c0, A1, c1, e0, e1, hc0, hc1, hr0, hr1⟩
theorem HubR.reads' {A0 A1 : Option Addr} {n0 n1 c0 c1 : Nat} (h : HubR w lo hi (.slice A0 n0 c0) (.slice A1 n1 c1) ws ns) : ws.length ≤ c0 ∧ ns.length ≤ c1 ∧ k76.C w A0 ws.length ws ∧ k87.C w A1 ns.length ns := by
  obtain ⟨B0, d0, B1, d1, e0, e1, h1, h2, h3, h4⟩ := h.reads
  injection e0 with a1 a2 a3
  injection e1 with b1 b2 b3
  subst a1; subst a3; subst b1; subst b3
  exact ⟨h1, h2, h3, h4⟩
end

/-! ### toHub, markHub -/
set_option maxRecDepth 100000 in
set_option maxHeartbeats 4000000 in
theorem to_hub (l0 : List S105) (l1 : List S107) (A0 A1 : Option Addr) (c0 c1 : Nat) (w0 w : World) (hr0 : Kd.C k105 w0 A0 l0.length l0) (hc0 : l0.length ≤ c0) (hr1 : Kd.C k107 w0 A1 l1.length l1) (hc1 : l1.length ≤ c1) (hw : Below w0.heap.size w0 w) (hs0 : okWatS l0) (hs1 : okNewS l1) :
    Calls Tryd.prog 27 #[.agg #[.slice A0 l0.length c0, .slice A1 l1.length c1]] w fun e w' => ∃ v0 v1, e = .returned (.agg #[v0, v1]) ∧ HubT w' w.heap.size w'.heap.size v0 v1 (cvWatS l0) (cvNewS l1) ∧ Below w.heap.size w w' := by
  have HR0 := Lib.hid (Kd.C_below hr0 hw)
  have HR1 := Lib.hid (Kd.C_below hr1 hw)
  have HC0 := Lib.hid hc0
  have HC1 := Lib.hid hc1
  have HS0 := Lib.hid hs0
  have HS1 := Lib.hid hs1
  clear hr0 hr1 hw hc0 hc1 hs0 hs1
  go_enter Tryd.func27, Tryd.ntmps27
  go_wp2_with fail
  refine (to_WatS l0 A0 c0 w _ HR0.out HC0.out (by repeat (first | exact Below.refl _ _ | apply below_alloc)) HS0.out).mono ?_
  rintro e w1 ⟨v0, rfl, hT0, hb1⟩
  obtain ⟨B0, d0, rfl, hl0⟩ := T_slice hT0
  have HT0 := Lib.hid (T_now hT0)
  have HB1 := Lib.hid hb1
  have HG1 := Lib.hid (blk_below (show (((w.alloc (.cells #[.slice A0 l0.length c0, .slice A1 l1.length c1] 39)).alloc (.cells #[.slice none 0 0, .slice none 0 0] 44)).alloc (.cells #[.slice none 0 0, .slice none 0 0] 44)).heap[w.heap.size]? = some (.cells #[.slice A0 l0.length c0, .slice A1 l1.length c1] 39 (0, 0)) from blk_alloc (blk_alloc (heap_alloc_new w _) _) _) hb1)
  have HG2 := Lib.hid (blk_below (show (((w.alloc (.cells #[.slice A0 l0.length c0, .slice A1 l1.length c1] 39)).alloc (.cells #[.slice none 0 0, .slice none 0 0] 44)).alloc (.cells #[.slice none 0 0, .slice none 0 0] 44)).heap[w.heap.size + 1]? = some (.cells #[.slice none 0 0, .slice none 0 0] 44 (0, 0)) from blk_alloc (by have := heap_alloc_new (w.alloc (.cells #[.slice A0 l0.length c0, .slice A1 l1.length c1] 39)) (.cells #[.slice none 0 0, .slice none 0 0] 44); rwa [World.size_alloc] at this) _) hb1)
  have HG3 := Lib.hid (blk_below (show (((w.alloc (.cells #[.slice A0 l0.length c0, .slice A1 l1.length c1] 39)).alloc (.cells #[.slice none 0 0, .slice none 0 0] 44)).alloc (.cells #[.slice none 0 0, .slice none 0 0] 44)).heap[w.heap.size + 2]? = some (.cells #[.slice none 0 0, .slice none 0 0] 44 (0, 0)) from by have := heap_alloc_new ((w.alloc (.cells #[.slice A0 l0.length c0, .slice A1 l1.length c1] 39)).alloc (.cells #[.slice none 0 0, .slice none 0 0] 44)) (.cells #[.slice none 0 0, .slice none 0 0] 44); rwa [World.size_alloc, World.size_alloc] at this) hb1)
  have HB2 := Lib.hid (show Below w.heap.size w w1 from below_then (by repeat (first | exact Below.refl _ _ | apply below_alloc)) (by simp <;> omega) hb1)
  have HZ1 := Lib.hid (show w.heap.size + 3 ≤ w1.heap.size by have := hb1.size; simp at this; omega)
  have HT0' := Lib.hid (T_mono (T_now hT0) (ok' := fun k => w.heap.size + 3 ≤ k ∧ k < w1.heap.size) (fun k hk => by have h1 := hk.1; simp at h1; exact ⟨h1, hk.2.2⟩))
  have hx0 := blk_cell HG3.out 0
  have hx1 := blk_cell HG1.out 1
  have hf0 := blk_frozen HG3.out 0
  simp only [List.getElem?_toArray, List.getElem?_cons_zero, List.getElem?_cons_succ] at hx0 hx1
  clear hT0 hb1 hl0 HT0 HB1
  go_wp2_with fail
  refine (to_NewS l1 A1 c1 w _ HR1.out HC1.out (HB2.out.setCell (by show w.heap.size ≤ w.heap.size + 1 + 1; omega) _) HS1.out).mono ?_
  rintro e w2 ⟨v1, rfl, hT1, hb2⟩
  obtain ⟨B1, d1, rfl, hl1⟩ := T_slice hT1
  have HG22 := Lib.hid (blk_below (blk_far HG2.out (p := ⟨w.heap.size + 1 + 1, 0, none⟩) (by show w.heap.size + 1 ≠ w.heap.size + 1 + 1; omega) (.slice B0 (cvWatS l0).length d0)) hb2)
  have HG32 := Lib.hid (blk_below (blk_set HG3.out 0 (.slice B0 (cvWatS l0).length d0)) hb2)
  have HT02 := Lib.hid (T_below (T_far HT0'.out (p := ⟨w.heap.size + 1 + 1, 0, none⟩) (fun k hk => by show k ≠ w.heap.size + 1 + 1; omega) (.slice B0 (cvWatS l0).length d0)) hb2)
  have HT12 := Lib.hid (T_mono (T_now hT1) (ok' := fun k => w1.heap.size ≤ k ∧ k < w2.heap.size) (fun k hk => by have h1 := hk.1; rw [size_set] at h1; exact ⟨h1, hk.2.2⟩))
  have HB3 := Lib.hid (show Below w.heap.size w w2 from below_then (HB2.out.setCell (p := ⟨w.heap.size + 1 + 1, 0, none⟩) (by show w.heap.size ≤ w.heap.size + 1 + 1; omega) _) (by rw [size_set]; exact HB2.out.size) hb2)
  have HZ2 := Lib.hid (show w1.heap.size ≤ w2.heap.size by have := hb2.size; rwa [size_set] at this)
  clear hT1 hb2 hl1 hx0 hx1 hf0
  have hx0 := blk_cell HG32.out 0
  have hx1 := blk_cell HG32.out 1
  have hf1 := blk_frozen HG32.out 1
  have hy0 := blk_cell HG22.out 0
  have hy1 := blk_cell HG22.out 1
  have hg0 := blk_frozen HG22.out 0
  have hg1 := blk_frozen HG22.out 1
  simp only [List.getElem?_toArray, List.getElem?_cons_zero, List.getElem?_cons_succ, List.setIfInBounds_toArray, List.set_cons_zero] at hx0 hx1 hy0 hy1
  go_wp2_with fail
  refine bodyPost_ret (v := .agg #[.slice B0 (cvWatS l0).length d0, .slice B1 (cvNewS l1).length d1]) (by simp [results, Tryd.results27, go_sem, hy0, hy1]) rfl ⟨_, _, rfl, ⟨w1.heap.size, ?_, ?_, ?_, ?_⟩, ?_⟩
  · have := HZ1.out; omega
  · rw [size_set, size_set, size_set]; exact HZ2.out
  · exact T_mono (T_far (T_far (T_far HT02.out (fun k hk => by show k ≠ w.heap.size + 1 + 1; omega) _) (fun k hk => by show k ≠ w.heap.size + 1; omega) _) (fun k hk => by show k ≠ w.heap.size + 1; omega) _) (fun k hk => by omega)
  · simp only [size_set]
    exact T_far (T_far (T_far HT12.out (fun k hk => by show k ≠ w.heap.size + 1 + 1; have := HZ1.out; omega) _) (fun k hk => by show k ≠ w.heap.size + 1; have := HZ1.out; omega) _) (fun k hk => by show k ≠ w.heap.size + 1; have := HZ1.out; omega) _
  · exact ((HB3.out.setCell (by show w.heap.size ≤ w.heap.size + 1 + 1; omega) _).setCell (by show w.heap.size ≤ w.heap.size + 1; omega) _).setCell (by show w.heap.size ≤ w.heap.size + 1; omega) _

set_option maxRecDepth 100000 in
set_option maxHeartbeats 4000000 in
theorem mark_hub (ws : List S76) (ns : List S87) (a1 : Int) (u0 u1 : Value) (lo hi : Nat) (w : World) (h0 : 0 ≤ a1) (hb : a1 + cWatS ws + cNewS ns ≤ 4611686018427387904) (hT : HubT w lo hi u0 u1 ws ns) (hhi : hi ≤ w.heap.size) :
    Calls Tryd.prog 30 #[.agg #[u0, u1], .int .i64 a1] w fun e w' => e = .returned (.int .i64 (a1 + cWatS ws + cNewS ns)) ∧ HubT w' lo hi u0 u1 (mkWatS a1 ws) (mkNewS (a1 + cWatS ws) ns) ∧ Tch w w' (fun k => lo ≤ k ∧ k < hi) := by
  obtain ⟨m, hm0, hm1, hT0, hT1⟩ := hT
  obtain ⟨A0, c0, rfl, hc0⟩ := T_slice hT0
  obtain ⟨A1, c1, rfl, hc1⟩ := T_slice hT1
  have HT0 := Lib.hid hT0
  have HT1 := Lib.hid hT1
  clear hT0 hT1 hc0 hc1
  go_enter Tryd.func30, Tryd.ntmps30
  go_wp2_with fail
  refine (mark_Wat ws a1 _ _ _ h0 (by omega) (T_below HT0.out (below_alloc (Below.refl _ _) _))).mono ?_
  rintro e w1 ⟨rfl, hT2, ht1⟩
  have HG := Lib.hid (blk_kept (heap_alloc_new w (.cells #[.slice A0 ws.length c0, .slice A1 ns.length c1] 44)) ht1.kept (fun h => by omega))
  have HT2 := Lib.hid hT2
  have HT3 := Lib.hid (T_kept (T_below HT1.out (below_alloc (Below.refl _ _) (.cells #[.slice A0 ws.length c0, .slice A1 ns.length c1] 44))) ht1.kept (fun k hk hS => by omega))
  have HK := Lib.hid (((Tch.refl w (fun k => lo ≤ k ∧ k < hi)).below (below_alloc (Below.refl _ _) (.cells #[.slice A0 ws.length c0, .slice A1 ns.length c1] 44))).then_ ht1 (fun k hk => .inl (by omega)))
  have hx1 := blk_cell HG.out 1
  simp only [List.getElem?_toArray, List.getElem?_cons_zero, List.getElem?_cons_succ] at hx1
  clear hT2 ht1
  go_wp2_with fail
  refine (mark_New ns (a1 + cWatS ws) _ _ _ (by omega) (by omega) HT3.out).mono ?_
  rintro e w2 ⟨rfl, hT4, ht2⟩
  have HT4 := Lib.hid hT4
  have HT5 := Lib.hid (T_kept HT2.out ht2.kept (fun k hk hS => by omega))
  have HK2 := Lib.hid (HK.out.then_ ht2 (fun k hk => .inl (by omega)))
  clear hT4 ht2 hx1
  go_wp2_with fail
  go_ret
  exact ⟨rfl, ⟨m, hm0, hm1, HT5.out, HT4.out⟩, HK2.out⟩

end Go.Proofs.YtmphkhkbegihaaaDoor.HubLaw
namespace Go.Proofs.YtmphkhkbegihaaaDoor.HubLaw
open Go Go.RowKit Go.Proofs.YtmphkhkbegihaaaDoor.PHub Go.Proofs.YtmphkhkbegihaaaDoorW.PrintWords Go.Proofs.YtmphkhkbegihaaaDoor.Tree Go.Proofs.YtmphkhkbegihaaaDoor.Mark Go.Proofs.YtmphkhkbegihaaaDoor.To Go.Proofs.YtmphkhkbegihaaaDoor.Copy Go.Proofs.YtmphkhkbegihaaaDoor.Plain Go.Proofs.YtmphkhkbegihaaaDoor.SpecP Go.Proofs.YtmphkhkbegihaaaDoor.Open
set_option linter.unusedVariables false
set_option linter.unusedSimpArgs false

theorem below_tch {w W W1 : World} {S : Nat → Prop} (h : Below w.heap.size w W) (ht : Tch W W1 S) (hS : ∀ k, S k → w.heap.size ≤ k) : Below w.heap.size w W1 :=
  ⟨ht.os.trans h.os, ht.tape.trans h.tape, ht.output.trans h.output, Nat.le_trans h.size ht.kept.1, fun k hk => (ht.kept.2 k (Nat.lt_of_lt_of_le hk h.size) (fun hs => by have := hS k hs; omega)).trans (h.block k hk)⟩
def bdHub (l0 : List S105) (l1 : List S107) : Prop := ((∀ x ∈ l0, bdWat x) ∧ l0.length ≤ 9223372036854775807) ∧ ((∀ x ∈ l1, bdNew x) ∧ l1.length ≤ 9223372036854775807)
theorem szHub_tells (l0 : List S105) (l1 : List S107) (hb : bdHub l0 l1) : ∃ r, Ev (fun k => laws_szHub.f k l0 l1 1048576) r ∧ (r < 0 ∨ (0 ≤ r ∧ r + (wWatS l0 : Nat) + (wNewS l1 : Nat) ≤ 1048576 ∧ okWatS l0 ∧ okNewS l1)) := by
  obtain ⟨r0, e0, g0⟩ := szWatS_tells l0 hb.1 1048576 (by omega) (by omega)
  by_cases c : r0 < 0
  · refine ⟨-1, Ev.bind e0 ?_, .inl (by omega)⟩
    simpa [c] using Ev.now (-1 : Int)
  · rcases g0 with g0 | g0
    · exact absurd g0 c
    · obtain ⟨r1, e1, g1⟩ := szNewS_tells l1 hb.2 r0 g0.1 (by omega)
      refine ⟨if r1 < 0 then -1 else r1, Ev.bind e0 ?_, ?_⟩
      · simp only [if_neg c]
        refine Ev.bind e1 ?_
        by_cases c1 : r1 < 0
        · simpa [c1] using Ev.now (-1 : Int)
        · simpa [c1] using Ev.now r1
      · rcases g1 with g1 | g1
        · left; rw [if_pos g1]; omega
        · right; rw [if_neg (by omega)]; exact ⟨g1.1, by omega, g0.2.2, g1.2.2⟩
theorem fit_news (l : List S107) (h : okNewS l) : fitNewS (cvNewS l) := by
  refine ⟨by simpa [cvNewS] using h.1, fun x hx => ?_⟩
  obtain ⟨y, hy, rfl⟩ := List.mem_map.1 hx
  exact h.2 y hy
theorem fit_msgs (l : List S140) (h : okMsgS l) : fitMsgS (cvMsgS l) := by
  refine ⟨by simpa [cvMsgS] using h.1, fun x hx => ?_⟩
  obtain ⟨y, hy, rfl⟩ := List.mem_map.1 hx
  exact h.2 y hy
theorem fit_watches (l : List S105) (h : okWatS l) : fitWatS (cvWatS l) := by
  refine ⟨by simpa [cvWatS] using h.1, fun x hx => ?_⟩
  obtain ⟨y, hy, rfl⟩ := List.mem_map.1 hx
  exact fit_msgs _ (h.2 y hy)
theorem small_msgs (l : List S112) (h : fitMsgS l) : smallMsgS l := ⟨by have := h.1; omega, fun x hx => by have := h.2 x hx; show x.f1.length ≤ _; omega⟩
theorem small_watches (l : List S76) (h : fitWatS l) : smallWatS l := ⟨by have := h.1; omega, fun x hx => small_msgs _ (h.2 x hx)⟩
theorem small_news (l : List S87) (h : fitNewS l) : smallNewS l := ⟨by have := h.1; omega, fun x hx => by have := h.2 x hx; show x.f1.length ≤ _; omega⟩
theorem eqHub_ev (ws : List S76) (ns : List S87) (h0 : smallWatS ws) (h1 : smallNewS ns) : Ev (fun k => laws_eqHub.f k ws ns ws ns) true := by
  refine Ev.bind (eqWatS_refl ws h0) ?_
  have e : (fun n => if (true : Bool) = true then (laws_eqNewsS.f n ns ns).bind fun t => if t = true then some true else some false else some false) = fun n => (laws_eqNewsS.f n ns ns).bind fun t => if t = true then some true else some false := by
    funext n
    rw [if_pos rfl]
  show Ev (fun n => if (true : Bool) = true then (laws_eqNewsS.f n ns ns).bind fun t => if t = true then some true else some false else some false) true
  rw [e]
  refine Ev.bind (eqNewS_refl ns h1) ?_
  simpa using Ev.now true
theorem heldHub_ev (ws : List S76) (ns : List S87) (a : Int) (h0 : 0 ≤ a) (hb : a + cWatS ws + cNewS ns ≤ 4611686018427387904) :
    Ev (fun k => laws_heldHub.f k (mkWatS a ws) (mkNewS (a + cWatS ws) ns) a) (a + cWatS ws + cNewS ns) := by
  have hl0 := lenWatS_le ws
  have hl1 := lenNewS_le ns
  refine Ev.bind (heldWatS_tells ws a h0 (by omega) (by omega)) ?_
  have hn : ¬ (a + ((cWatS ws : Nat) : Int) < 0) := by omega
  have hn2 : ¬ (a + ((cWatS ws : Nat) : Int) + ((cNewS ns : Nat) : Int) < 0) := by omega
  simp only [if_neg hn]
  refine Ev.bind (heldNewS_tells ns _ (by omega) (by omega) (by omega)) ?_
  simp only [if_neg hn2]
  exact Ev.now _
/-! ### the printed contracts at the law's own places -/
theorem eq_hub {ws : List S76} {ns : List S87} {A0 A1 B0 B1 : Option Addr} {c0 c1 d0 d1 : Nat} {w : World} (hr0 : k76.C w A0 ws.length ws) (hc0 : ws.length ≤ c0) (hr1 : k87.C w A1 ns.length ns) (hc1 : ns.length ≤ c1) (hs0 : k76.C w B0 ws.length ws) (hd0 : ws.length ≤ d0) (hs1 : k87.C w B1 ns.length ns) (hd1 : ns.length ≤ d1) (hw : smallWatS ws) (hn : smallNewS ns) :
    Calls Tryd.prog 29 #[.agg #[.slice A0 ws.length c0, .slice A1 ns.length c1], .agg #[.slice B0 ws.length d0, .slice B1 ns.length d1]] w fun e w' => e = .returned (.bool true) ∧ Below w.heap.size w w' := by
  obtain ⟨k, hk⟩ := (eqHub_ev ws ns hw hn).rounds
  exact laws_eqHub.calls k _ _ _ _ _ _ _ _ _ _ _ _ _ w hr0 hc0 hr1 hc1 hs0 hd0 hs1 hd1 hk
theorem eq_hubTT {ws : List S76} {ns : List S87} {A0 A1 B0 B1 : Option Addr} {n0 n1 m0 m1 c0 c1 d0 d1 lo hi lo' hi' : Nat} {w : World} (h : HubT w lo hi (.slice A0 n0 c0) (.slice A1 n1 c1) ws ns) (h' : HubT w lo' hi' (.slice B0 m0 d0) (.slice B1 m1 d1) ws ns) (hw : smallWatS ws) (hn : smallNewS ns) :
    Calls Tryd.prog 29 #[.agg #[.slice A0 n0 c0, .slice A1 n1 c1], .agg #[.slice B0 m0 d0, .slice B1 m1 d1]] w fun e w' => e = .returned (.bool true) ∧ Below w.heap.size w w' := by
  obtain ⟨_, _, _, _, e0, e1, h1, h2, h3, h4⟩ := h.reads
  obtain ⟨_, _, _, _, f0, f1, g1, g2, g3, g4⟩ := h'.reads
  rw [e0, e1, f0, f1]
  exact eq_hub h3 h1 h4 h2 g3 g1 g4 g2 hw hn
end Go.Proofs.YtmphkhkbegihaaaDoor.HubLaw
