/- impl.Dispatch: its contract by hand. -/
import Derived.Test.YtmphkhkbegihaaaDoorTell
import Derived.Test.YtmphkhkbegihaaaDoorSpecS
import Derived.Test.YtmphkhkbegihaaaDoorWLast
namespace Go.Proofs.YtmphkhkbegihaaaDoor.HubLaw
open Go Go.RowKit Go.Proofs.YtmphkhkbegihaaaDoor.PHub Go.Proofs.YtmphkhkbegihaaaDoorW.PrintWords Go.Proofs.YtmphkhkbegihaaaDoor.Tree Go.Proofs.YtmphkhkbegihaaaDoor.Mark Go.Proofs.YtmphkhkbegihaaaDoor.To Go.Proofs.YtmphkhkbegihaaaDoor.Copy Go.Proofs.YtmphkhkbegihaaaDoor.Plain Go.Proofs.YtmphkhkbegihaaaDoor.SpecP Go.Proofs.YtmphkhkbegihaaaDoor.Open Go.Proofs.YtmphkhkbegihaaaDoor.Find Go.Proofs.YtmphkhkbegihaaaDoor.Tok Go.Proofs.YtmphkhkbegihaaaDoor.Own Go.Proofs.YtmphkhkbegihaaaDoor.Near Go.Proofs.YtmphkhkbegihaaaDoor.RingN Go.Proofs.YtmphkhkbegihaaaDoor.Tell Go.Proofs.YtmphkhkbegihaaaDoorW.PrintMore
set_option linter.unusedVariables false
set_option linter.unusedSimpArgs false
attribute [local go_sem] max2_int min2_int max_two min_two   -- for this text's walks alone

section
variable {α : Type} {d : Kd α} {e : Nat} {w w1 : World} {base : Nat} {ok : Nat → Prop} {v : Value} {x : α} {xs : List α}
/-- The head of a row and the row behind it, apart from what the head leads to. -/
theorem T_uncons (h : T d e w base ok v (x :: xs)) : ∃ (g o c : Nat) (cur : Array Value) (F : Nat → Prop), v = .slice (some ⟨g, o, none⟩) (xs.length + 1) c ∧ xs.length + 1 ≤ c ∧ ok g ∧ base ≤ g ∧
    w.heap[g]? = some (.cells cur e (0, 0)) ∧ o + d.sz ≤ cur.size ∧ (∀ k, F k → ok k ∧ k ≠ g) ∧ d.M w base F x (cut cur o d.sz) ∧
    T d e w base (fun k => ok k ∧ ¬ F k) (.slice (if c = 1 then some ⟨g, o, none⟩ else some ⟨g, o + d.sz, none⟩) xs.length (c - 1)) xs := by
  obtain ⟨A, c, hv, hc, hm, h⟩ := h
  obtain ⟨g, o, cur, f, hA, hg, hb, hh, hs, hr⟩ := h (by simp)
  simp only [List.length_cons] at hv hc hs hm
  have hx := hr 0 x rfl
  rw [Nat.zero_mul, Nat.add_zero] at hx
  rw [Nat.add_mul, Nat.one_mul] at hs
  refine ⟨g, o, c, cur, fun k => (ok k ∧ k ≠ g) ∧ f k = 0, by rw [hv, hA], hc, hg, hb, hh, by omega, fun k hk => hk.1, hx, ?_⟩
  refine ⟨_, _, rfl, by omega, by omega, fun hp => ?_⟩
  refine ⟨g, o + d.sz, cur, fun k => f k - 1, if_neg (by omega), ⟨hg, fun hk => hk.1.2 rfl⟩, hb, hh, by omega, fun j y hy => ?_⟩
  have hy2 := hr (j + 1) y hy
  rw [show o + (j + 1) * d.sz = o + d.sz + j * d.sz by rw [Nat.add_mul, Nat.one_mul]; omega] at hy2
  refine d.M_mono (fun k hk => ?_) hy2
  refine ⟨⟨⟨hk.1.1, fun hF => ?_⟩, hk.1.2⟩, ?_⟩
  · have := hF.2; have := hk.2; omega
  · have := hk.2; show f k - 1 = j; omega
end

/-- The watches after they were told news: the first hundred. -/
def tellS (n0 : Int) (ps : List ByteArray) (ws : List S76) : List S76 := (ws.take 100).map (fun x => tellF x n0 ps) ++ ws.drop 100
/-- .. the first i. -/
def tellI (n0 : Int) (ps : List ByteArray) (i : Nat) (ws : List S76) : List S76 := (ws.take i).map (fun x => tellF x n0 ps) ++ ws.drop i
theorem tellI_zero (n0 : Int) (ps : List ByteArray) (ws : List S76) : tellI n0 ps 0 ws = ws := by simp [tellI]
theorem tellI_len (n0 : Int) (ps : List ByteArray) (i : Nat) (ws : List S76) : (tellI n0 ps i ws).length = ws.length := by simp [tellI]; omega
theorem tellI_at (n0 : Int) (ps : List ByteArray) (i : Nat) (ws : List S76) (h : i < ws.length) : (tellI n0 ps i ws)[i]? = ws[i]? := by
  have hl : ((ws.take i).map (fun x => tellF x n0 ps)).length = i := by simp; omega
  rw [tellI, List.getElem?_append_right (by omega), hl, List.getElem?_drop]
  simp
theorem tellI_set (n0 : Int) (ps : List ByteArray) (i : Nat) (ws : List S76) (x : S76) (h : ws[i]? = some x) : (tellI n0 ps i ws).set i (tellF x n0 ps) = tellI n0 ps (i + 1) ws := by
  have hi : i < ws.length := (List.getElem?_eq_some_iff.1 h).1
  have hl : ((ws.take i).map (fun x => tellF x n0 ps)).length = i := by simp; omega
  have hx : ws[i] = x := (List.getElem?_eq_some_iff.1 h).2
  unfold tellI
  rw [List.set_append_right _ _ (by omega), hl, Nat.sub_self, List.drop_eq_getElem_cons hi, List.set_cons_zero, List.take_add_one, h]
  simp [hx]
theorem tellI_end (n0 : Int) (ps : List ByteArray) (i : Nat) (ws : List S76) (h : i = min ws.length 100) : tellI n0 ps i ws = tellS n0 ps ws := by
  unfold tellI tellS
  rcases Nat.le_total ws.length 100 with h1 | h1
  · rw [h, Nat.min_eq_left h1, List.take_of_length_le (Nat.le_refl _), List.take_of_length_le h1, List.drop_of_length_le (Nat.le_refl _), List.drop_of_length_le h1]
  · rw [h, Nat.min_eq_right h1]
/-- What Dispatch answers. -/
def dp (ws : List S76) : List S87 → List S76 × List S87 × Bool
  | [] => (ws, [], false)
  | n :: t => (tellS n.f0 n.f1 ws, t, true)
theorem tellF_keeps (x : S76) (n0 : Int) (ps : List ByteArray) : (tellF x n0 ps).f0 = x.f0 ∧ (tellF x n0 ps).f1 = x.f1 ∧ (tellF x n0 ps).f2 = x.f2 ∧ (tellF x n0 ps).f3 = x.f3 := by
  unfold tellF
  split
  · exact ⟨rfl, rfl, rfl, rfl⟩
  · split
    · exact ⟨rfl, rfl, rfl, rfl⟩
    · split <;> exact ⟨rfl, rfl, rfl, rfl⟩
theorem told_drew {w w' : World} {gW o : Nat} {cur : Array Value} {x : S76} {F : Nat → Prop} {base : Nat} {n0 : Int} {ps : List ByteArray} (h : Go.Proofs.YtmphkhkbegihaaaDoor.Tell.Told w.drew gW o cur x F base n0 ps w') : Go.Proofs.YtmphkhkbegihaaaDoor.Tell.Told w gW o cur x F base n0 ps w' := by
  obtain ⟨c, v, h1, h2, h3, h4, h5, h6⟩ := h
  exact ⟨c, v, h1, h2, h3, h4, h5, ⟨h6.os, h6.tape, h6.output, h6.kept⟩⟩
theorem T_gok {α : Type} {d : Kd α} {e : Nat} {w : World} {base : Nat} {ok : Nat → Prop} {g o n c : Nat} {xs : List α} (h : T d e w base ok (.slice (some ⟨g, o, none⟩) n c) xs) (hp : 0 < xs.length) : ok g := by
  obtain ⟨A, c', hv, hc, hm, h⟩ := h
  obtain ⟨g', o', cur, f, hA, hg, _⟩ := h hp
  injection hv with h1 h2 h3
  rw [hA] at h1
  injection h1 with h1
  injection h1 with h1
  rw [h1]
  exact hg
def sizesW (ws : List S76) : Prop := ∀ x ∈ ws, x.f1.size ≤ 4194304
def sizesN (ns : List S87) : Prop := ∀ x ∈ ns, ∀ p ∈ x.f1, p.size ≤ 4194304

set_option maxRecDepth 100000 in
set_option maxHeartbeats 8000000 in
theorem dispatch (ws : List S76) (ns : List S87) (A0 A1 : Option Addr) (c0 c1 : Nat) (w0 w : World) (hr0 : Kd.C k76 w0 A0 ws.length ws) (hc0 : ws.length ≤ c0) (hr1 : Kd.C k87 w0 A1 ns.length ns) (hc1 : ns.length ≤ c1) (hw : Below w0.heap.size w0 w) (hfw : fitWatS ws) (hfn : fitNewS ns) (hzw : sizesW ws) (hzn : sizesN ns) (hG : GM w) :
    Calls Tryd.prog 33 #[.agg #[.slice A0 ws.length c0, .slice A1 ns.length c1]] w fun e w' => ∃ v0 v1, e = .returned (.tuple #[.agg #[v0, v1], .bool (dp ws ns).2.2]) ∧ HubG w' w.heap.size w'.heap.size v0 v1 (dp ws ns).1 (dp ws ns).2.1 ∧ Below w.heap.size w w' := by
  have HR0 := Lib.hid (Kd.C_below hr0 hw)
  have HR1 := Lib.hid (Kd.C_below hr1 hw)
  have HC0 := Lib.hid hc0
  have HC1 := Lib.hid hc1
  have HFW := Lib.hid hfw
  have HFN := Lib.hid hfn
  have HZW := Lib.hid hzw
  have HZN := Lib.hid hzn
  have HGM := Lib.hid hG
  clear hr0 hr1 hw hc0 hc1 hfw hfn hzw hzn hG
  go_enter Tryd.func33, Tryd.ntmps33
  go_wp2_with fail
  refine (hub_copy ws ns A0 A1 c0 c1 w _ HR0.out HC0.out HR1.out HC1.out (by repeat (first | exact Below.refl _ _ | apply below_alloc)) HFW.out HFN.out).mono ?_
  rintro e w1 ⟨v0, v1, m, rfl, hS0, hS1, hb, hm0, hm1⟩
  obtain ⟨AW, cW, rfl⟩ := Kd.S_slice hS0
  obtain ⟨AN, cN, rfl⟩ := Kd.S_slice hS1
  have hm0' : w.heap.size + 2 ≤ m := by simpa using hm0
  have HG2 := Lib.hid (blk_below (by have := heap_alloc_new (w.alloc (.cells #[.slice A0 ws.length c0, .slice A1 ns.length c1] 44)) (.cells #[.slice none 0 0, .slice none 0 0] 44); rwa [World.size_alloc] at this : ((w.alloc (.cells #[.slice A0 ws.length c0, .slice A1 ns.length c1] 44)).alloc (.cells #[.slice none 0 0, .slice none 0 0] 44)).heap[w.heap.size + 1]? = some (.cells #[.slice none 0 0, .slice none 0 0] 44 (0, 0))) hb)
  have HS0 := Lib.hid (show T ms76 76 w1 w.heap.size (fun k => w.heap.size + 2 ≤ k ∧ k < m) (.slice AW ws.length cW) ws from T_lower (T_mono (T_of_S hS0) (fun k hk => by simp at hk; exact hk)) (by simp; omega))
  have HS1 := Lib.hid (show T m87 87 w1 0 (fun k => m ≤ k ∧ k < w1.heap.size) (.slice AN ns.length cN) ns from T_mono (T_imp (T_lower (T_now (T_of_S hS1)) (Nat.zero_le _)) rfl (fun _ _ _ h => k_m87 h)) (fun k hk => ⟨hk.1, hk.2.2⟩))
  have HB1 := Lib.hid (below_then (below_alloc (below_alloc (Below.refl _ _) _) _) (by simp <;> omega) hb)
  have HH1 := Lib.hid hm1
  clear hS0 hS1 hb hm0 hm1
  have hmw : ws.length ≤ 4194304 := HFW.out.1
  cases ns with
  | nil =>
    simp only [List.length_nil] at *
    have hq := heap_alloc_new (w1.alloc (.cells #[.slice AW ws.length cW, .slice AN 0 cN] 44)) (.cells #[.slice AN 0 cN, .int .i64 0, .int .i64 0] 90)
    rw [World.size_alloc] at hq
    have HQ := Lib.hid hq
    clear hq
    go_wp2_with fail
    refine (ringN_none (w1.heap.size + 1) cN AN 0 _ HQ.out).mono ?_
    rintro e w2 ⟨rfl, hb2⟩
    have hb3 : Below w1.heap.size w1 w2 := below_then (below_alloc (below_alloc (Below.refl _ _) _) _) (by simp <;> omega) hb2
    have HG4 := Lib.hid (blk_below (blk_alloc (heap_alloc_new w1 (.cells #[.slice AW ws.length cW, .slice AN 0 cN] 44)) (.cells #[.slice AN 0 cN, .int .i64 0, .int .i64 0] 90)) hb2)
    have HG22 := Lib.hid (blk_below HG2.out hb3)
    have HB3 := Lib.hid hb3
    clear hb2 hb3
    have hx0 := blk_cell HG4.out 0
    have hx1 := blk_cell HG4.out 1
    have hy0 := blk_cell HG22.out 0
    have hy1 := blk_cell HG22.out 1
    have hg0 := blk_frozen HG22.out 0
    have hg1 := blk_frozen HG22.out 1
    have hl2 := blk_lt HG22.out
    have hl4 := blk_lt HG4.out
    simp only [List.getElem?_toArray, List.getElem?_cons_zero, List.getElem?_cons_succ] at hx0 hx1 hy0 hy1
    go_wp2_with fail
    refine bodyPost_ret (v := .tuple #[.agg #[.slice AW ws.length cW, .slice AN 0 cN], .bool false]) (by simp [results, Tryd.results33, go_sem, hy0, hy1, hl2, hl4]) rfl ⟨_, _, rfl, ?_⟩
    have ht : ∀ w', Tch w2 w' (fun k => k = w.heap.size + 1) → HubG w' w.heap.size w'.heap.size (.slice AW ws.length cW) (.slice AN 0 cN) ws [] ∧ Below w.heap.size w w' := by
      intro w' ht
      have hsz := ht.kept.1
      have hm1 := HH1.out
      have hs2 := HB3.out.size
      refine ⟨hubG_of (m := m) (n := w1.heap.size) (T_kept (T_imp (T_lower (T_below HS0.out HB3.out) (Nat.zero_le _)) rfl (fun _ _ _ h => ms_m76 h)) ht.kept (fun k hk h => by omega)) (T_kept (T_below HS1.out HB3.out) ht.kept (fun k hk h => by omega)) (fun k hk => by omega) (fun k hk => by omega), ?_⟩
      exact below_tch (HB1.out.trans (HB3.out.mono HB1.out.size)) ht (fun k hk => by omega)
    refine ht _ ?_
    repeat (first | with_reducible exact Tch.refl _ _ | with_reducible apply Tch.drew | with_reducible refine Tch.setCell ?_ (.inl (by simp)) _ | with_reducible refine Tch.below ?_ (below_alloc (Below.refl _ _) _))
  | cons n t =>
    obtain ⟨g, o, c, cur, F, hv, hc, hog, _, hh, hs, hF, hM, hT2⟩ := T_uncons HS1.out
    injection hv with h1 h2 h3
    subst h1; subst h3
    obtain ⟨v1, hcs, hT1⟩ := m87_open hM
    obtain ⟨A2, c2, rfl, hc2⟩ := T_slice hT1
    have hm0 : w1.cell? ⟨g, o, none⟩ = some (.int .i64 n.f0) := cut_cell (o := o) (j := 0) hh hcs rfl
    have hm1 : w1.cell? ⟨g, o + 1, none⟩ = some (.slice A2 n.f1.length c2) := cut_cell hh hcs rfl
    have hgl := blk_lt hh
    have HF := Lib.hid hF
    have HT1 := Lib.hid hT1
    have HT2 := Lib.hid hT2
    have hnn := HFN.out.2 n (by simp)
    have htl : t.length ≤ 4194304 := by have := HFN.out.1; simp at this; omega
    have HZP := Lib.hid (HZN.out n (by simp))
    clear hog hs hF hM hT2 hcs hT1 hh HS1
    simp only [List.length_cons] at *
    have hB2 : Below w1.heap.size w1 ((w1.alloc (.cells #[.slice AW ws.length cW, .slice (some ⟨g, o, none⟩) (t.length + 1) cN] 44)).alloc (.cells #[.slice (some ⟨g, o, none⟩) (t.length + 1) cN, .int .i64 0, .int .i64 0] 90)) := below_alloc (below_alloc (Below.refl _ _) _) _
    have hq := heap_alloc_new (w1.alloc (.cells #[.slice AW ws.length cW, .slice (some ⟨g, o, none⟩) (t.length + 1) cN] 44)) (.cells #[.slice (some ⟨g, o, none⟩) (t.length + 1) cN, .int .i64 0, .int .i64 0] 90)
    rw [World.size_alloc] at hq
    have HQ := Lib.hid hq
    have HB2 := Lib.hid hB2
    have p0 := (hB2.cell (p := ⟨g, o, none⟩) hgl).trans hm0
    have p1 := (hB2.cell (p := ⟨g, o + 1, none⟩) hgl).trans hm1
    have HP0 := Lib.hid p0
    have HP1 := Lib.hid p1
    clear hq hB2 p0 p1 hm0 hm1
    go_wp2_with fail
    refine (ringN_some (w1.heap.size + 1) g o (t.length + 1) cN 0 n.f0 _ A2 n.f1.length c2 rfl _ (by omega) (by omega) (by simp; omega) HQ.out HP0.out HP1.out).mono ?_
    rintro e w2 ⟨rfl, hq2, ht2⟩
    have hz2 : w1.heap.size + 2 ≤ w2.heap.size := by have := ht2.kept.1; simp at this; omega
    have hb3 : Below w1.heap.size w1 w2 := ((Tch.of_below HB2.out (fun k => k = w1.heap.size + 1)).then_ ht2 (fun k hk => .inl hk)).to_below (Nat.le_refl _) (fun k hk => by omega)
    have HG4 := Lib.hid (blk_kept (blk_alloc (heap_alloc_new w1 (.cells #[.slice AW ws.length cW, .slice (some ⟨g, o, none⟩) (t.length + 1) cN] 44)) (.cells #[.slice (some ⟨g, o, none⟩) (t.length + 1) cN, .int .i64 0, .int .i64 0] 90)) ht2.kept (fun h => by omega))
    have HQ2 := Lib.hid hq2
    have HB3 := Lib.hid hb3
    clear hq2 ht2 hb3
    obtain ⟨Aj, hAj⟩ : ∃ Aj : Option Addr, Aj = if cN = 1 then some ⟨g, o, none⟩ else some ⟨g, o + 2, none⟩ := ⟨_, rfl⟩
    have HAJ := Lib.hid hAj
    have hT3 : T m87 87 w1 0 (fun k => (m ≤ k ∧ k < w1.heap.size) ∧ ¬ F k) (.slice Aj t.length (cN - 1)) t := by rw [hAj]; exact HT2.out
    have HT3 := Lib.hid hT3
    clear hAj hT3
    go_wp2_with fail
    refine (ringN_list (w1.heap.size + 1) g o t.length cN 0 Aj HAJ.out _ hc htl (blk_alloc HQ2.out _)).mono ?_
    rintro e w3 ⟨rfl, hb4⟩
    have hb5 : Below w1.heap.size w1 w3 := below_then (below_alloc HB3.out (.cells #[.int .i64 n.f0, .slice A2 n.f1.length c2] 87)) (by simp; omega) hb4
    have hz3 : w2.heap.size < w3.heap.size := by have := hb4.size; simp at this; omega
    have hg4 := blk_below (blk_alloc HG4.out (.cells #[.int .i64 n.f0, .slice A2 n.f1.length c2] 87)) hb4
    have HG6 := Lib.hid (blk_below (heap_alloc_new w2 (.cells #[.int .i64 n.f0, .slice A2 n.f1.length c2] 87)) hb4)
    have hx0 := blk_cell hg4 0
    have hx1 := blk_cell hg4 1
    have hf1 := blk_frozen hg4 1
    simp only [List.getElem?_toArray, List.getElem?_cons_zero, List.getElem?_cons_succ] at hx0 hx1
    have hg4L := blk_set hg4 1 (.slice Aj t.length (cN - 1))
    simp only [List.setIfInBounds_toArray, List.set_cons_zero, List.set_cons_succ] at hg4L
    have hg6L := blk_far HG6.out (p := ⟨w1.heap.size, 1, none⟩) (by show w2.heap.size ≠ w1.heap.size; omega) (.slice Aj t.length (cN - 1))
    have hg2L := blk_far (blk_below HG2.out hb5) (p := ⟨w1.heap.size, 1, none⟩) (by show w.heap.size + 1 ≠ w1.heap.size; have := HH1.out; omega) (.slice Aj t.length (cN - 1))
    have hTL : Tch w1 (w3.setCell ⟨w1.heap.size, 1, none⟩ (.slice Aj t.length (cN - 1))) (fun _ => False) := (Tch.of_below hb5 _).setCell (p := ⟨w1.heap.size, 1, none⟩) (.inr (Nat.le_refl _)) _
    have HFW0 := HFW
    have HWZ := Lib.hid (show w.heap.size + 2 ≤ w1.heap.size by have := HH1.out; omega)
    by_cases hbig : (100 : Int) < (ws.length : Int)
    · have hbig2 : 100 < ws.length := by omega
      have HNN := Lib.hid (show 100 = min ws.length 100 by omega)
      go_wp2_with fail
      generalize hWL : w3.setCell ⟨w1.heap.size, 1, none⟩ (.slice Aj t.length (cN - 1)) = wL at hg4L hg6L hg2L hTL ⊢
      have hszL : wL.heap.size = w3.heap.size := by rw [← hWL]; exact size_set _ _ _
      have HWL := Lib.hid (T_mono (T_now (T_kept HS0.out hTL.kept (fun k _ h => h))) (ok' := fun k => ((w.heap.size + 2 ≤ k ∧ k < m) ∨ wL.heap.size ≤ k) ∧ k < wL.heap.size) (fun k hk => ⟨.inl hk.1, hk.2.2⟩))
      have HNL := Lib.hid (T_kept HT3.out hTL.kept (fun k _ h => h))
      have HPL := Lib.hid (T_kept HT1.out hTL.kept (fun k _ h => h))
      have HBL := Lib.hid (below_tch HB1.out hTL (fun k h => h.elim))
      have HG4L := Lib.hid hg4L
      have HG6L := Lib.hid hg6L
      have HG2L := Lib.hid hg2L
      have hzL := hTL.kept.1
      have hw2L : w2.heap.size < wL.heap.size := by omega
      clear hWL hg4L hg6L hg2L hTL hx0 hx1 hf1 hg4 hb4 hb5 HG4 HG6 HG2 HQ HQ2 HB2 HB3 HT1 HT2 HT3 HS0 HP0 HP1 hszL
      go_loopw [30] (fun v30 wr => ∃ i : Nat, v30 = .int .i64 i ∧ Hid (i ≤ 100) ∧ Hid (T ms76 76 wr w.heap.size (fun k => ((w.heap.size + 2 ≤ k ∧ k < m) ∨ wL.heap.size ≤ k) ∧ k < wr.heap.size) (.slice AW ws.length cW) (tellI n.f0 n.f1 i ws)) ∧ Hid (T m87 87 wr 0 (fun k => (m ≤ k ∧ k < w1.heap.size) ∧ ¬ F k) (.slice Aj t.length (cN - 1)) t) ∧ Hid (T Kd.string 9 wr 0 F (.slice A2 n.f1.length c2) n.f1) ∧
          Hid (wr.heap[w1.heap.size]? = some (.cells #[.slice AW ws.length cW, .slice Aj t.length (cN - 1)] 44 (0, 0))) ∧ Hid (wr.heap[w2.heap.size]? = some (.cells #[.int .i64 n.f0, .slice A2 n.f1.length c2] 87 (0, 0))) ∧ Hid (wr.heap[w.heap.size + 1]? = some (.cells #[.slice none 0 0, .slice none 0 0] 44 (0, 0))) ∧ Hid (Below w.heap.size w wr) ∧ Hid (wL.heap.size ≤ wr.heap.size)) (fun v30 _ => 100 - (intOf v30).toNat)
      case atStart => exact ⟨0, rfl, Lib.hid (Nat.zero_le _), Lib.hid (by rw [tellI_zero]; exact HWL.out), HNL, HPL, HG4L, HG6L, HG2L, HBL, Lib.hid (Nat.le_refl _)⟩
      case round =>
        clear HWL HNL HPL HG4L HG6L HG2L HBL
        obtain ⟨i, rfl, HI, HTW, HTN, HTP, HG4, HG6, HG2, HB, HZ⟩ := hrel
        have hx0 := blk_cell HG4.out 0
        have hx1 := blk_cell HG4.out 1
        have hy0 := blk_cell HG6.out 0
        have hy1 := blk_cell HG6.out 1
        have hu0 := blk_cell HG2.out 0
        have hu1 := blk_cell HG2.out 1
        have hg0 := blk_frozen HG2.out 0
        have hg1 := blk_frozen HG2.out 1
        simp only [List.getElem?_toArray, List.getElem?_cons_zero, List.getElem?_cons_succ] at hx0 hx1 hy0 hy1 hu0 hu1
        by_cases hi : i < 100
        · have hil : i < ws.length := by have := HNN.out; omega
          obtain ⟨x, hx⟩ : ∃ x, ws[i]? = some x := ⟨_, List.getElem?_eq_getElem hil⟩
          have HX := Lib.hid hx
          obtain ⟨gW, oW, cW', curW, FW, hvW, hcW, hgok, _, hhW, hsW, hFW, hMW, hback⟩ := T_at HTW.out i x (by rw [tellI_at _ _ _ _ hil]; exact hx)
          injection hvW with h1 h2 h3
          subst h1; subst h3
          obtain ⟨v5, hcsW, hS5⟩ := ms76_open hMW
          have hcsW' : cut curW (oW + i * 6) 6 = [.int .i64 x.f0, .string x.f1, .int .i64 x.f2, .int .i64 x.f3, .bool x.f4, v5] := hcsW
          have HHW := Lib.hid hhW
          have HCS := Lib.hid hcsW'
          have HS5 := Lib.hid hS5
          have HFW := Lib.hid hFW
          have HBK := Lib.hid hback
          have hfx := HFW0.out.2 x (List.mem_of_getElem? hx)
          have HX5 := Lib.hid hfx.1
          have HX1 := Lib.hid (HZW.out x (List.mem_of_getElem? hx))
          have hbs := HB.out.size
          clear h2 hgok hhW hsW hFW hMW hback hcsW hcsW' hS5 hx hfx
          go_wp2_with fail
          go_region_with (first | (go_at_call 66; refine (Go.Proofs.YtmphkhkbegihaaaDoor.Tell.tell x n.f0 n.f1 A2 c2 gW (oW + i * 6) FW w.heap.size v5 curW w _ (blk_drew HHW.out) HCS.out (Kd.S_drew HS5.out) (fun h => (HFW.out gW h).2 rfl) (T_reads' (T_below HTP.out (below_drew (Below.refl _ _)))).2.2 (T_reads' HTP.out).2.1 hnn HZP.out HX1.out HX5.out HGM.out (below_drew HB.out) hbs).mono ?_; (rintro e w6 ⟨rfl, hT⟩); (have HTO := Lib.hid (told_drew hT)); clear hT))
          all_goals
            clear hx0 hx1 hy0 hy1 hu0 hu1 hg0 hg1
            go_wp2_with fail
            obtain ⟨cur1, v5', hh1, hs1, hout, hcut1, hS6, hT6⟩ := HTO.out
            have hz6 := hT6.kept.1
            have hFk : ∀ k, FW k → (((w.heap.size + 2 ≤ k ∧ k < m) ∨ wL.heap.size ≤ k) ∧ k < wr.heap.size) ∧ k ≠ gW := HFW.out
            have hgk : ((w.heap.size + 2 ≤ gW ∧ gW < m) ∨ wL.heap.size ≤ gW) ∧ gW < wr.heap.size := (T_gok HTW.out (by rw [tellI_len]; omega))
            have hkp := tellF_keeps x n.f0 n.f1
            have hTT : T ms76 76 w6 w.heap.size (fun k => ((w.heap.size + 2 ≤ k ∧ k < m) ∨ wL.heap.size ≤ k) ∧ k < w6.heap.size) (.slice (some ⟨gW, oW, none⟩) ws.length cW) (tellI n.f0 n.f1 (i + 1) ws) := by
              rw [← tellI_set n.f0 n.f1 i ws x HX.out]
              refine HBK.out w6 cur1 (tellF x n.f0 n.f1) (fun k => (FW k ∨ wr.heap.size ≤ k) ∧ k < w6.heap.size) _ hh1 hs1 hout (fun k hk hok hne hnF => hT6.kept.2 k hk (fun h => by rcases h with h | h; exact hne h; exact hnF h)) (fun k hk => ⟨hk.1, by omega⟩) (fun k hk => ?_) ?_
              · obtain ⟨hk, hk2⟩ := hk
                rcases hk with hk | hk
                · exact ⟨.inl hk, ⟨(hFk k hk).1.1, hk2⟩, (hFk k hk).2⟩
                · have := HZ.out; exact ⟨.inr (.inl hk), ⟨.inr (by omega), hk2⟩, by omega⟩
              · show ms76.M w6 w.heap.size _ _ (cut cur1 (oW + i * 6) 6)
                rw [hcut1, ← hkp.1, ← hkp.2.1, ← hkp.2.2.1, ← hkp.2.2.2]
                exact ms76_mk (tellF x n.f0 n.f1) (Kd.S_mono (Kd.S_bound hS6) (fun k hk => ⟨hk.1, hk.2.2.1⟩))
            have hoff : ∀ k, k < w1.heap.size + 1 ∨ k = w2.heap.size → (k < w.heap.size + 2 ∨ m ≤ k) → ¬ (k = gW ∨ FW k) := by
              intro k h1 h2 h3
              have hz := HZ.out
              rcases h3 with rfl | h3
              · omega
              · have := (hFk k h3).1.1; omega
            have HTT := Lib.hid hTT
            have HTN6 := Lib.hid (T_kept HTN.out hT6.kept (fun k hk => hoff k (by omega) (by omega)))
            have HTP6 := Lib.hid (T_kept HTP.out hT6.kept (fun k hk => by have := (HF.out k hk).1; exact hoff k (by omega) (by omega)))
            have HG46 := Lib.hid (blk_kept HG4.out hT6.kept (hoff _ (by omega) (by have := HH1.out; omega)))
            have HG66 := Lib.hid (blk_kept HG6.out hT6.kept (hoff _ (by omega) (by have := HH1.out; omega)))
            have HG26 := Lib.hid (blk_kept HG2.out hT6.kept (hoff _ (by have := HH1.out; omega) (by omega)))
            have HB6 := Lib.hid (below_tch HB.out hT6 (fun k hk => by have hw := HWZ.out; rcases hk with rfl | hk; omega; have := (hFk k hk).1.1; omega))
            clear hh1 hs1 hout hcut1 hS6 hT6 hTT hoff
            go_roundw
            case rel => exact ⟨i + 1, by simp, Lib.hid (by omega), HTT, HTN6, HTP6, HG46, HG66, HG26, HB6, Lib.hid (by have := HZ.out; omega)⟩
            case measure => simp [intOf]; omega
        · have hie : i = 100 := by have := HI.out; omega
          have hni : ¬ ((i : Int) < 100) := by omega
          have hn4 : w.heap.size + 1 ≠ w1.heap.size := by have := HH1.out; omega
          go_wp2_with fail
          refine bodyPost_ret (v := .tuple #[.agg #[.slice AW ws.length cW, .slice Aj t.length (cN - 1)], .bool true]) (by simp [results, Tryd.results33, go_sem, hu0, hu1]) rfl ⟨_, _, rfl, ?_⟩
          have ht : ∀ w', Tch wr w' (fun k => k = w.heap.size + 1) → HubG w' w.heap.size w'.heap.size (.slice AW ws.length cW) (.slice Aj t.length (cN - 1)) (tellS n.f0 n.f1 ws) t ∧ Below w.heap.size w w' := by
            intro w' ht
            have hsz := ht.kept.1
            have hm1 := HH1.out
            have hz := HZ.out
            have hTW := HTW.out
            rw [tellI_end _ _ _ _ (by have := HNN.out; omega)] at hTW
            refine ⟨hubG_of (m := m) (n := w1.heap.size) (T_kept (T_imp (T_lower hTW (Nat.zero_le _)) rfl (fun _ _ _ h => ms_m76 h)) ht.kept (fun k hk h => by have := HWZ.out; omega)) (T_kept (T_mono HTN.out (fun k hk => hk.1)) ht.kept (fun k hk h => by omega)) (fun k hk => by have := HWZ.out; omega) (fun k hk => by omega), ?_⟩
            exact below_tch HB.out ht (fun k hk => by omega)
          refine ht _ ?_
          repeat (first | with_reducible exact Tch.refl _ _ | with_reducible apply Tch.drew | with_reducible refine Tch.setCell ?_ (.inl (by simp)) _ | with_reducible refine Tch.below ?_ (below_alloc (Below.refl _ _) _))
    · have hbig2 : ws.length ≤ 100 := by omega
      have HNN := Lib.hid (show ws.length = min ws.length 100 by omega)
      go_wp2_with fail
      generalize hWL : w3.setCell ⟨w1.heap.size, 1, none⟩ (.slice Aj t.length (cN - 1)) = wL at hg4L hg6L hg2L hTL ⊢
      have hszL : wL.heap.size = w3.heap.size := by rw [← hWL]; exact size_set _ _ _
      have HWL := Lib.hid (T_mono (T_now (T_kept HS0.out hTL.kept (fun k _ h => h))) (ok' := fun k => ((w.heap.size + 2 ≤ k ∧ k < m) ∨ wL.heap.size ≤ k) ∧ k < wL.heap.size) (fun k hk => ⟨.inl hk.1, hk.2.2⟩))
      have HNL := Lib.hid (T_kept HT3.out hTL.kept (fun k _ h => h))
      have HPL := Lib.hid (T_kept HT1.out hTL.kept (fun k _ h => h))
      have HBL := Lib.hid (below_tch HB1.out hTL (fun k h => h.elim))
      have HG4L := Lib.hid hg4L
      have HG6L := Lib.hid hg6L
      have HG2L := Lib.hid hg2L
      have hzL := hTL.kept.1
      have hw2L : w2.heap.size < wL.heap.size := by omega
      clear hWL hg4L hg6L hg2L hTL hx0 hx1 hf1 hg4 hb4 hb5 HG4 HG6 HG2 HQ HQ2 HB2 HB3 HT1 HT2 HT3 HS0 HP0 HP1 hszL
      go_loopw [30] (fun v30 wr => ∃ i : Nat, v30 = .int .i64 i ∧ Hid (i ≤ ws.length) ∧ Hid (T ms76 76 wr w.heap.size (fun k => ((w.heap.size + 2 ≤ k ∧ k < m) ∨ wL.heap.size ≤ k) ∧ k < wr.heap.size) (.slice AW ws.length cW) (tellI n.f0 n.f1 i ws)) ∧ Hid (T m87 87 wr 0 (fun k => (m ≤ k ∧ k < w1.heap.size) ∧ ¬ F k) (.slice Aj t.length (cN - 1)) t) ∧ Hid (T Kd.string 9 wr 0 F (.slice A2 n.f1.length c2) n.f1) ∧
          Hid (wr.heap[w1.heap.size]? = some (.cells #[.slice AW ws.length cW, .slice Aj t.length (cN - 1)] 44 (0, 0))) ∧ Hid (wr.heap[w2.heap.size]? = some (.cells #[.int .i64 n.f0, .slice A2 n.f1.length c2] 87 (0, 0))) ∧ Hid (wr.heap[w.heap.size + 1]? = some (.cells #[.slice none 0 0, .slice none 0 0] 44 (0, 0))) ∧ Hid (Below w.heap.size w wr) ∧ Hid (wL.heap.size ≤ wr.heap.size)) (fun v30 _ => ws.length - (intOf v30).toNat)
      case atStart => exact ⟨0, rfl, Lib.hid (Nat.zero_le _), Lib.hid (by rw [tellI_zero]; exact HWL.out), HNL, HPL, HG4L, HG6L, HG2L, HBL, Lib.hid (Nat.le_refl _)⟩
      case round =>
        clear HWL HNL HPL HG4L HG6L HG2L HBL
        obtain ⟨i, rfl, HI, HTW, HTN, HTP, HG4, HG6, HG2, HB, HZ⟩ := hrel
        have hx0 := blk_cell HG4.out 0
        have hx1 := blk_cell HG4.out 1
        have hy0 := blk_cell HG6.out 0
        have hy1 := blk_cell HG6.out 1
        have hu0 := blk_cell HG2.out 0
        have hu1 := blk_cell HG2.out 1
        have hg0 := blk_frozen HG2.out 0
        have hg1 := blk_frozen HG2.out 1
        simp only [List.getElem?_toArray, List.getElem?_cons_zero, List.getElem?_cons_succ] at hx0 hx1 hy0 hy1 hu0 hu1
        by_cases hi : i < ws.length
        · have hil : i < ws.length := by have := HNN.out; omega
          obtain ⟨x, hx⟩ : ∃ x, ws[i]? = some x := ⟨_, List.getElem?_eq_getElem hil⟩
          have HX := Lib.hid hx
          obtain ⟨gW, oW, cW', curW, FW, hvW, hcW, hgok, _, hhW, hsW, hFW, hMW, hback⟩ := T_at HTW.out i x (by rw [tellI_at _ _ _ _ hil]; exact hx)
          injection hvW with h1 h2 h3
          subst h1; subst h3
          obtain ⟨v5, hcsW, hS5⟩ := ms76_open hMW
          have hcsW' : cut curW (oW + i * 6) 6 = [.int .i64 x.f0, .string x.f1, .int .i64 x.f2, .int .i64 x.f3, .bool x.f4, v5] := hcsW
          have HHW := Lib.hid hhW
          have HCS := Lib.hid hcsW'
          have HS5 := Lib.hid hS5
          have HFW := Lib.hid hFW
          have HBK := Lib.hid hback
          have hfx := HFW0.out.2 x (List.mem_of_getElem? hx)
          have HX5 := Lib.hid hfx.1
          have HX1 := Lib.hid (HZW.out x (List.mem_of_getElem? hx))
          have hbs := HB.out.size
          clear h2 hgok hhW hsW hFW hMW hback hcsW hcsW' hS5 hx hfx
          go_wp2_with fail
          go_region_with (first | (go_at_call 66; refine (Go.Proofs.YtmphkhkbegihaaaDoor.Tell.tell x n.f0 n.f1 A2 c2 gW (oW + i * 6) FW w.heap.size v5 curW w _ (blk_drew HHW.out) HCS.out (Kd.S_drew HS5.out) (fun h => (HFW.out gW h).2 rfl) (T_reads' (T_below HTP.out (below_drew (Below.refl _ _)))).2.2 (T_reads' HTP.out).2.1 hnn HZP.out HX1.out HX5.out HGM.out (below_drew HB.out) hbs).mono ?_; (rintro e w6 ⟨rfl, hT⟩); (have HTO := Lib.hid (told_drew hT)); clear hT))
          all_goals
            clear hx0 hx1 hy0 hy1 hu0 hu1 hg0 hg1
            go_wp2_with fail
            obtain ⟨cur1, v5', hh1, hs1, hout, hcut1, hS6, hT6⟩ := HTO.out
            have hz6 := hT6.kept.1
            have hFk : ∀ k, FW k → (((w.heap.size + 2 ≤ k ∧ k < m) ∨ wL.heap.size ≤ k) ∧ k < wr.heap.size) ∧ k ≠ gW := HFW.out
            have hgk : ((w.heap.size + 2 ≤ gW ∧ gW < m) ∨ wL.heap.size ≤ gW) ∧ gW < wr.heap.size := (T_gok HTW.out (by rw [tellI_len]; omega))
            have hkp := tellF_keeps x n.f0 n.f1
            have hTT : T ms76 76 w6 w.heap.size (fun k => ((w.heap.size + 2 ≤ k ∧ k < m) ∨ wL.heap.size ≤ k) ∧ k < w6.heap.size) (.slice (some ⟨gW, oW, none⟩) ws.length cW) (tellI n.f0 n.f1 (i + 1) ws) := by
              rw [← tellI_set n.f0 n.f1 i ws x HX.out]
              refine HBK.out w6 cur1 (tellF x n.f0 n.f1) (fun k => (FW k ∨ wr.heap.size ≤ k) ∧ k < w6.heap.size) _ hh1 hs1 hout (fun k hk hok hne hnF => hT6.kept.2 k hk (fun h => by rcases h with h | h; exact hne h; exact hnF h)) (fun k hk => ⟨hk.1, by omega⟩) (fun k hk => ?_) ?_
              · obtain ⟨hk, hk2⟩ := hk
                rcases hk with hk | hk
                · exact ⟨.inl hk, ⟨(hFk k hk).1.1, hk2⟩, (hFk k hk).2⟩
                · have := HZ.out; exact ⟨.inr (.inl hk), ⟨.inr (by omega), hk2⟩, by omega⟩
              · show ms76.M w6 w.heap.size _ _ (cut cur1 (oW + i * 6) 6)
                rw [hcut1, ← hkp.1, ← hkp.2.1, ← hkp.2.2.1, ← hkp.2.2.2]
                exact ms76_mk (tellF x n.f0 n.f1) (Kd.S_mono (Kd.S_bound hS6) (fun k hk => ⟨hk.1, hk.2.2.1⟩))
            have hoff : ∀ k, k < w1.heap.size + 1 ∨ k = w2.heap.size → (k < w.heap.size + 2 ∨ m ≤ k) → ¬ (k = gW ∨ FW k) := by
              intro k h1 h2 h3
              have hz := HZ.out
              rcases h3 with rfl | h3
              · omega
              · have := (hFk k h3).1.1; omega
            have HTT := Lib.hid hTT
            have HTN6 := Lib.hid (T_kept HTN.out hT6.kept (fun k hk => hoff k (by omega) (by omega)))
            have HTP6 := Lib.hid (T_kept HTP.out hT6.kept (fun k hk => by have := (HF.out k hk).1; exact hoff k (by omega) (by omega)))
            have HG46 := Lib.hid (blk_kept HG4.out hT6.kept (hoff _ (by omega) (by have := HH1.out; omega)))
            have HG66 := Lib.hid (blk_kept HG6.out hT6.kept (hoff _ (by omega) (by have := HH1.out; omega)))
            have HG26 := Lib.hid (blk_kept HG2.out hT6.kept (hoff _ (by have := HH1.out; omega) (by omega)))
            have HB6 := Lib.hid (below_tch HB.out hT6 (fun k hk => by have hw := HWZ.out; rcases hk with rfl | hk; omega; have := (hFk k hk).1.1; omega))
            clear hh1 hs1 hout hcut1 hS6 hT6 hTT hoff
            go_roundw
            case rel => exact ⟨i + 1, by simp, Lib.hid (by omega), HTT, HTN6, HTP6, HG46, HG66, HG26, HB6, Lib.hid (by have := HZ.out; omega)⟩
            case measure => simp [intOf]; omega
        · have hie : i = ws.length := by have := HI.out; omega
          have hni : ¬ ((i : Int) < (ws.length : Int)) := by omega
          have hn4 : w.heap.size + 1 ≠ w1.heap.size := by have := HH1.out; omega
          go_wp2_with fail
          refine bodyPost_ret (v := .tuple #[.agg #[.slice AW ws.length cW, .slice Aj t.length (cN - 1)], .bool true]) (by simp [results, Tryd.results33, go_sem, hu0, hu1]) rfl ⟨_, _, rfl, ?_⟩
          have ht : ∀ w', Tch wr w' (fun k => k = w.heap.size + 1) → HubG w' w.heap.size w'.heap.size (.slice AW ws.length cW) (.slice Aj t.length (cN - 1)) (tellS n.f0 n.f1 ws) t ∧ Below w.heap.size w w' := by
            intro w' ht
            have hsz := ht.kept.1
            have hm1 := HH1.out
            have hz := HZ.out
            have hTW := HTW.out
            rw [tellI_end _ _ _ _ (by have := HNN.out; omega)] at hTW
            refine ⟨hubG_of (m := m) (n := w1.heap.size) (T_kept (T_imp (T_lower hTW (Nat.zero_le _)) rfl (fun _ _ _ h => ms_m76 h)) ht.kept (fun k hk h => by have := HWZ.out; omega)) (T_kept (T_mono HTN.out (fun k hk => hk.1)) ht.kept (fun k hk h => by omega)) (fun k hk => by have := HWZ.out; omega) (fun k hk => by omega), ?_⟩
            exact below_tch HB.out ht (fun k hk => by omega)
          refine ht _ ?_
          repeat (first | with_reducible exact Tch.refl _ _ | with_reducible apply Tch.drew | with_reducible refine Tch.setCell ?_ (.inl (by simp)) _ | with_reducible refine Tch.below ?_ (below_alloc (Below.refl _ _) _))
end Go.Proofs.YtmphkhkbegihaaaDoor.HubLaw
