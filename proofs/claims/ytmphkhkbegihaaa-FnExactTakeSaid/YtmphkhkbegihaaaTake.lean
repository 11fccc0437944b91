/- impl.Take: its contract by hand. -/
import Derived.Test.YtmphkhkbegihaaaHubM
import Derived.Test.YtmphkhkbegihaaaCancel
namespace Go.Proofs.Ytmphkhkbegihaaa.HubLaw
open Go Go.RowKit Go.Proofs.Ytmphkhkbegihaaa.PHub Go.Proofs.YtmphkhkbegihaaaW.PrintWords Go.Proofs.Ytmphkhkbegihaaa.Tree Go.Proofs.Ytmphkhkbegihaaa.Mark Go.Proofs.Ytmphkhkbegihaaa.To Go.Proofs.Ytmphkhkbegihaaa.Copy Go.Proofs.Ytmphkhkbegihaaa.Plain Go.Proofs.Ytmphkhkbegihaaa.SpecP Go.Proofs.Ytmphkhkbegihaaa.Open Go.Proofs.Ytmphkhkbegihaaa.Find Go.Proofs.Ytmphkhkbegihaaa.Ring
set_option linter.unusedVariables false
set_option linter.unusedSimpArgs false

/-- What Take answers. -/
def tk (c : Int) (ws : List S65) : List S65 × S44 × Int :=
  if fnd c 0 ws < 0 then (ws, ⟨0, [], false⟩, 1) else
  match ws[(fnd c 0 ws).toNat]? with
  | none => (ws, ⟨0, [], false⟩, 1)
  | some x => match x.f5 with
    | [] => (ws, ⟨0, [], false⟩, if x.f4 then 3 else 2)
    | m :: t => (ws.set (fnd c 0 ws).toNat ⟨x.f0, x.f1, x.f2, x.f3, x.f4, t⟩, m, if m.f2 then 4 else 0)
theorem tk_no {c : Int} {ws : List S65} (h : fnd c 0 ws < 0) : tk c ws = (ws, ⟨0, [], false⟩, 1) := by unfold tk; rw [if_pos h]
theorem tk_nil {c : Int} {ws : List S65} {j : Nat} {x : S65} (h : fnd c 0 ws = (j : Int)) (hx : ws[j]? = some x) (h5 : x.f5 = []) : tk c ws = (ws, ⟨0, [], false⟩, if x.f4 then 3 else 2) := by
  unfold tk
  rw [if_neg (by omega), h, Int.toNat_natCast, hx]
  simp only [h5]
theorem tk_cons {c : Int} {ws : List S65} {j : Nat} {x : S65} {m : S44} {t : List S44} (h : fnd c 0 ws = (j : Int)) (hx : ws[j]? = some x) (h5 : x.f5 = m :: t) : tk c ws = (ws.set j ⟨x.f0, x.f1, x.f2, x.f3, x.f4, t⟩, m, if m.f2 then 4 else 0) := by
  unfold tk
  rw [if_neg (by omega), h, Int.toNat_natCast, hx]
  simp only [h5]

/-- A watch in its row: its queue's cell. -/
theorem row_at {w : World} {ok : Nat → Prop} {g n c : Nat} {ws : List S65} {j : Nat} {x : S65} (h : T m65 65 w 0 ok (.slice (some ⟨g, 0, none⟩) n c) ws) (hx : ws[j]? = some x) :
    ∃ A5 c5, x.f5.length ≤ c5 ∧ w.cell? ⟨g, j * 6 + 4, none⟩ = some (.bool x.f4) ∧ w.cell? ⟨g, j * 6 + 5, none⟩ = some (.slice A5 x.f5.length c5) := by
  obtain ⟨g', o', c', cur, F, hv, hc, hg, hb, hh, hs, hF, hMx, _⟩ := T_at2 h j x hx
  injection hv with h1 h2 h3
  injection h1 with h1
  injection h1 with h1 h4
  subst h1; subst h4; subst h2; subst h3
  obtain ⟨v5, hcs, hT5⟩ := m65_open hMx
  obtain ⟨A5, c5, rfl, h5⟩ := T_slice hT5
  have e : 0 + j * m65.sz = j * 6 := Nat.zero_add _
  rw [e] at hcs
  exact ⟨A5, c5, h5, cut_cell hh hcs rfl, cut_cell hh hcs rfl⟩
/-- .. and its first message: where it lies, and the row without it. -/
theorem row_take {w : World} {ok : Nat → Prop} {gW n cW : Nat} {ws : List S65} {j : Nat} {x : S65} {m : S44} {t : List S44} (h : T m65 65 w 0 ok (.slice (some ⟨gW, 0, none⟩) n cW) ws) (hx : ws[j]? = some x) (h5 : x.f5 = m :: t) :
    ∃ (g o c c1 : Nat) (A1 : Option Addr) (F2 : Nat → Prop), w.cell? ⟨gW, j * 6 + 4, none⟩ = some (.bool x.f4) ∧ w.cell? ⟨gW, j * 6 + 5, none⟩ = some (.slice (some ⟨g, o, none⟩) (t.length + 1) c) ∧ t.length + 1 ≤ c ∧
      w.cell? ⟨g, o, none⟩ = some (.int .i64 m.f0) ∧ w.cell? ⟨g, o + 1, none⟩ = some (.slice A1 m.f1.length c1) ∧ w.cell? ⟨g, o + 2, none⟩ = some (.bool m.f2) ∧ ok g ∧ ok gW ∧ g ≠ gW ∧ g < w.heap.size ∧ gW < w.heap.size ∧
      (∀ k, w.frozen? ⟨gW, k, none⟩ = false) ∧ (∀ k, F2 k → ok k ∧ k ≠ gW) ∧ T Kd.string 9 w 0 F2 (.slice A1 m.f1.length c1) m.f1 ∧
      ∀ w1 w' : World, Below w.heap.size w w1 → Tch (w1.setCell ⟨gW, j * 6 + 5, none⟩ (.slice (if c = 1 then some ⟨g, o, none⟩ else some ⟨g, o + 3, none⟩) t.length (c - 1))) w' (fun k => ¬ ok k ∨ w.heap.size ≤ k) →
        T m65 65 w' 0 (fun k => ok k ∧ ¬ F2 k) (.slice (some ⟨gW, 0, none⟩) n cW) (ws.set j ⟨x.f0, x.f1, x.f2, x.f3, x.f4, t⟩) := by
  obtain ⟨g', o', c', cur, F, hv, hc, hg, hb, hh, hs, hF, hMx, hback⟩ := T_at2 h j x hx
  injection hv with h1 h2 h3
  injection h1 with h1
  injection h1 with h1 h4
  subst h1; subst h4; subst h2; subst h3
  obtain ⟨v5, hcs, hT5⟩ := m65_open hMx
  rw [h5] at hT5
  obtain ⟨g, o, c, cur2, F2, rfl, hc5, hFg, _, hh2, hs2, hF2, hM2, hT6⟩ := T_uncons hT5
  obtain ⟨v1, hcs2, hT1⟩ := m44_open hM2
  obtain ⟨A1, c1, rfl, _⟩ := T_slice hT1
  have e : 0 + j * m65.sz = j * 6 := Nat.zero_add _
  rw [e] at hcs hs hback
  have hs' : j * 6 + 6 ≤ cur.size := hs
  refine ⟨g, o, c, c1, A1, F2, cut_cell hh hcs rfl, cut_cell hh hcs rfl, hc5, cut_cell (o := o) (j := 0) hh2 hcs2 rfl, cut_cell hh2 hcs2 rfl, cut_cell hh2 hcs2 rfl, (hF g hFg).1, hg, (hF g hFg).2, blk_lt hh2, blk_lt hh, fun k => blk_frozen hh k, fun k hk => hF k (hF2 k hk).1, hT1, ?_⟩
  intro w1 w' hbl ht
  have hkeep : ∀ k, k < w.heap.size → ok k → k ≠ gW → w'.heap[k]? = w.heap[k]? := by
    intro k hk hok hne
    have hk1 : k < w1.heap.size := Nat.lt_of_lt_of_le hk hbl.size
    have h2 := ht.kept.2 k (by rw [size_set]; exact hk1) (fun hh => by rcases hh with hh | hh; exact hh hok; omega)
    rw [h2, Below.heap_setCell _ _ _ _ (show k ≠ gW from hne)]
    exact hbl.block k hk
  refine hback w' (cur.setIfInBounds (j * 6 + 5) (.slice (if c = 1 then some ⟨g, o, none⟩ else some ⟨g, o + 3, none⟩) t.length (c - 1))) _ (fun k => F k ∧ ¬ F2 k) (fun k => ok k ∧ ¬ F2 k) ?_ (by rw [Array.size_setIfInBounds]) (fun p hp => set_out (by have : p < j * 6 ∨ j * 6 + 6 ≤ p := hp; omega)) (fun k hk hok hne _ => hkeep k hk hok hne) (fun k hk hnF => ⟨hk, fun h => hnF (hF2 k h).1⟩) (fun k hk => ⟨.inl hk.1, ⟨(hF k hk.1).1, hk.2⟩, (hF k hk.1).2⟩) ?_
  · have h2 := blk_set (blk_below hh hbl) (j * 6 + 5) (.slice (if c = 1 then some ⟨g, o, none⟩ else some ⟨g, o + 3, none⟩) t.length (c - 1))
    exact blk_kept h2 ht.kept (fun hh' => by rcases hh' with hh' | hh'; exact hh' hg; have := blk_lt hh; omega)
  · have hc2 : cut (cur.setIfInBounds (j * 6 + 5) (.slice (if c = 1 then some ⟨g, o, none⟩ else some ⟨g, o + 3, none⟩) t.length (c - 1))) (j * 6) m65.sz = (cut cur (j * 6) m65.sz).set 5 (.slice (if c = 1 then some ⟨g, o, none⟩ else some ⟨g, o + 3, none⟩) t.length (c - 1)) := set_cut (by decide)
    rw [hc2, hcs]
    exact m65_mk ⟨x.f0, x.f1, x.f2, x.f3, x.f4, t⟩ (T_step hT6 (fun k hk hlt => hkeep k hlt (hF k hk.1).1 (hF k hk.1).2))

theorem hubM_of {w w' : World} {lo m hi : Nat} {ok0 ok1 F2 : Nat → Prop} {v0 v1 u1 : Value} {ws : List S65} {ns : List S53} {ps : List ByteArray}
    (h0 : T m65 65 w' 0 (fun k => ok0 k ∧ ¬ F2 k) v0 ws) (h1 : T m53 53 w' 0 ok1 v1 ns) (h2 : T Kd.string 9 w' 0 F2 u1 ps)
    (g0 : ∀ k, ok0 k → lo ≤ k ∧ k < m) (g1 : ∀ k, ok1 k → m ≤ k ∧ k < hi) (hlo : lo ≤ m) (hhi : m ≤ hi) (g2 : ∀ k, F2 k → ok0 k) : HubM w' lo hi v0 v1 u1 ws ns ps := by
  refine ⟨_, _, _, ?_, ?_, ?_, h0, h1, h2⟩
  · intro k hk; have a := g0 k hk.1; exact ⟨a.1, by omega, fun h => by have := g1 k h; omega, hk.2⟩
  · intro k hk; have a := g1 k hk; exact ⟨by omega, a.2, fun h => by have := g0 k h.1; omega, fun h => by have := g0 k (g2 k h); omega⟩
  · intro k hk; have a := g0 k (g2 k hk); exact ⟨a.1, by omega, fun h => h.2 hk, fun h => by have := g1 k h; omega⟩

set_option maxRecDepth 100000 in
set_option maxHeartbeats 8000000 in
theorem take (ws : List S65) (ns : List S53) (client : Int) (A0 A1 : Option Addr) (c0 c1 : Nat) (w0 w : World) (hr0 : Kd.C k65 w0 A0 ws.length ws) (hc0 : ws.length ≤ c0) (hr1 : Kd.C k53 w0 A1 ns.length ns) (hc1 : ns.length ≤ c1) (hw : Below w0.heap.size w0 w) (hfw : fitWatS ws) (hfn : fitNewS ns) :
    Calls Try.prog 20 #[.agg #[.slice A0 ws.length c0, .slice A1 ns.length c1], .int .i64 client] w fun e w' => ∃ v0 v1 u1, e = .returned (.tuple #[.agg #[v0, v1], .agg #[.int .i64 (tk client ws).2.1.f0, u1, .bool (tk client ws).2.1.f2], .int .i64 (tk client ws).2.2]) ∧ HubM w' w.heap.size w'.heap.size v0 v1 u1 (tk client ws).1 ns (tk client ws).2.1.f1 ∧ Below w.heap.size w w' := by
  obtain ⟨R, hR⟩ : ∃ R, R = tk client ws := ⟨_, rfl⟩
  rw [← hR]
  have HR := Lib.hid hR
  have HR0 := Lib.hid (Kd.C_below hr0 hw)
  have HR1 := Lib.hid (Kd.C_below hr1 hw)
  have HC0 := Lib.hid hc0
  have HC1 := Lib.hid hc1
  have HFW := Lib.hid hfw
  have HFN := Lib.hid hfn
  clear hr0 hr1 hw hc0 hc1 hfw hfn hR
  go_enter Try.func20, Try.ntmps20
  go_wp2_with fail
  refine (hub_copy ws ns A0 A1 c0 c1 w _ HR0.out HC0.out HR1.out HC1.out (by repeat (first | exact Below.refl _ _ | apply below_alloc)) HFW.out HFN.out).mono ?_
  rintro e w1 ⟨v0, v1, m, rfl, hS0, hS1, hb, hm0, hm1⟩
  obtain ⟨AW, cW, rfl⟩ := Kd.S_slice hS0
  obtain ⟨AN, cN, rfl⟩ := Kd.S_slice hS1
  have hm0' : w.heap.size + 3 ≤ m := by simpa using hm0
  have HG5 := Lib.hid (blk_below (by have := heap_alloc_new ((w.alloc (.cells #[.slice A0 ws.length c0, .slice A1 ns.length c1] 32)).alloc (.cells #[.slice none 0 0, .slice none 0 0] 32)) (.cells #[.int .i64 0, .slice none 0 0, .bool false] 44); rwa [World.size_alloc, World.size_alloc] at this : (((w.alloc (.cells #[.slice A0 ws.length c0, .slice A1 ns.length c1] 32)).alloc (.cells #[.slice none 0 0, .slice none 0 0] 32)).alloc (.cells #[.int .i64 0, .slice none 0 0, .bool false] 44)).heap[w.heap.size + 1 + 1]? = some (.cells #[.int .i64 0, .slice none 0 0, .bool false] 44 (0, 0))) hb)
  have HG4 := Lib.hid (blk_below (blk_alloc (by have := heap_alloc_new (w.alloc (.cells #[.slice A0 ws.length c0, .slice A1 ns.length c1] 32)) (.cells #[.slice none 0 0, .slice none 0 0] 32); rwa [World.size_alloc] at this : ((w.alloc (.cells #[.slice A0 ws.length c0, .slice A1 ns.length c1] 32)).alloc (.cells #[.slice none 0 0, .slice none 0 0] 32)).heap[w.heap.size + 1]? = some (.cells #[.slice none 0 0, .slice none 0 0] 32 (0, 0))) (.cells #[.int .i64 0, .slice none 0 0, .bool false] 44)) hb)
  have HS0 := Lib.hid (Kd.S_lower (Kd.S_mono (S_now hS0) (ok' := fun k => (w.heap.size + 3 ≤ k ∧ k < m) ∧ k < w1.heap.size) (fun k hk => by have h1 := hk.1.1; simp at h1; exact ⟨⟨h1, hk.1.2⟩, hk.2.2⟩)) (base' := w.heap.size) (by simp; omega))
  have HS1 := Lib.hid (Kd.S_lower (Kd.S_mono (S_now hS1) (ok' := fun k => m ≤ k ∧ k < w1.heap.size) (fun k hk => ⟨hk.1, hk.2.2⟩)) (base' := w.heap.size) (by simp; omega))
  have HB2 := Lib.hid (below_then (below_alloc (below_alloc (below_alloc (Below.refl _ _) _) _) _) (by simp <;> omega) hb)
  clear hS0 hS1 hb hm0
  go_wp2_with fail
  refine (watch_of ws .nilFunc AW cW AN ns.length cN client _ _ (Kd.S_reads' HS0.out).2.2 (below_alloc (Below.refl _ _) _) HFW.out.1).mono ?_
  rintro e w2 ⟨rfl, hb2⟩
  have hb3 : Below w1.heap.size w1 w2 := below_then (below_alloc (Below.refl _ _) _) (by simp) hb2
  have HG7 := Lib.hid (blk_below (heap_alloc_new w1 (.cells #[.slice AW ws.length cW, .slice AN ns.length cN] 32)) hb2)
  have HG42 := Lib.hid (blk_below HG4.out hb3)
  have HG52 := Lib.hid (blk_below HG5.out hb3)
  have HS02 := Lib.hid (Kd.S_below HS0.out hb3)
  have HS12 := Lib.hid (Kd.S_below HS1.out hb3)
  have HB3 := Lib.hid (below_then HB2.out HB2.out.size hb3)
  have HZ2 := Lib.hid (show w1.heap.size < w2.heap.size by have := hb2.size; simp at this; omega)
  clear hb2 hb3 HG4 HG5 HS0 HS1 HB2
  have HH1 := Lib.hid hm1
  clear hm1
  have HT1 := Lib.hid (show T m53 53 w2 0 (fun k => m ≤ k ∧ k < w1.heap.size) (.slice AN ns.length cN) ns from T_imp (T_lower (T_of_S HS12.out) (Nat.zero_le _)) rfl (fun _ _ _ h => k_m53 h))
  have HT0 := Lib.hid (show T m65 65 w2 0 (fun k => (w.heap.size + 3 ≤ k ∧ k < m) ∧ k < w1.heap.size) (.slice AW ws.length cW) ws from T_imp (T_lower (T_of_S HS02.out) (Nat.zero_le _)) rfl (fun _ _ _ h => ms_m65 h))
  clear HS12
  -- the ways that leave the hub as it is
  have hsame : ∀ w', Tch w2 w' (fun k => (w.heap.size ≤ k ∧ k < w.heap.size + 3) ∨ w1.heap.size ≤ k) → HubM w' w.heap.size w'.heap.size (.slice AW ws.length cW) (.slice AN ns.length cN) (.slice none 0 0) ws ns [] ∧ Below w.heap.size w w' := by
    intro w' ht
    refine ⟨hubM_of (w := w) (m := m) (F2 := fun _ => False) (T_mono (T_kept HT0.out ht.kept (fun k hk h => by omega)) (fun k hk => ⟨hk, fun h => h⟩)) (T_kept HT1.out ht.kept (fun k hk h => by omega)) (T_nil _ _ _ _ _ _ _) (fun k hk => by omega) (fun k hk => ⟨hk.1, by have := hk.2; have := HZ2.out; have := ht.kept.1; omega⟩) (by omega) (by have := HH1.out; have := HZ2.out; have := ht.kept.1; omega) (fun k hk => hk.elim), ?_⟩
    exact below_tch HB3.out ht (fun k hk => by rcases hk with hk | hk; exact hk.1; have := HH1.out; omega)
  have HSM := Lib.hid hsame
  clear hsame
  rcases fnd_cases client ws 0 with hf | ⟨j, hj, hf⟩
  · have HF := Lib.hid hf
    have hneg : fnd client 0 ws < 0 := by omega
    rw [HF.out]
    have hRR : R = (ws, ⟨0, [], false⟩, 1) := HR.out.trans (tk_no hneg)
    subst hRR
    clear hf hneg
    have hx0 := blk_cell HG7.out 0
    have hx1 := blk_cell HG7.out 1
    have hy0 := blk_cell HG42.out 0
    have hy1 := blk_cell HG42.out 1
    have hz0 := blk_cell HG52.out 0
    have hz1 := blk_cell HG52.out 1
    have hz2 := blk_cell HG52.out 2
    have hg0 := blk_frozen HG42.out 0
    have hg1 := blk_frozen HG42.out 1
    have hh0 := blk_frozen HG52.out 0
    have hh1 := blk_frozen HG52.out 1
    have hh2 := blk_frozen HG52.out 2
    simp only [List.getElem?_toArray, List.getElem?_cons_zero, List.getElem?_cons_succ] at hx0 hx1 hy0 hy1 hz0 hz1 hz2
    go_wp2_with fail
    refine bodyPost_ret (v := .tuple #[.agg #[.slice AW ws.length cW, .slice AN ns.length cN], .agg #[.int .i64 0, .slice none 0 0, .bool false], .int .i64 1]) (by simp [results, Try.results20, go_sem, hy0, hy1, hz0, hz1, hz2]) rfl ⟨_, _, _, rfl, HSM.out _ ?_⟩
    repeat (first | with_reducible exact Tch.refl _ _ | with_reducible apply Tch.drew | with_reducible refine Tch.setCell ?_ (.inl (by simp <;> omega)) _)
  · have hf2 : fnd client 0 ws = (j : Int) := by rw [hf]; simp
    have HF := Lib.hid hf2
    rw [HF.out]
    obtain ⟨x, hx⟩ : ∃ x, ws[j]? = some x := ⟨_, List.getElem?_eq_getElem hj⟩
    have HX := Lib.hid hx
    clear hf hf2 hx
    obtain ⟨gW, cW', hv, hgb, hgl, _⟩ := Kd.S_form HS02.out (by omega)
    injection hv with h1 h2 h3
    subst h1; subst h3
    have hokg : (w.heap.size + 3 ≤ gW ∧ gW < m) ∧ gW < w1.heap.size := by
      obtain ⟨f, h0, _⟩ := HS02.out
      exact h0 gW rfl
    have HOK := Lib.hid hokg
    clear hokg hgb hgl HS02
    have hmj : ws.length ≤ 4194304 := HFW.out.1
    have hj0 : ¬ ((j : Int) < 0) := by omega
    have hx0 := blk_cell HG7.out 0
    simp only [List.getElem?_toArray, List.getElem?_cons_zero, List.getElem?_cons_succ] at hx0
    cases h5 : x.f5 with
    | nil =>
      have hRR : R = (ws, ⟨0, [], false⟩, if x.f4 then 3 else 2) := HR.out.trans (tk_nil HF.out HX.out h5)
      subst hRR
      obtain ⟨A5, c5, hc5, hc4, hcq⟩ := row_at HT0.out HX.out
      rw [h5] at hcq
      have HC4 := Lib.hid hc4
      clear h5 hc5 hc4
      simp only [List.length_nil] at hcq
      go_wp2_with fail
      refine (ring_none w2.heap.size c5 A5 0 _ (heap_alloc_new w2 _)).mono ?_
      rintro e w3 ⟨rfl, hb4⟩
      have hb5 : Below w2.heap.size w2 w3 := below_then (below_alloc (Below.refl _ _) _) (by simp) hb4
      have hcl : w3.cell? ⟨gW, j * 6 + 4, none⟩ = some (.bool x.f4) := (hb5.cell (p := ⟨gW, j * 6 + 4, none⟩) (show gW < w2.heap.size by have := HOK.out; have := HZ2.out; omega)).trans HC4.out
      have hgl3 : gW < w3.heap.size := by have := HOK.out; have := HZ2.out; have := hb5.size; omega
      have HG73 := Lib.hid (blk_below HG7.out hb5)
      have HG43 := Lib.hid (blk_below HG42.out hb5)
      have HG53 := Lib.hid (blk_below HG52.out hb5)
      have HT3 := Lib.hid (Tch.of_below hb5 (fun k => (w.heap.size ≤ k ∧ k < w.heap.size + 3) ∨ w1.heap.size ≤ k))
      clear hb4 hb5 hx0 hcq
      have hx0 := blk_cell HG73.out 0
      have hx1 := blk_cell HG73.out 1
      have hy0 := blk_cell HG43.out 0
      have hy1 := blk_cell HG43.out 1
      have hz0 := blk_cell HG53.out 0
      have hz1 := blk_cell HG53.out 1
      have hz2 := blk_cell HG53.out 2
      have hg0 := blk_frozen HG43.out 0
      have hg1 := blk_frozen HG43.out 1
      have hh0 := blk_frozen HG53.out 0
      have hh1 := blk_frozen HG53.out 1
      have hh2 := blk_frozen HG53.out 2
      have hl7 := blk_lt HG73.out
      have hl4 := blk_lt HG43.out
      have hl5 := blk_lt HG53.out
      simp only [List.getElem?_toArray, List.getElem?_cons_zero, List.getElem?_cons_succ] at hx0 hx1 hy0 hy1 hz0 hz1 hz2
      cases h4 : x.f4
      all_goals
        rw [h4] at hcl
        go_wp2_with fail
      · refine bodyPost_ret (v := .tuple #[.agg #[.slice (some ⟨gW, 0, none⟩) ws.length cW, .slice AN ns.length cN], .agg #[.int .i64 0, .slice none 0 0, .bool false], .int .i64 2]) (by simp [results, Try.results20, go_sem, hy0, hy1, hz0, hz1, hz2, hl4, hl5]) rfl ⟨_, _, _, rfl, HSM.out _ ?_⟩
        repeat (first | with_reducible exact HT3.out | with_reducible apply Tch.drew | with_reducible refine Tch.setCell ?_ (.inl (by simp <;> omega)) _ | with_reducible refine Tch.below ?_ (below_alloc (Below.refl _ _) _))
      · refine bodyPost_ret (v := .tuple #[.agg #[.slice (some ⟨gW, 0, none⟩) ws.length cW, .slice AN ns.length cN], .agg #[.int .i64 0, .slice none 0 0, .bool false], .int .i64 3]) (by simp [results, Try.results20, go_sem, hy0, hy1, hz0, hz1, hz2, hl4, hl5]) rfl ⟨_, _, _, rfl, HSM.out _ ?_⟩
        repeat (first | with_reducible exact HT3.out | with_reducible apply Tch.drew | with_reducible refine Tch.setCell ?_ (.inl (by simp <;> omega)) _ | with_reducible refine Tch.below ?_ (below_alloc (Below.refl _ _) _))
    | cons y t =>
      have hRR : R = (ws.set j ⟨x.f0, x.f1, x.f2, x.f3, x.f4, t⟩, y, if y.f2 then 4 else 0) := HR.out.trans (tk_cons HF.out HX.out h5)
      subst hRR
      obtain ⟨g, o, c, c1', A1', F2, hc4, hcq, hc5, hm0, hm1, hm2, hog, hoW, hgg, hgl, hgWl, hfr, hF2, hTp, hback⟩ := row_take HT0.out HX.out h5
      have HTp := Lib.hid hTp
      have HBK := Lib.hid hback
      have HF2 := Lib.hid hF2
      have HOG := Lib.hid hog
      have H5 := Lib.hid h5
      have HFR := Lib.hid hfr
      have HOW := Lib.hid hoW
      clear hTp hback hF2 hfr hog hoW h5
      have ht4 : t.length ≤ 4194304 := by have := (HFW.out.2 x (List.mem_of_getElem? HX.out)).1; rw [H5.out] at this; simp at this; omega
      have HM0 := Lib.hid hm0
      have HM1 := Lib.hid hm1
      have HM2 := Lib.hid hm2
      have HCQ := Lib.hid hcq
      clear hm0 hm1 hm2
      go_wp2_with fail
      refine (ring_some w2.heap.size g o (t.length + 1) c 0 y.f0 _ y.f2 A1' y.f1.length c1' rfl _ (by omega) (by omega) (by simp; omega) (heap_alloc_new w2 _) (((below_alloc (Below.refl w2.heap.size w2) _).cell (p := ⟨g, o, none⟩) hgl).trans HM0.out) (((below_alloc (Below.refl w2.heap.size w2) _).cell (p := ⟨g, o + 1, none⟩) hgl).trans HM1.out) (((below_alloc (Below.refl w2.heap.size w2) _).cell (p := ⟨g, o + 2, none⟩) hgl).trans HM2.out)).mono ?_
      rintro e w3 ⟨rfl, hq3, ht3⟩
      have hb5 : Below w2.heap.size w2 w3 := ((Tch.of_below (below_alloc (Below.refl w2.heap.size w2) _) (fun k => k = w2.heap.size)).then_ ht3 (fun k hk => .inl hk)).to_below (Nat.le_refl _) (fun k hk => by omega)
      have HQ3 := Lib.hid hq3
      have HB5 := Lib.hid hb5
      have HZ3 := Lib.hid (show w2.heap.size < w3.heap.size by have := ht3.kept.1; simp at this; omega)
      clear hq3 ht3 hb5 hx0 hcq
      obtain ⟨Aj, hAj⟩ : ∃ Aj : Option Addr, Aj = if c = 1 then some ⟨g, o, none⟩ else some ⟨g, o + 3, none⟩ := ⟨_, rfl⟩
      have HAJ := Lib.hid hAj
      clear hAj
      go_wp2_with fail
      refine (ring_list w2.heap.size g o t.length c 0 Aj HAJ.out _ hc5 ht4 (blk_alloc HQ3.out _)).mono ?_
      rintro e w4 ⟨rfl, hb6⟩
      have hb7 : Below w2.heap.size w2 w4 := below_then (below_alloc HB5.out (.cells #[.int .i64 y.f0, .slice A1' y.f1.length c1', .bool y.f2] 44)) (by simp; have := HB5.out.size; omega) hb6
      have HGM := Lib.hid (blk_below (heap_alloc_new w3 (.cells #[.int .i64 y.f0, .slice A1' y.f1.length c1', .bool y.f2] 44)) hb6)
      have HB7 := Lib.hid hb7
      have hgW4 : gW < w4.heap.size := by have := hb7.size; omega
      have hq5 : w4.cell? ⟨gW, j * 6 + 5, none⟩ = some (.slice (some ⟨g, o, none⟩) (t.length + 1) c) := (hb7.cell (p := ⟨gW, j * 6 + 5, none⟩) hgWl).trans HCQ.out
      have hfr5 : w4.frozen? ⟨gW, j * 6 + 5, none⟩ = false := (hb7.frozen (p := ⟨gW, j * 6 + 5, none⟩) hgWl).trans (HFR.out _)
      have hm2 := blk_cell HGM.out 2
      simp only [List.getElem?_toArray, List.getElem?_cons_zero, List.getElem?_cons_succ] at hm2
      have hne3 : ¬ (w3.heap.size = gW) := by have := HZ3.out; omega
      have HG74 := Lib.hid (blk_far (blk_below HG7.out hb7) (p := ⟨gW, j * 6 + 5, none⟩) (by show w1.heap.size ≠ gW; have := HOK.out; omega) (.slice Aj t.length (c - 1)))
      have HG44 := Lib.hid (blk_far (blk_below HG42.out hb7) (p := ⟨gW, j * 6 + 5, none⟩) (by show w.heap.size + 1 ≠ gW; have := HOK.out; omega) (.slice Aj t.length (c - 1)))
      have HG54 := Lib.hid (blk_far (blk_below HG52.out hb7) (p := ⟨gW, j * 6 + 5, none⟩) (by show w.heap.size + 1 + 1 ≠ gW; have := HOK.out; omega) (.slice Aj t.length (c - 1)))
      have HGM4 := Lib.hid (blk_far HGM.out (p := ⟨gW, j * 6 + 5, none⟩) (by show w3.heap.size ≠ gW; exact hne3) (.slice Aj t.length (c - 1)))
      have hend : ∀ w', Tch (w4.setCell ⟨gW, j * 6 + 5, none⟩ (.slice Aj t.length (c - 1))) w' (fun k => w.heap.size ≤ k ∧ k < w.heap.size + 3) → HubM w' w.heap.size w'.heap.size (.slice (some ⟨gW, 0, none⟩) ws.length cW) (.slice AN ns.length cN) (.slice A1' y.f1.length c1') (ws.set j ⟨x.f0, x.f1, x.f2, x.f3, x.f4, t⟩) ns y.f1 ∧ Below w.heap.size w w' := by
        intro w' ht
        have htt : Tch w2 w' (fun k => k = gW ∨ (w.heap.size ≤ k ∧ k < w.heap.size + 3)) := ((Tch.of_below HB7.out (fun k => k = gW ∨ (w.heap.size ≤ k ∧ k < w.heap.size + 3))).setCell (.inl (.inl rfl)) _).then_ ht (fun k hk => .inl (.inr hk))
        have hsz := htt.kept.1
        have hT := HBK.out w4 w' (below_then (Below.refl _ _) (Nat.le_refl _) HB7.out) (by rw [← HAJ.out]; exact ht.mono (fun k hk => .inl (fun h => by omega)))
        refine ⟨hubM_of (w := w) (m := m) hT (T_kept HT1.out htt.kept (fun k hk h => by have := HOK.out; rcases h with h | h <;> omega)) (T_kept HTp.out htt.kept (fun k hk h => by have := HF2.out k hk; rcases h with h | h; exact this.2 h; omega)) (fun k hk => by omega) (fun k hk => ⟨hk.1, by have := hk.2; have := HZ2.out; omega⟩) (by omega) (by have := HH1.out; have := HZ2.out; omega) (fun k hk => (HF2.out k hk).1), ?_⟩
        exact below_tch HB3.out htt (fun k hk => by have := HOK.out; rcases hk with hk | hk <;> omega)
      have HEND := Lib.hid hend
      clear hb6 hb7 hend
      cases h2 : y.f2
      all_goals
        rw [h2] at hm2
        go_wp2_with fail
        clear hq5 hfr5 hm2
        have hx0 := blk_cell HG74.out 0
        have hx1 := blk_cell HG74.out 1
        have hy0 := blk_cell HG44.out 0
        have hy1 := blk_cell HG44.out 1
        have hz0 := blk_cell HG54.out 0
        have hz1 := blk_cell HG54.out 1
        have hz2 := blk_cell HG54.out 2
        have hm0 := blk_cell HGM4.out 0
        have hm1 := blk_cell HGM4.out 1
        have hm2 := blk_cell HGM4.out 2
        have hg0 := blk_frozen HG44.out 0
        have hg1 := blk_frozen HG44.out 1
        have hh0 := blk_frozen HG54.out 0
        have hh1 := blk_frozen HG54.out 1
        have hh2 := blk_frozen HG54.out 2
        simp only [List.getElem?_toArray, List.getElem?_cons_zero, List.getElem?_cons_succ] at hx0 hx1 hy0 hy1 hz0 hz1 hz2 hm0 hm1 hm2
        rw [h2] at hm2
        have hn1 : w.heap.size + 1 ≠ w1.heap.size := by have := HOK.out; omega
        have hn2 : w.heap.size + 1 + 1 ≠ w1.heap.size := by have := HOK.out; omega
        have hn3 : w.heap.size + 1 ≠ w3.heap.size := by have := HOK.out; have := HZ3.out; have := HZ2.out; omega
        have hn4 : w.heap.size + 1 + 1 ≠ w3.heap.size := by have := HOK.out; have := HZ3.out; have := HZ2.out; omega
        go_region
        all_goals
          go_wp2_with fail
          refine bodyPost_ret (v := .tuple #[.agg #[.slice (some ⟨gW, 0, none⟩) ws.length cW, .slice AN ns.length cN], .agg #[.int .i64 y.f0, .slice A1' y.f1.length c1', .bool y.f2], .int .i64 (if y.f2 then 4 else 0)]) (by simp [results, Try.results20, go_sem, hy0, hy1, hz0, hz1, hz2, h2]) rfl ⟨_, _, _, by simp [h2], HEND.out _ ?_⟩
          repeat (first | with_reducible exact Tch.refl _ _ | with_reducible apply Tch.drew | with_reducible refine Tch.setCell ?_ (.inl (by simp <;> omega)) _ | with_reducible refine Tch.below ?_ (below_alloc (Below.refl _ _) _))
end Go.Proofs.Ytmphkhkbegihaaa.HubLaw
