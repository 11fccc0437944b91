/- spec.l5Copy, nothing skipped: its contract by hand (rows that lie apart). -/
import Derived.Test.YtmphkhkbegihaaaDoorDisp
import Derived.Test.YtmphkhkbegihaaaDoorSpecS
namespace Go.Proofs.YtmphkhkbegihaaaDoor.HubLaw
open Go Go.RowKit Go.Proofs.YtmphkhkbegihaaaDoor.PHub Go.Proofs.YtmphkhkbegihaaaDoorW.PrintWords Go.Proofs.YtmphkhkbegihaaaDoor.Tree Go.Proofs.YtmphkhkbegihaaaDoor.Mark Go.Proofs.YtmphkhkbegihaaaDoor.To Go.Proofs.YtmphkhkbegihaaaDoor.Copy Go.Proofs.YtmphkhkbegihaaaDoor.Plain Go.Proofs.YtmphkhkbegihaaaDoor.SpecP Go.Proofs.YtmphkhkbegihaaaDoor.Open Go.Proofs.YtmphkhkbegihaaaDoor.Find
set_option linter.unusedVariables false
set_option linter.unusedSimpArgs false

theorem S_empty {α : Type} (d : Kd α) (e : Nat) {w : World} {base g : Nat} {ok : Nat → Prop} (h : w.heap[g]? = some (.cells #[] e (0, 0))) (hb : base ≤ g) (hg : ok g) : Kd.S d e w base ok (.slice (some ⟨g, 0, none⟩) 0 0) [] := by
  refine ⟨fun _ => 0, fun k hk => ?_, [], ⟨by simp, .inr ⟨g, 0, #[], rfl, hb, h, Nat.le_refl _, by decide, by simp, by simp⟩⟩, Reps.none _ _⟩
  injection hk with hk
  rw [← hk]; exact hg

set_option maxRecDepth 100000 in
set_option maxHeartbeats 8000000 in
theorem spec_copy (ws : List S76) (ns : List S87) (d : Nat) (A0 A1 : Option Addr) (c0 c1 : Nat) (w0 w : World) (hr0 : Kd.C k76 w0 A0 ws.length ws) (hc0 : ws.length ≤ c0) (hr1 : Kd.C k87 w0 A1 ns.length ns) (hc1 : ns.length ≤ c1) (hw : Below w0.heap.size w0 w) (hfw : fitWatS ws) (hfn : fitNewS ns) (hd : d ≤ ns.length) :
    Calls Tryd.prog 48 #[.agg #[.slice A0 ws.length c0, .slice A1 ns.length c1], .int .i64 (-1), .int .i64 (d : Int)] w fun e w' => ∃ v0 v1, ∃ okA okB : Nat → Prop, e = .returned (.agg #[v0, v1]) ∧ (∀ k, okA k → w.heap.size ≤ k ∧ ¬ okB k) ∧ (∀ k, okB k → w.heap.size ≤ k) ∧ Kd.S ms76 76 w' w.heap.size okA v0 ws ∧ Kd.S k87 87 w' w.heap.size okB v1 (ns.drop d) ∧ Below w.heap.size w w' := by
  have HR0 := Lib.hid (Kd.C_below hr0 hw)
  have HR1 := Lib.hid (Kd.C_below hr1 hw)
  have HC0 := Lib.hid hc0
  have HC1 := Lib.hid hc1
  have HFW := Lib.hid hfw
  have HFN := Lib.hid hfn
  have hmx0 : ws.length ≤ 4194304 := hfw.1
  have hmx1 : ns.length ≤ 4194304 := hfn.1
  clear hr0 hr1 hw hc0 hc1 hfw hfn
  go_enter Tryd.func48, Tryd.ntmps48
  go_wp2_with fail
  have g0 := blk_alloc (blk_alloc (blk_alloc (blk_alloc (heap_alloc_new w (.cells #[.slice A0 ws.length c0, .slice A1 ns.length c1] 44)) (.cells #[.slice none 0 0, .slice none 0 0] 44)) (.cells #[] 76)) (.cells #[] 87)) (.cells #[.slice (some ⟨w.heap.size + 1 + 1, 0, none⟩) 0 0, .slice (some ⟨w.heap.size + 1 + 1 + 1, 0, none⟩) 0 0] 44)
  have g1 := blk_alloc (blk_alloc (blk_alloc (heap_alloc_new (w.alloc (.cells #[.slice A0 ws.length c0, .slice A1 ns.length c1] 44)) (.cells #[.slice none 0 0, .slice none 0 0] 44)) (.cells #[] 76)) (.cells #[] 87)) (.cells #[.slice (some ⟨w.heap.size + 1 + 1, 0, none⟩) 0 0, .slice (some ⟨w.heap.size + 1 + 1 + 1, 0, none⟩) 0 0] 44)
  have g2 := blk_alloc (blk_alloc (heap_alloc_new ((w.alloc (.cells #[.slice A0 ws.length c0, .slice A1 ns.length c1] 44)).alloc (.cells #[.slice none 0 0, .slice none 0 0] 44)) (.cells #[] 76)) (.cells #[] 87)) (.cells #[.slice (some ⟨w.heap.size + 1 + 1, 0, none⟩) 0 0, .slice (some ⟨w.heap.size + 1 + 1 + 1, 0, none⟩) 0 0] 44)
  have g3 := blk_alloc (heap_alloc_new (((w.alloc (.cells #[.slice A0 ws.length c0, .slice A1 ns.length c1] 44)).alloc (.cells #[.slice none 0 0, .slice none 0 0] 44)).alloc (.cells #[] 76)) (.cells #[] 87)) (.cells #[.slice (some ⟨w.heap.size + 1 + 1, 0, none⟩) 0 0, .slice (some ⟨w.heap.size + 1 + 1 + 1, 0, none⟩) 0 0] 44)
  have g4 := heap_alloc_new ((((w.alloc (.cells #[.slice A0 ws.length c0, .slice A1 ns.length c1] 44)).alloc (.cells #[.slice none 0 0, .slice none 0 0] 44)).alloc (.cells #[] 76)).alloc (.cells #[] 87)) (.cells #[.slice (some ⟨w.heap.size + 1 + 1, 0, none⟩) 0 0, .slice (some ⟨w.heap.size + 1 + 1 + 1, 0, none⟩) 0 0] 44)
  have hbL : Below w.heap.size w (((((w.alloc (.cells #[.slice A0 ws.length c0, .slice A1 ns.length c1] 44)).alloc (.cells #[.slice none 0 0, .slice none 0 0] 44)).alloc (.cells #[] 76)).alloc (.cells #[] 87)).alloc (.cells #[.slice (some ⟨w.heap.size + 1 + 1, 0, none⟩) 0 0, .slice (some ⟨w.heap.size + 1 + 1 + 1, 0, none⟩) 0 0] 44)) := below_alloc (below_alloc (below_alloc (below_alloc (below_alloc (Below.refl _ _) _) _) _) _) _
  have hzL : (((((w.alloc (.cells #[.slice A0 ws.length c0, .slice A1 ns.length c1] 44)).alloc (.cells #[.slice none 0 0, .slice none 0 0] 44)).alloc (.cells #[] 76)).alloc (.cells #[] 87)).alloc (.cells #[.slice (some ⟨w.heap.size + 1 + 1, 0, none⟩) 0 0, .slice (some ⟨w.heap.size + 1 + 1 + 1, 0, none⟩) 0 0] 44)).heap.size = w.heap.size + 5 := by simp only [World.size_alloc]
  simp only [World.size_alloc] at g1 g2 g3 g4
  generalize (((((w.alloc (.cells #[.slice A0 ws.length c0, .slice A1 ns.length c1] 44)).alloc (.cells #[.slice none 0 0, .slice none 0 0] 44)).alloc (.cells #[] 76)).alloc (.cells #[] 87)).alloc (.cells #[.slice (some ⟨w.heap.size + 1 + 1, 0, none⟩) 0 0, .slice (some ⟨w.heap.size + 1 + 1 + 1, 0, none⟩) 0 0] 44)) = wL at g0 g1 g2 g3 g4 hbL hzL ⊢
  have HG0 := Lib.hid g0
  have HG1 := Lib.hid g1
  have HG4 := Lib.hid g4
  have HE1 := Lib.hid (S_empty ms76 76 (base := w.heap.size) (ok := fun k => (k = w.heap.size + 2 ∨ w.heap.size + 5 ≤ k) ∧ k < wL.heap.size) g2 (by omega) (by constructor; omega; omega))
  have HE2 := Lib.hid (S_empty k87 87 (base := w.heap.size) (ok := fun k => k = w.heap.size + 3) g3 (by omega) (by omega))
  have HBL := Lib.hid hbL
  clear g0 g1 g2 g3 g4 hbL
  have HZL := Lib.hid hzL
  clear hzL
  go_loopw [8] (fun v8 wr => ∃ (p q : List S76) (vW : Value), v8 = .int .i64 p.length ∧ Hid (ws = p ++ q) ∧ Hid (wr.heap[w.heap.size]? = some (.cells #[.slice A0 ws.length c0, .slice A1 ns.length c1] 44 (0, 0))) ∧ Hid (wr.heap[w.heap.size + 1]? = some (.cells #[.slice none 0 0, .slice none 0 0] 44 (0, 0))) ∧ Hid (wr.heap[w.heap.size + 1 + 1 + 1 + 1]? = some (.cells #[vW, .slice (some ⟨w.heap.size + 1 + 1 + 1, 0, none⟩) 0 0] 44 (0, 0))) ∧ Hid (Kd.S ms76 76 wr w.heap.size (fun k => (k = w.heap.size + 2 ∨ w.heap.size + 5 ≤ k) ∧ k < wr.heap.size) vW p) ∧ Hid (Kd.S k87 87 wr w.heap.size (fun k => k = w.heap.size + 3) (.slice (some ⟨w.heap.size + 1 + 1 + 1, 0, none⟩) 0 0) []) ∧ Hid (Below w.heap.size w wr)) (fun v8 _ => ws.length - (intOf v8).toNat)
  case atStart => exact ⟨[], ws, _, rfl, Lib.hid rfl, HG0, HG1, HG4, HE1, HE2, HBL⟩
  case round =>
    clear HG0 HG1 HG4 HE1 HE2 HBL HZL
    obtain ⟨p, q, vW, rfl, HL, HG0, HG1, HG4, HSW, HSN, HB⟩ := hrel
    obtain ⟨AW, cW, rfl⟩ := Kd.S_slice HSW.out
    have hx0 := blk_cell HG0.out 0
    have hx1 := blk_cell HG0.out 1
    have hy0 := blk_cell HG4.out 0
    simp only [List.getElem?_toArray, List.getElem?_cons_zero, List.getElem?_cons_succ] at hx0 hx1 hy0
    cases q with
    | nil =>
      have hl : p.length = ws.length := by rw [HL.out]; simp
      have hp : p = ws := by rw [HL.out]; simp
      have HP := Lib.hid hp
      have HL2 := Lib.hid hl
      clear hl hp hy0
      rw [HP.out] at HSW
      rw [HL2.out] at HG4 ⊢
      obtain ⟨m, hm⟩ : ∃ m, m = wr.heap.size := ⟨_, rfl⟩
      obtain ⟨wo, rfl⟩ : ∃ wo : World, wo = wr := ⟨_, rfl⟩
      have hw5 : w.heap.size + 1 + 1 + 1 + 1 < m := by rw [hm]; exact blk_lt HG4.out
      rw [← hm] at HSW
      have HM := Lib.hid (Nat.le_of_eq hm)
      clear hm
      have hy0 := blk_cell HG4.out 0
      simp only [List.getElem?_toArray, List.getElem?_cons_zero, List.getElem?_cons_succ] at hy0
      have HSN' := Lib.hid (Kd.S_mono HSN.out (ok' := fun k => k = w.heap.size + 3 ∨ (m ≤ k ∧ k < wo.heap.size)) (fun k hk => .inl hk))
      go_wp2_with fail
      go_loopw [9] (fun v9 wr => ∃ (i : Nat) (p q : List S87) (vN : Value), v9 = .int .i64 i ∧ Hid (i = d + p.length) ∧ Hid (ns.drop d = p ++ q) ∧ Hid (wr.heap[w.heap.size]? = some (.cells #[.slice A0 ws.length c0, .slice A1 ns.length c1] 44 (0, 0))) ∧ Hid (wr.heap[w.heap.size + 1]? = some (.cells #[.slice none 0 0, .slice none 0 0] 44 (0, 0))) ∧ Hid (wr.heap[w.heap.size + 1 + 1 + 1 + 1]? = some (.cells #[.slice AW ws.length cW, vN] 44 (0, 0))) ∧ Hid (Kd.S ms76 76 wr w.heap.size (fun k => (k = w.heap.size + 2 ∨ w.heap.size + 5 ≤ k) ∧ k < m) (.slice AW ws.length cW) ws) ∧ Hid (Kd.S k87 87 wr w.heap.size (fun k => k = w.heap.size + 3 ∨ (m ≤ k ∧ k < wr.heap.size)) vN p) ∧ Hid (Below w.heap.size w wr) ∧ Hid (m ≤ wr.heap.size)) (fun v9 _ => ns.length - (intOf v9).toNat)
      case atStart => exact ⟨d, [], ns.drop d, _, rfl, Lib.hid rfl, Lib.hid rfl, HG0, HG1, HG4, HSW, HSN', HB, HM⟩
      case round =>
        clear HG0 HG1 HG4 HSW HSN HSN' HB HM HL hx0 hx1 hy0
        obtain ⟨i, p, q, vN, rfl, HI, HL, HG0, HG1, HG4, HSW, HSN, HB, HM⟩ := hrel
        obtain ⟨AN, cN, rfl⟩ := Kd.S_slice HSN.out
        have hx0 := blk_cell HG0.out 0
        have hx1 := blk_cell HG0.out 1
        have hz0 := blk_cell HG4.out 0
        have hz1 := blk_cell HG4.out 1
        have hu0 := blk_cell HG1.out 0
        have hu1 := blk_cell HG1.out 1
        have hg0 := blk_frozen HG1.out 0
        have hg1 := blk_frozen HG1.out 1
        simp only [List.getElem?_toArray, List.getElem?_cons_zero, List.getElem?_cons_succ] at hx0 hx1 hz0 hz1 hu0 hu1
        have hlen : ns.length - d = p.length + q.length := by have h := congrArg List.length HL.out; simpa using h
        cases q with
        | nil =>
          have hl : i = ns.length := by have := HI.out; simp at hlen; omega
          have hp : ns.drop d = p := by rw [HL.out]; simp
          have hpl : p.length = (ns.drop d).length := by rw [hp]
          have HP := Lib.hid hp
          have HL2 := Lib.hid hl
          have hnl : ¬ (i < ns.length) := by omega
          clear hl hp hlen hpl
          go_wp2_with fail
          refine bodyPost_ret (v := .agg #[.slice AW ws.length cW, .slice AN p.length cN]) (by simp [results, Tryd.results48, go_sem, hu0, hu1]) rfl ⟨_, _, (fun k => (k = w.heap.size + 2 ∨ w.heap.size + 5 ≤ k) ∧ k < m), (fun k => k = w.heap.size + 3 ∨ m ≤ k), rfl, fun k hk => ⟨by omega, by omega⟩, fun k hk => by omega, ?_, ?_, ?_⟩
          · exact Kd.S_far (Kd.S_far HSW.out (fun k hk => by show k ≠ w.heap.size + 1; omega) _) (fun k hk => by show k ≠ w.heap.size + 1; omega) _
          · rw [HP.out]
            exact Kd.S_mono (Kd.S_far (Kd.S_far HSN.out (fun k hk => by show k ≠ w.heap.size + 1; omega) _) (fun k hk => by show k ≠ w.heap.size + 1; omega) _) (fun k hk => by omega)
          · exact (HB.out.setCell (by show w.heap.size ≤ w.heap.size + 1; omega) _).setCell (by show w.heap.size ≤ w.heap.size + 1; omega) _
        | cons y q =>
          simp only [List.length_cons] at hlen
          have hl : i < ns.length := by have := HI.out; omega
          have hyy : ns[i]? = some y := by
            rw [HI.out]
            have h := congrArg (fun z => z[p.length]?) HL.out
            simpa using h
          have hfy : y.f1.length ≤ 4194304 := HFN.out.2 y (List.mem_of_getElem? hyy)
          have hrd : rd_T87 ns (i : Int) = y := by simp only [rd_T87, Int.toNat_natCast, List.getD_eq_getElem?_getD, hyy]; rfl
          obtain ⟨ad, A6, d6, had, hy0, hy1, hl6, hr6⟩ := at_T87 (Kd.C_below HR1.out HB.out) (i : Int) (by omega) (by omega)
          subst had
          rw [Int.toNat_natCast] at hy0 hy1
          rw [hrd] at hy0 hy1 hl6 hr6
          have HR6 := Lib.hid hr6
          have HL6 := Lib.hid hl6
          have HTX := Lib.hid (texts_id y.f1 hfy)
          have hpl : p.length ≤ 4194304 := by omega
          have hbs := HB.out.size
          have hw4z : w.heap.size + 1 + 1 + 1 + 1 < wr.heap.size := blk_lt HG4.out
          have hw0z : w.heap.size < wr.heap.size := by omega
          have hadz := World.block_lt_of_cell? wr _ hy0
          have HY0 := Lib.hid hy0
          clear hr6 hl6 hrd hyy hlen hfy hu0 hu1 hg0 hg1 hz0
          go_wp2_with fail
          go_region_law (first | (go_simp; go_at_call 76; refine (spec_l5Texts.calls A6 d6 y.f1 y.f1 _ (Kd.C_below HR6.out (below_drew (Below.refl _ _))) HL6.out HTX.out).mono ?_; rintro e w3 ⟨v1, rfl, hR, hb⟩; obtain ⟨A9, c9, rfl⟩ := Kd.R_slice hR; have HB9 := Lib.hid (show Below wr.heap.size wr w3 from below_then (below_drew (Below.refl _ _)) (Nat.le_refl _) hb); have HR9 := Lib.hid (Kd.R_mono (Kd.R_lower (Kd.R_bound hR) (base' := w.heap.size) hbs) (ok' := fun k => wr.heap.size ≤ k ∧ k < w3.heap.size) (fun k hk => ⟨hk.2.1, hk.2.2.1⟩)); have q1 := blk_cell (blk_below HG4.out HB9.out) 1; have q2 := blk_cell (blk_below HG0.out HB9.out) 1; have q3 := (HB9.out.cell (p := ad.add (i * 2)) hadz).trans HY0.out; have q4 := blk_cell (blk_alloc (blk_below HG4.out HB9.out) (.cells #[.int .i64 y.f0, .slice A9 y.f1.length c9] 87)) 1; have hz7 : w.heap.size + 1 + 1 + 1 + 1 < w3.heap.size := Nat.lt_of_lt_of_le hw4z HB9.out.size; simp only [List.getElem?_toArray, List.getElem?_cons_zero, List.getElem?_cons_succ] at q1 q2 q4; clear hR hb) | (refine Kd.S_append_step k87 (w0 := w3) (W := w3) w.heap.size (by simp [Region.wanted]) (.tmp 43) (.tmp 58) 42 87 (.agg #[.int .i64 0, .slice none 0 0]) 32 rfl Tryd.underlying42 info87 rfl (by decide) (by omega) (.slice AN p.length cN) p y [.int .i64 y.f0, .slice A9 y.f1.length c9] (fun k => k = w.heap.size + 3 ∨ m ≤ k) (fun k => wr.heap.size ≤ k ∧ k < w3.heap.size) rfl rfl (k87_mkM _ _ _ y HR9.out) (fun k hk => ⟨.inr (Nat.le_trans HM.out hk.1), fun he => by have := Kd.S_lt HSN.out k he.symm; omega⟩) (fun k hk => .inr (Nat.le_trans HM.out (Nat.le_trans HB9.out.size hk))) (Kd.S_mono (Kd.S_below HSN.out HB9.out) (fun k hk => ⟨by omega, fun h => by rcases hk with hk | hk; omega; omega⟩)) (Below.refl _ _) (by have := HB9.out.size; omega) (by omega) ?_; intro v3 w4 hS hB4 hg hat; obtain ⟨A3, n3, hv3⟩ := Kd.S_slice hS; rw [List.length_append, List.length_singleton] at hv3; subst hv3; have HS4 := Lib.hid (S_now hS); have hne : ∀ k, (k < w.heap.size + 3 ∨ (w.heap.size + 4 ≤ k ∧ k < m)) → some k ≠ (Value.slice AN p.length cN).ownBlock := (fun k hk he => by have h1 := HSN.out; obtain ⟨f, h0, _⟩ := h1; have := h0 k he.symm; omega); have HG04 := Lib.hid (blk_grown (blk_below HG0.out HB9.out) hg (hne _ (by omega))); have HG14 := Lib.hid (blk_grown (blk_below HG1.out HB9.out) hg (hne _ (by omega))); have HG44 := Lib.hid (blk_grown (blk_below HG4.out HB9.out) hg (hne _ (by omega))); have HSW4 := Lib.hid (Kd.S_grown (Kd.S_below HSW.out HB9.out) hg (fun k hk => hne k (by omega))); have hx9 := blk_cell HG44.out 1; have hf9 := blk_frozen HG44.out 1; simp only [List.getElem?_toArray, List.getElem?_cons_zero, List.getElem?_cons_succ] at hx9; have HZ4 := Lib.hid hg.size; have HB4 := Lib.hid ((HB.out.trans (HB9.out.mono hbs)).grown hg (by have := HB9.out.size; omega) (fun k hk => by rcases Nat.lt_or_ge k (w.heap.size + 3) with h | h; exact absurd hk.symm (hne k (.inl h)); omega)); clear hS hB4 hg hat hne))
          all_goals
            go_wp2_with fail
            go_roundw
            case rel =>
              have h4 := blk_set HG44.out 1 (.slice A3 (p.length + 1) n3)
              simp only [List.setIfInBounds_toArray, List.set_cons_zero, List.set_cons_succ] at h4
              refine ⟨i + 1, p ++ [y], q, .slice A3 (p.length + 1) n3, by simp, Lib.hid (by have := HI.out; simp; omega), Lib.hid (by rw [HL.out]; simp), Lib.hid (blk_far HG04.out (by show w.heap.size ≠ w.heap.size + 1 + 1 + 1 + 1; omega) _), Lib.hid (blk_far HG14.out (by show w.heap.size + 1 ≠ w.heap.size + 1 + 1 + 1 + 1; omega) _), Lib.hid h4, Lib.hid (Kd.S_far HSW4.out (p := ⟨w.heap.size + 1 + 1 + 1 + 1, 1, none⟩) (fun k hk => by show k ≠ w.heap.size + 1 + 1 + 1 + 1; omega) _), Lib.hid ?_, Lib.hid (HB4.out.setCell (by show w.heap.size ≤ w.heap.size + 1 + 1 + 1 + 1; omega) _), Lib.hid (by rw [size_set]; have := HM.out; have := HB9.out.size; have := HZ4.out; omega)⟩
              exact Kd.S_mono (Kd.S_far HS4.out (p := ⟨w.heap.size + 1 + 1 + 1 + 1, 1, none⟩) (fun k hk => by show k ≠ w.heap.size + 1 + 1 + 1 + 1; omega) _) (fun k hk => by rw [size_set]; omega)
            case measure => simp [intOf]; omega
    | cons x q =>
      have hl : p.length < ws.length := by rw [HL.out]; simp
      have hfx : fitMsgS x.f5 := HFW.out.2 x (by rw [HL.out]; simp)
      obtain ⟨kx, ex⟩ := (watch_id x hfx).rounds
      have HEX := Lib.hid ex
      have HFX := Lib.hid hfx
      clear hfx ex
      have hrd : rd_T76 ws (p.length : Int) = x := by rw [HL.out]; simp [rd_T76]
      obtain ⟨ad, A5, d5, had, hw0, hw1, hw2, hw3, hw4, hw5, hl5, hr5⟩ := at_T76 (Kd.C_below HR0.out HB.out) (p.length : Int) (by omega) (by omega)
      subst had
      rw [Int.toNat_natCast] at hw0 hw1 hw2 hw3 hw4 hw5
      rw [hrd] at hw0 hw1 hw2 hw3 hw4 hw5 hl5 hr5
      have HR5 := Lib.hid hr5
      have HL5 := Lib.hid hl5
      clear hr5 hl5 hrd
      have hsk : ((p.length : Int) != -1) = true := by simp <;> omega
      have hsk2 : ((p.length : Int) == -1) = false := by simp <;> omega
      have hbs := HB.out.size
      have hw4z : w.heap.size + 1 + 1 + 1 + 1 < wr.heap.size := blk_lt HG4.out
      go_wp2_with fail
      go_region_law (first | (go_simp; go_at_call 75; refine (spec_l5Watch.calls kx x.f0 x.f1 x.f2 x.f3 x.f4 A5 d5 x.f5 0 x.f0 x.f1 x.f2 x.f3 x.f4 x.f5 _ (Kd.C_below HR5.out (below_drew (Below.refl _ _))) HL5.out HEX.out).mono ?_; rintro e w3 ⟨v5, rfl, hS5, hb⟩; obtain ⟨A9, c9, rfl⟩ := Kd.S_slice hS5; have HB9 := Lib.hid (show Below wr.heap.size wr w3 from below_then (below_drew (Below.refl _ _)) (Nat.le_refl _) hb); have HS9 := Lib.hid (Kd.S_mono (Kd.S_lower (Kd.S_bound hS5) (base' := w.heap.size) hbs) (ok' := fun k => wr.heap.size ≤ k ∧ k < w3.heap.size) (fun k hk => ⟨hk.2.1, hk.2.2.1⟩)); have hx7 : w3.cell? ⟨w.heap.size + 1 + 1 + 1 + 1, 0, none⟩ = some (.slice AW p.length cW) := blk_cell (blk_below HG4.out HB9.out) 0; have hz7 : w.heap.size + 1 + 1 + 1 + 1 < w3.heap.size := Nat.lt_of_lt_of_le hw4z HB9.out.size; have hx8 : (w3.alloc (.cells #[.int .i64 x.f0, .string x.f1, .int .i64 x.f2, .int .i64 x.f3, .bool x.f4, .slice A9 x.f5.length c9] 76)).cell? ⟨w.heap.size + 1 + 1 + 1 + 1, 0, none⟩ = some (.slice AW p.length cW) := blk_cell (blk_alloc (blk_below HG4.out HB9.out) _) 0; clear hS5 hb) | (refine Kd.S_append_step ms76 (w0 := w3) (W := w3) w.heap.size (by simp [Region.wanted]) (.tmp 24) (.tmp 31) 41 76 (.agg #[.int .i64 0, .string ⟨#[]⟩, .int .i64 0, .int .i64 0, .bool false, .slice none 0 0]) 72 rfl Tryd.underlying41 info76 rfl (by decide) (by omega) (.slice AW p.length cW) p x [.int .i64 x.f0, .string x.f1, .int .i64 x.f2, .int .i64 x.f3, .bool x.f4, .slice A9 x.f5.length c9] (fun k => k = w.heap.size + 2 ∨ w.heap.size + 5 ≤ k) (fun k => wr.heap.size ≤ k ∧ k < w3.heap.size) rfl rfl (ms76_mk x HS9.out) (fun k hk => ⟨by omega, fun he => by have := Kd.S_lt HSW.out k he.symm; omega⟩) (fun k hk => by omega) (Kd.S_mono (Kd.S_below HSW.out HB9.out) (fun k hk => ⟨hk.1, fun h => by omega⟩)) (Below.refl _ _) (by have := HB9.out.size; omega) (by omega) ?_; intro v3 w4 hS hB4 hg hat; obtain ⟨A3, n3, hv3⟩ := Kd.S_slice hS; rw [List.length_append, List.length_singleton] at hv3; subst hv3; have HS4 := Lib.hid (S_now hS); have hne : ∀ k, (k < w.heap.size + 2 ∨ (w.heap.size + 3 ≤ k ∧ k < w.heap.size + 5) ∨ wr.heap.size ≤ k) → some k ≠ (Value.slice AW p.length cW).ownBlock := (fun k hk he => by have h1 := HSW.out; obtain ⟨f, h0, _⟩ := h1; have := h0 k he.symm; omega); have HG04 := Lib.hid (blk_grown (blk_below HG0.out HB9.out) hg (hne _ (by omega))); have HG14 := Lib.hid (blk_grown (blk_below HG1.out HB9.out) hg (hne _ (by omega))); have HG44 := Lib.hid (blk_grown (blk_below HG4.out HB9.out) hg (hne _ (by omega))); have HSN4 := Lib.hid (Kd.S_grown (Kd.S_below HSN.out HB9.out) hg (fun k hk => hne k (by omega))); have hx9 := blk_cell HG44.out 0; have hf9 := blk_frozen HG44.out 0; simp only [List.getElem?_toArray, List.getElem?_cons_zero, List.getElem?_cons_succ] at hx9; have HZ4 := Lib.hid hg.size; have HB4 := Lib.hid ((HB.out.trans (HB9.out.mono hbs)).grown hg (by have := HB9.out.size; omega) (fun k hk => by rcases Nat.lt_or_ge k (w.heap.size + 2) with h | h; exact absurd hk.symm (hne k (.inl h)); omega)); clear hS hB4 hg hat hne))
      all_goals
        go_wp2_with fail
        go_roundw
        case rel =>
          have h4 := blk_set HG44.out 0 (.slice A3 (p.length + 1) n3)
          simp only [List.setIfInBounds_toArray, List.set_cons_zero] at h4
          refine ⟨p ++ [x], q, .slice A3 (p.length + 1) n3, by simp, Lib.hid (by rw [HL.out]; simp), Lib.hid (blk_far HG04.out (by show w.heap.size ≠ w.heap.size + 1 + 1 + 1 + 1; omega) _), Lib.hid (blk_far HG14.out (by show w.heap.size + 1 ≠ w.heap.size + 1 + 1 + 1 + 1; omega) _), Lib.hid h4, Lib.hid ?_, Lib.hid (Kd.S_far HSN4.out (fun k hk => by show k ≠ w.heap.size + 1 + 1 + 1 + 1; omega) _), Lib.hid (HB4.out.setCell (by show w.heap.size ≤ w.heap.size + 1 + 1 + 1 + 1; omega) _)⟩
          exact Kd.S_mono (Kd.S_far HS4.out (p := ⟨w.heap.size + 1 + 1 + 1 + 1, 0, none⟩) (fun k hk => by show k ≠ w.heap.size + 1 + 1 + 1 + 1; omega) _) (fun k hk => ⟨hk.1, by rw [size_set]; exact hk.2.2⟩)
        case measure => simp [intOf]; omega
end Go.Proofs.YtmphkhkbegihaaaDoor.HubLaw
