/- The rings of Dispatch by hand: the news that is taken, the message that is put. -/
import Derived.Test.YtmphkhkbegihaaaDoorNear
import Derived.RegionTactic
import Derived.ChangeAlike
namespace Go.Proofs.YtmphkhkbegihaaaDoor.RingN
open Go Go.RowKit Go.Proofs.YtmphkhkbegihaaaDoor.PHub Go.Proofs.YtmphkhkbegihaaaDoorW.PrintWords Go.Proofs.YtmphkhkbegihaaaDoor.Tree Go.Proofs.YtmphkhkbegihaaaDoor.Mark Go.Proofs.YtmphkhkbegihaaaDoor.To Go.Proofs.YtmphkhkbegihaaaDoor.Copy Go.Proofs.YtmphkhkbegihaaaDoor.Find
set_option linter.unusedVariables false
set_option linter.unusedSimpArgs false

theorem Tch.drew {w w1 : World} {S : Nat → Prop} (h : Tch w w1 S) : Tch w w1.drew S := ⟨h.os, h.tape, h.output, h.kept⟩

/-! ### the ring -/
set_option maxRecDepth 100000 in
set_option maxHeartbeats 2000000 in
theorem ringN_none (q c : Nat) (A : Option Addr) (s : Int) (w : World) (hq : w.heap[q]? = some (.cells #[.slice A 0 c, .int .i64 0, .int .i64 s] 90 (0, 0))) :
    Calls Tryd.prog 64 #[.pointer (some ⟨q, 0, none⟩)] w fun e w' => e = .returned (.tuple #[.agg #[.int .i64 0, .slice none 0 0], .bool false]) ∧ Below w.heap.size w w' := by
  have hz1 := blk_lt hq
  have HZ := Lib.hid hz1
  have h0 := blk_cell (blk_alloc (blk_alloc hq (.cells #[.int .i64 0, .slice none 0 0] 87)) (.cells #[.int .i64 0, .slice none 0 0] 87)) 0
  have h1 := blk_cell (blk_alloc (blk_alloc hq (.cells #[.int .i64 0, .slice none 0 0] 87)) (.cells #[.int .i64 0, .slice none 0 0] 87)) 1
  simp only [List.getElem?_toArray, List.getElem?_cons_zero, List.getElem?_cons_succ] at h0 h1
  clear hq
  go_enter Tryd.func64, Tryd.ntmps64
  go_wp2_with fail
  go_region
  all_goals
    go_wp2_with fail
    refine bodyPost_ret (v := .tuple #[.agg #[.int .i64 0, .slice none 0 0], .bool false]) (by simp [results, Tryd.results64, go_sem]) rfl ⟨rfl, ?_⟩
    repeat (first | with_reducible exact Below.refl _ _ | with_reducible apply below_alloc | with_reducible apply below_drew | with_reducible apply pw_below_drewN | with_reducible refine Below.setCell ?_ (by simp <;> omega) _)

set_option maxRecDepth 100000 in
set_option maxHeartbeats 4000000 in
theorem ringN_some (q g o n c : Nat) (s f0 : Int) (u : Value) (A1 : Option Addr) (n1 c1 : Nat) (hu : u = .slice A1 n1 c1) (w : World) (hn : 0 < n) (hgq : g ≠ q) (hgl : g < w.heap.size) (hq : w.heap[q]? = some (.cells #[.slice (some ⟨g, o, none⟩) n c, .int .i64 0, .int .i64 s] 90 (0, 0)))
    (hc0 : w.cell? ⟨g, o, none⟩ = some (.int .i64 f0)) (hc1 : w.cell? ⟨g, o + 1, none⟩ = some u) :
    Calls Tryd.prog 64 #[.pointer (some ⟨q, 0, none⟩)] w fun e w' => e = .returned (.tuple #[.agg #[.int .i64 f0, u], .bool true]) ∧ w'.heap[q]? = some (.cells #[.slice (some ⟨g, o, none⟩) n c, .int .i64 1, .int .i64 s] 90 (0, 0)) ∧ Tch w w' (fun k => k = q) := by
  subst hu
  have hz1 := blk_lt hq
  have HZ := Lib.hid hz1
  have HQ := Lib.hid hq
  have hb3 := blk_alloc (blk_alloc (blk_alloc hq (.cells #[.int .i64 0, .slice none 0 0] 87)) (.cells #[.int .i64 0, .slice none 0 0] 87)) (.cells #[.int .i64 0, .slice none 0 0] 87)
  have hb2 := blk_alloc (blk_alloc hq (.cells #[.int .i64 0, .slice none 0 0] 87)) (.cells #[.int .i64 0, .slice none 0 0] 87)
  have h0 := blk_cell hb2 0
  have h1 := blk_cell hb2 1
  have hf1 := blk_frozen hb2 1
  have k0 := blk_cell hb3 0
  have k1 := blk_cell hb3 1
  have kf1 := blk_frozen hb3 1
  have hb4 := blk_alloc (blk_alloc (blk_alloc hq (.cells #[.int .i64 0, .slice none 0 0] 87)) (.cells #[.int .i64 0, .slice none 0 0] 87)) (.cells #[.int .i64 f0, .slice A1 n1 c1] 87)
  have l1 := blk_cell hb4 1
  have lf1 := blk_frozen hb4 1
  simp only [List.getElem?_toArray, List.getElem?_cons_zero, List.getElem?_cons_succ] at h0 h1 k0 k1 l1
  have HP := Lib.hid (show ((((w.alloc (.cells #[.int .i64 0, .slice none 0 0] 87)).alloc (.cells #[.int .i64 0, .slice none 0 0] 87)).alloc (.cells #[.int .i64 f0, .slice A1 n1 c1] 87)).setCell ⟨q, 1, none⟩ (.int .i64 1)).heap[q]? = some (.cells #[.slice (some ⟨g, o, none⟩) n c, .int .i64 1, .int .i64 s] 90 (0, 0)) from blk_set hb4 1 (.int .i64 1))
  have HR := Lib.hid (blk_far (blk_alloc (blk_alloc (heap_alloc_new w (.cells #[.int .i64 0, .slice none 0 0] 87)) (.cells #[.int .i64 0, .slice none 0 0] 87)) (.cells #[.int .i64 f0, .slice A1 n1 c1] 87)) (p := ⟨q, 1, none⟩) (by show w.heap.size ≠ q; omega) (.int .i64 1))
  have HT := Lib.hid (((Tch.of_below (below_alloc (below_alloc (below_alloc (Below.refl w.heap.size w) (.cells #[.int .i64 0, .slice none 0 0] 87)) (.cells #[.int .i64 0, .slice none 0 0] 87)) (.cells #[.int .i64 f0, .slice A1 n1 c1] 87)) (fun k => k = q)).setCell (p := ⟨q, 1, none⟩) (.inl rfl) (.int .i64 1)))
  clear hb4
  have hB2 : Below w.heap.size w ((w.alloc (.cells #[.int .i64 0, .slice none 0 0] 87)).alloc (.cells #[.int .i64 0, .slice none 0 0] 87)) := below_alloc (below_alloc (Below.refl _ _) _) _
  have hB3 : Below w.heap.size w (((w.alloc (.cells #[.int .i64 0, .slice none 0 0] 87)).alloc (.cells #[.int .i64 0, .slice none 0 0] 87)).alloc (.cells #[.int .i64 0, .slice none 0 0] 87)) := below_alloc hB2 _
  have a0 := (hB2.cell (p := ⟨g, o, none⟩) hgl).trans hc0
  have a1 := (hB2.cell (p := ⟨g, o + 1, none⟩) hgl).trans hc1
  have b0 := (hB3.cell (p := ⟨g, o, none⟩) hgl).trans hc0
  have b1 := (hB3.cell (p := ⟨g, o + 1, none⟩) hgl).trans hc1
  clear hq hB2 hB3 hb2 hb3
  have hnn : ((n : Int) == 0) = false := by simp; omega
  have hnn2 : ((0 : Int) == (n : Int)) = false := by simp; omega
  go_enter Tryd.func64, Tryd.ntmps64
  go_wp2_with fail
  go_region
  all_goals
    go_wp2_with fail
    go_region
    all_goals
      go_wp2_with fail
      have y0 := blk_cell HR.out 0
      have y1 := blk_cell HR.out 1
      simp only [List.getElem?_toArray, List.getElem?_cons_zero, List.getElem?_cons_succ] at y0 y1
      refine bodyPost_ret (v := .tuple #[.agg #[.int .i64 f0, .slice A1 n1 c1], .bool true]) (by simp [results, Tryd.results64, go_sem, y0, y1]) rfl ⟨rfl, ?_, ?_⟩
      · exact blk_far (blk_far HP.out (by show q ≠ w.heap.size; have := HZ.out; omega) _) (by show q ≠ w.heap.size; have := HZ.out; omega) _
      · repeat (first | with_reducible exact HT.out | with_reducible apply Tch.drew | with_reducible refine Tch.setCell ?_ (.inr (Nat.le_refl _)) _)

set_option maxRecDepth 100000 in
set_option maxHeartbeats 2000000 in
theorem ringN_list (q g o n c : Nat) (s : Int) (Aj : Option Addr) (hAj : Aj = if c = 1 then some ⟨g, o, none⟩ else some ⟨g, o + 2, none⟩) (w : World) (hc : n + 1 ≤ c) (hm : n ≤ 4194304) (hq : w.heap[q]? = some (.cells #[.slice (some ⟨g, o, none⟩) (n + 1) c, .int .i64 1, .int .i64 s] 90 (0, 0))) :
    Calls Tryd.prog 65 #[.pointer (some ⟨q, 0, none⟩)] w fun e w' => e = .returned (.slice Aj n (c - 1)) ∧ Below w.heap.size w w' := by
  have h0 := blk_cell hq 0
  have h1 := blk_cell hq 1
  simp only [List.getElem?_toArray, List.getElem?_cons_zero, List.getElem?_cons_succ] at h0 h1
  obtain ⟨i0, hi0, hz0, hz1, hz2⟩ := info_parts info87
  have hcut : ∀ W : World, (Instr.slice 42 (.slice (some ⟨g, o, none⟩) (n + 1) c) (some (.int .i64 1)) none none).run Tryd.prog W = .ok (.slice Aj n (c - 1)) W := by
    intro W
    have h := cut_from (P := Tryd.prog) 42 87 .i64 Tryd.underlying42 hi0 2 hz1 (some ⟨g, o, none⟩) (n + 1) c 1 (by omega) (by omega) W
    rw [hAj]
    exact h
  clear hq hi0 hz0 hz1 hz2 hAj
  go_enter Tryd.func65, Tryd.ntmps65
  go_wp2_with fail
  go_region
  all_goals
    go_wp2_with fail
    go_ret
    refine ⟨rfl, ?_⟩
    repeat (first | with_reducible exact Below.refl _ _ | with_reducible apply below_drew)

/-! ### the messages' ring -/
set_option maxRecDepth 100000 in
set_option maxHeartbeats 2000000 in
theorem ring_list0 (q n c : Nat) (A : Option Addr) (s : Int) (w : World) (hc : n ≤ c) (hm : n ≤ 9223372036854775807) (hq : w.heap[q]? = some (.cells #[.slice A n c, .int .i64 0, .int .i64 s] 124 (0, 0))) :
    Calls Tryd.prog 91 #[.pointer (some ⟨q, 0, none⟩)] w fun e w' => e = .returned (.slice A n c) ∧ Below w.heap.size w w' := by
  have h0 := blk_cell hq 0
  have h1 := blk_cell hq 1
  simp only [List.getElem?_toArray, List.getElem?_cons_zero, List.getElem?_cons_succ] at h0 h1
  obtain ⟨i0, hi0, hz0, hz1, hz2⟩ := info_parts info112
  have hcut : ∀ W : World, (Instr.slice 74 (.slice A n c) (some (.int .i64 0)) none none).run Tryd.prog W = .ok (.slice A n c) W := by
    intro W
    have h := cut_from (P := Tryd.prog) 74 112 .i64 Tryd.underlying74 hi0 3 hz1 A n c 0 (by omega) (by omega) W
    rw [h]
    cases A <;> simp [Addr.add]
  clear hq hi0 hz0 hz1 hz2
  go_enter Tryd.func91, Tryd.ntmps91
  go_wp2_with fail
  go_region
  all_goals
    go_wp2_with fail
    go_ret
    refine ⟨rfl, ?_⟩
    repeat (first | with_reducible exact Below.refl _ _ | with_reducible apply below_drew)

set_option maxRecDepth 100000 in
set_option maxHeartbeats 4000000 in
theorem ring_put (q c : Nat) (A A1 : Option Addr) (c1 : Nat) (p s : Int) (xs : List S112) (x : S112) (F Fp : Nat → Prop) (base : Nat) (w : World)
    (hq : w.heap[q]? = some (.cells #[.slice A xs.length c, .int .i64 p, .int .i64 s] 124 (0, 0)))
    (hS : Kd.S k112 112 w base F (.slice A xs.length c) xs) (hp : Kd.string.R 9 w base Fp (.slice A1 x.f1.length c1) x.f1)
    (hF : ∀ k, Fp k → ¬ F k) (hFq : ¬ F q) (hPq : ¬ Fp q) (hbase : base ≤ w.heap.size) (hl : xs.length ≤ 4194304) (hs0 : 0 ≤ s) (hs1 : s ≤ 4611686018427387904) :
    Calls Tryd.prog 90 #[.pointer (some ⟨q, 0, none⟩), .agg #[.int .i64 x.f0, .slice A1 x.f1.length c1, .bool x.f2]] w fun e w' => e = .returned (.tuple #[]) ∧ ∃ A' c', w'.heap[q]? = some (.cells #[.slice A' (xs.length + 1) c', .int .i64 p, .int .i64 (s + 1)] 124 (0, 0)) ∧
      Kd.S k112 112 w' base (fun k => F k ∨ Fp k ∨ w.heap.size ≤ k) (.slice A' (xs.length + 1) c') (xs ++ [x]) ∧ Tch w w' (fun k => k = q ∨ F k) := by
  have hql := blk_lt hq
  have HQ := Lib.hid hq
  have HS := Lib.hid hS
  have HP := Lib.hid hp
  clear hq hS hp
  go_enter Tryd.func90, Tryd.ntmps90
  go_wp2_with fail
  have HQ1 := Lib.hid (blk_alloc HQ.out (.cells #[.int .i64 x.f0, .slice A1 x.f1.length c1, .bool x.f2] 112))
  have HM1 := Lib.hid (heap_alloc_new w (.cells #[.int .i64 x.f0, .slice A1 x.f1.length c1, .bool x.f2] 112))
  have hb1 : Below w.heap.size w (w.alloc (.cells #[.int .i64 x.f0, .slice A1 x.f1.length c1, .bool x.f2] 112)) := below_alloc (Below.refl _ _) _
  have hz1 : (w.alloc (.cells #[.int .i64 x.f0, .slice A1 x.f1.length c1, .bool x.f2] 112)).heap.size = w.heap.size + 1 := World.size_alloc _ _
  generalize w.alloc (.cells #[.int .i64 x.f0, .slice A1 x.f1.length c1, .bool x.f2] 112) = w1 at HQ1 HM1 hb1 hz1 ⊢
  have HB1 := Lib.hid hb1
  have HZ1 := Lib.hid hz1
  have HS1 := Lib.hid (Kd.S_mono (Kd.S_below (Kd.S_bound HS.out) hb1) (ok' := fun k => F k ∧ k < w.heap.size) (fun k hk => ⟨hk.1, hk.2.2.1⟩))
  have HP1 := Lib.hid (Kd.R_mono (Kd.R_below (Kd.R_bound HP.out) hb1) (ok' := fun k => Fp k ∧ k < w.heap.size) (fun k hk => ⟨hk.1, hk.2.2.1⟩))
  clear hb1 hz1
  have k0 := blk_cell HQ1.out 0
  have k2 := blk_cell HQ1.out 2
  have kf0 := blk_frozen HQ1.out 0
  have kf2 := blk_frozen HQ1.out 2
  have hq1 : q < w1.heap.size := blk_lt HQ1.out
  have hw1 : w.heap.size < w1.heap.size := blk_lt HM1.out
  have ka0 := blk_cell (blk_alloc HQ1.out (.cells #[.int .i64 x.f0, .slice A1 x.f1.length c1, .bool x.f2] 112)) 0
  have m0 := blk_cell HM1.out 0
  have m1 := blk_cell HM1.out 1
  have m2 := blk_cell HM1.out 2
  simp only [List.getElem?_toArray, List.getElem?_cons_zero, List.getElem?_cons_succ] at k0 k2 m0 m1 m2 ka0
  go_region_law (first | (refine Kd.S_append_step k112 (w0 := w1) (W := w1.drew) base (by simp [Region.wanted]) (.tmp 8) (.tmp 10) 74 112 (.agg #[.int .i64 0, .slice none 0 0, .bool false]) 40 rfl Tryd.underlying74 info112 rfl (by decide) (by omega) (.slice A xs.length c) xs x [.int .i64 x.f0, .slice A1 x.f1.length c1, .bool x.f2] (fun k => (F k ∧ k < w.heap.size) ∨ (Fp k ∧ k < w.heap.size) ∨ w1.heap.size ≤ k) (fun k => Fp k ∧ k < w.heap.size) rfl rfl (k112_mkM _ _ _ x (Kd.R_drew HP1.out)) (fun k hk => ⟨.inr (.inl hk), fun he => by have h1 := HS1.out; obtain ⟨f, h0, _⟩ := h1; exact hF k hk.1 (h0 k he.symm).1⟩) (fun k hk => .inr (.inr hk)) (Kd.S_mono (Kd.S_drew HS1.out) (fun k hk => ⟨.inl hk, fun h => hF k h.1 hk.1⟩)) (below_drew (Below.refl _ _)) (by have := HZ1.out; show base ≤ w1.heap.size; omega) (by omega) ?_; intro v3 w4 hS hB4 hg hat; obtain ⟨A3, n3, hv3⟩ := Kd.S_slice hS; rw [List.length_append, List.length_singleton] at hv3; subst hv3; have HS4 := Lib.hid hS; have hne : ∀ k, ¬ F k → some k ≠ (Value.slice A xs.length c).ownBlock := (fun k hk he => by have h1 := HS1.out; obtain ⟨f, h0, _⟩ := h1; exact hk (h0 k he.symm).1); have HQ4 := Lib.hid (blk_grown (blk_drew HQ1.out) hg (hne _ hFq)); have x0 := blk_cell HQ4.out 0; have x2 := blk_cell HQ4.out 2; have xf0 := blk_frozen HQ4.out 0; have xf2 := blk_frozen HQ4.out 2; simp only [List.getElem?_toArray, List.getElem?_cons_zero, List.getElem?_cons_succ] at x0 x2; have HK4 := Lib.hid (show Tch w1 w4 F from ⟨hg.os, hg.tape, hg.output, hg.size, fun k hk hn => hg.block k hk (hne k hn)⟩); clear hS hB4 hg hat hne))
  all_goals
    go_wp2_with fail
    go_end0
    have hkq : ∀ k, ((F k ∧ k < w.heap.size) ∨ (Fp k ∧ k < w.heap.size) ∨ w1.heap.size ≤ k) → k ≠ q := by
      rintro k hk rfl
      rcases hk with hk | hk | hk
      · exact hFq hk.1
      · exact hPq hk.1
      · omega
    refine ⟨rfl, A3, n3, ?_, ?_, ?_⟩
    · have h := blk_set (blk_set HQ4.out 0 (.slice A3 (xs.length + 1) n3)) 2 (.int .i64 (s + 1))
      simpa using h
    · refine Kd.S_mono (Kd.S_far (p := ⟨q, 2, none⟩) (Kd.S_far (p := ⟨q, 0, none⟩) HS4.out (fun k hk => hkq k hk) _) (fun k hk => hkq k hk) _) (fun k hk => ?_)
      rcases hk with hk | hk | hk
      · exact .inl hk.1
      · exact .inr (.inl hk.1)
      · exact .inr (.inr (by omega))
    · exact ((((Tch.of_below HB1.out (fun k => k = q ∨ F k)).then_ HK4.out (fun k hk => .inl (.inr hk))).setCell (p := ⟨q, 0, none⟩) (.inl (.inl rfl)) _).setCell (p := ⟨q, 2, none⟩) (.inl (.inl rfl)) _)
end Go.Proofs.YtmphkhkbegihaaaDoor.RingN
