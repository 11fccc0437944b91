/- spec.l5Tell: its contract by hand. -/
import Derived.Test.YtmphkhkbegihaaaDoorSpecS
import Derived.Test.YtmphkhkbegihaaaDoorDisp
namespace Go.Proofs.YtmphkhkbegihaaaDoor.HubLaw
open Go Go.RowKit Go.Proofs.YtmphkhkbegihaaaDoor.PHub Go.Proofs.YtmphkhkbegihaaaDoorW.PrintWords Go.Proofs.YtmphkhkbegihaaaDoor.Tree Go.Proofs.YtmphkhkbegihaaaDoor.Mark Go.Proofs.YtmphkhkbegihaaaDoor.To Go.Proofs.YtmphkhkbegihaaaDoor.Copy Go.Proofs.YtmphkhkbegihaaaDoor.Plain Go.Proofs.YtmphkhkbegihaaaDoor.SpecP Go.Proofs.YtmphkhkbegihaaaDoor.Open Go.Proofs.YtmphkhkbegihaaaDoor.Find Go.Proofs.YtmphkhkbegihaaaDoor.Tok Go.Proofs.YtmphkhkbegihaaaDoor.Near Go.Proofs.YtmphkhkbegihaaaDoor.Tell
set_option linter.unusedVariables false
set_option linter.unusedSimpArgs false

theorem nearF_sym (x y : List ByteArray) : (nearF x y > 0) ↔ (nearF y x > 0) := by
  unfold nearF
  by_cases h1 : x <+: y <;> by_cases h2 : y <+: x <;> simp [h1, h2]
theorem within_sym (a b : ByteArray) : (withinF a b > 0) ↔ (withinF b a > 0) := by
  unfold withinF
  cases h1 : (tokF a).2 <;> cases h2 : (tokF b).2 <;> simp [h1, h2]
  exact nearF_sym _ _
theorem near_loop (ptr : ByteArray) (hp : ptr.size ≤ 4194304) : ∀ (q p acc : List ByteArray), (∀ x ∈ p ++ q, x.size ≤ 4194304) → (p ++ q).length ≤ 4194304 → acc.length + q.length ≤ 4194304 → Ev (fun k => spec_l5Near.l0 k (p ++ q) ptr acc (p.length : Int)) (acc ++ keepN ptr q)
  | [], p, acc, hs, hl, ha => by
    refine Ev.step (f := fun _ => some (acc ++ keepN ptr [])) (fun k => ?_) (Ev.now _)
    simp [spec_l5Near.l0, keepN]
  | x :: q, p, acc, hs, hl, ha => by
    have hrd : rdOf ByteArray.empty (p ++ x :: q) (p.length : Int) = x := by simp [rdOf]
    have hlen : (p ++ x :: q).length = p.length + q.length + 1 := by simp; omega
    have hx := hs x (by simp)
    simp only [List.length_cons] at ha
    have hw : wrap64 ((p.length : Int) + 1) = (p.length : Int) + 1 := by unfold wrap64; omega
    have hW : Ev (fun k => spec_Within.f k x ptr) (withinF x ptr) := ⟨3 * x.size + 3 * ptr.size + 10, fun k hk => specWithin x ptr hx hp k hk⟩
    by_cases hn : withinF x ptr > 0
    · have hkp : keepN ptr (x :: q) = x :: keepN ptr q := by
        unfold keepN
        rw [List.filter_cons_of_pos]
        unfold nearB
        have := (within_sym x ptr).1 hn
        exact decide_eq_true (by omega)
      have ih := near_loop ptr hp q (p ++ [x]) (acc ++ [x]) (by simpa using hs) (by simpa using hl) (by simp; omega)
      rw [hkp]
      refine Ev.step (f := fun k => (spec_Within.f k x ptr).bind fun t => if t > 0 then (if acc.length < 8796093022208 then spec_l5Near.l0 k (p ++ x :: q) ptr (acc ++ [x]) ((p.length : Int) + 1) else none) else spec_l5Near.l0 k (p ++ x :: q) ptr acc ((p.length : Int) + 1)) (fun k => ?_) (Ev.bind hW ?_)
      · simp only [spec_l5Near.l0]
        rw [if_pos (by omega), if_pos (by omega), hrd, hw]
      · simp only [if_pos hn]
        simp only [if_pos (show acc.length < 8796093022208 by omega)]
        simpa using ih
    · have hkp : keepN ptr (x :: q) = keepN ptr q := by
        unfold keepN
        rw [List.filter_cons_of_neg]
        unfold nearB
        have : ¬ withinF ptr x > 0 := fun h => hn ((within_sym x ptr).2 h)
        simp only [decide_eq_true_eq]
        omega
      have ih := near_loop ptr hp q (p ++ [x]) acc (by simpa using hs) (by simpa using hl) (by omega)
      rw [hkp]
      refine Ev.step (f := fun k => (spec_Within.f k x ptr).bind fun t => if t > 0 then (if acc.length < 8796093022208 then spec_l5Near.l0 k (p ++ x :: q) ptr (acc ++ [x]) ((p.length : Int) + 1) else none) else spec_l5Near.l0 k (p ++ x :: q) ptr acc ((p.length : Int) + 1)) (fun k => ?_) (Ev.bind hW ?_)
      · simp only [spec_l5Near.l0]
        rw [if_pos (by omega), if_pos (by omega), hrd, hw]
      · simp only [if_neg hn]
        simpa using ih
theorem near_ev (ps : List ByteArray) (ptr : ByteArray) (hp : ptr.size ≤ 4194304) (hs : ∀ x ∈ ps, x.size ≤ 4194304) (hl : ps.length ≤ 4194304) : Ev (fun k => spec_l5Near.f k ps ptr) (keepN ptr ps) := by
  have h := near_loop ptr hp ps [] [] (by simpa using hs) (by simpa using hl) (by simpa using hl)
  simpa [spec_l5Near.f] using h
theorem S_empty2 {α : Type} (d : Kd α) (e : Nat) {w : World} {base g : Nat} {ok : Nat → Prop} (h : w.heap[g]? = some (.cells #[] e (0, 0))) (hb : base ≤ g) (hg : ok g) : Kd.S d e w base ok (.slice (some ⟨g, 0, none⟩) 0 0) [] := by
  refine ⟨fun _ => 0, fun k hk => ?_, [], ⟨by simp, .inr ⟨g, 0, #[], rfl, hb, h, Nat.le_refl _, by decide, by simp, by simp⟩⟩, Reps.none _ _⟩
  injection hk with hk
  rw [← hk]; exact hg
set_option maxRecDepth 100000 in
set_option maxHeartbeats 8000000 in
theorem l5_tell (x : S76) (n0 : Int) (ps : List ByteArray) (A1 A5 : Option Addr) (c1 c5 : Nat) (F : Nat → Prop) (base : Nat) (w : World) (hS : Kd.S k112 112 w base F (.slice A5 x.f5.length c5) x.f5)
    (hr : Kd.C Kd.string w A1 ps.length ps) (hc : ps.length ≤ c1) (hps : ps.length ≤ 4194304) (hsz : ∀ p ∈ ps, p.size ≤ 4194304) (hx1 : x.f1.size ≤ 4194304) (hx5 : x.f5.length ≤ 4194304) (hbase : base ≤ w.heap.size) :
    Calls Tryd.prog 63 #[.agg #[.int .i64 x.f0, .string x.f1, .int .i64 x.f2, .int .i64 x.f3, .bool x.f4, .slice A5 x.f5.length c5], .agg #[.int .i64 n0, .slice A1 ps.length c1]] w fun e w' => ∃ v5', e = .returned (.agg #[.int .i64 x.f0, .string x.f1, .int .i64 x.f2, .int .i64 x.f3, .bool (tellF x n0 ps).f4, v5']) ∧ Kd.S k112 112 w' base (fun k => F k ∨ w.heap.size ≤ k) v5' (tellF x n0 ps).f5 ∧ Tch w w' F := by
  obtain ⟨kn, en⟩ := (near_ev ps x.f1 hx1 hsz hps).rounds
  have HEN := Lib.hid en
  have HS := Lib.hid hS
  have HR := Lib.hid hr
  have HC := Lib.hid hc
  clear en hS hr hc hsz
  go_enter Tryd.func63, Tryd.ntmps63
  go_wp2_with fail
  have hB := (show Below w.heap.size w (((w.alloc (.cells #[.int .i64 x.f0, .string x.f1, .int .i64 x.f2, .int .i64 x.f3, .bool x.f4, .slice A5 x.f5.length c5] 76)).alloc (.cells #[.int .i64 n0, .slice A1 ps.length c1] 87)).alloc (.cells #[.int .i64 0, .string ⟨#[]⟩, .int .i64 0, .int .i64 0, .bool false, .slice none 0 0] 76)) from below_alloc (below_alloc (below_alloc (Below.refl _ _) _) _) _)
  have HB := Lib.hid hB
  have g2 := blk_alloc (blk_alloc (heap_alloc_new w (.cells #[.int .i64 x.f0, .string x.f1, .int .i64 x.f2, .int .i64 x.f3, .bool x.f4, .slice A5 x.f5.length c5] 76)) (.cells #[.int .i64 n0, .slice A1 ps.length c1] 87)) (.cells #[.int .i64 0, .string ⟨#[]⟩, .int .i64 0, .int .i64 0, .bool false, .slice none 0 0] 76)
  have g3 := blk_alloc (heap_alloc_new (w.alloc (.cells #[.int .i64 x.f0, .string x.f1, .int .i64 x.f2, .int .i64 x.f3, .bool x.f4, .slice A5 x.f5.length c5] 76)) (.cells #[.int .i64 n0, .slice A1 ps.length c1] 87)) (.cells #[.int .i64 0, .string ⟨#[]⟩, .int .i64 0, .int .i64 0, .bool false, .slice none 0 0] 76)
  have g4 := heap_alloc_new ((w.alloc (.cells #[.int .i64 x.f0, .string x.f1, .int .i64 x.f2, .int .i64 x.f3, .bool x.f4, .slice A5 x.f5.length c5] 76)).alloc (.cells #[.int .i64 n0, .slice A1 ps.length c1] 87)) (.cells #[.int .i64 0, .string ⟨#[]⟩, .int .i64 0, .int .i64 0, .bool false, .slice none 0 0] 76)
  simp only [World.size_alloc] at g3 g4
  have HG20 := Lib.hid g2
  have HG30 := Lib.hid g3
  have HG40 := Lib.hid g4
  clear g2 g3 g4 hB
  refine (spec_l5Near.calls kn A1 c1 ps x.f1 _ _ (Kd.C_below HR.out HB.out) HC.out HEN.out).mono ?_
  rintro e w1 ⟨v, rfl, hR1, hb1⟩
  have hz1 : w.heap.size + 3 ≤ w1.heap.size := by have := hb1.size; simp at this; omega
  obtain ⟨kp, hkp⟩ : ∃ kp, kp = keepN x.f1 ps := ⟨_, rfl⟩
  rw [← hkp] at hR1
  obtain ⟨Ak, ck, rfl⟩ := Kd.R_slice hR1
  have HRK := Lib.hid (Kd.R_mono (Kd.R_lower (Kd.R_bound hR1) (base' := base) (by simp; omega)) (ok' := fun k => w.heap.size + 3 ≤ k ∧ k < w1.heap.size) (fun k hk => ⟨by have := hk.2.1; simp at this; omega, hk.2.2.1⟩))
  have HB1 := Lib.hid (below_then HB.out HB.out.size hb1)
  have HS1 := Lib.hid (Kd.S_mono (Kd.S_below (Kd.S_bound HS.out) HB1.out) (ok' := fun k => F k ∧ k < w.heap.size) (fun k hk => ⟨hk.1, hk.2.2.1⟩))
  have HG2 := Lib.hid (blk_below HG20.out hb1)
  have HG3 := Lib.hid (blk_below HG30.out hb1)
  have HG4 := Lib.hid (blk_below HG40.out hb1)
  have HKP := Lib.hid hkp
  clear hR1 hb1 hkp HG20 HG30 HG40
  have n3 := blk_cell HG3.out 0
  have hl3 := blk_lt HG3.out
  simp only [List.getElem?_toArray, List.getElem?_cons_zero, List.getElem?_cons_succ] at n3
  cases h4 : x.f4
  · rw [h4] at HG2
    by_cases h3 : x.f3 ≥ n0
    · have HTF := Lib.hid (show tellF x n0 ps = x from by unfold tellF; rw [if_pos (Or.inr h3)])
      have x0 := blk_cell HG2.out 0
      have y0 := blk_cell HG4.out 0
      have f0 := blk_frozen HG4.out 0
      have g0 := blk_frozen HG2.out 0
      have x1 := blk_cell HG2.out 1
      have y1 := blk_cell HG4.out 1
      have f1 := blk_frozen HG4.out 1
      have g1 := blk_frozen HG2.out 1
      have x2 := blk_cell HG2.out 2
      have y2 := blk_cell HG4.out 2
      have f2 := blk_frozen HG4.out 2
      have g2 := blk_frozen HG2.out 2
      have x3 := blk_cell HG2.out 3
      have y3 := blk_cell HG4.out 3
      have f3 := blk_frozen HG4.out 3
      have g3 := blk_frozen HG2.out 3
      have x4 := blk_cell HG2.out 4
      have y4 := blk_cell HG4.out 4
      have f4 := blk_frozen HG4.out 4
      have g4 := blk_frozen HG2.out 4
      have x5 := blk_cell HG2.out 5
      have y5 := blk_cell HG4.out 5
      have f5 := blk_frozen HG4.out 5
      have g5 := blk_frozen HG2.out 5
      simp only [List.getElem?_toArray, List.getElem?_cons_zero, List.getElem?_cons_succ] at x0 y0 x1 y1 x2 y2 x3 y3 x4 y4 x5 y5
      have hl2 := blk_lt HG2.out
      go_wp2_with fail
      refine bodyPost_ret (v := .agg #[.int .i64 x.f0, .string x.f1, .int .i64 x.f2, .int .i64 x.f3, .bool x.f4, .slice A5 x.f5.length c5]) (by simp [results, Tryd.results63, go_sem, y0, y1, y2, y3, y4, y5, h4]) rfl ⟨.slice A5 x.f5.length c5, by rw [HTF.out], ?_, ?_⟩
      · rw [HTF.out]
        refine Kd.S_mono (ok := fun k => F k ∧ k < w.heap.size) ?_ (fun k hk => .inl hk.1)
        repeat (first | with_reducible exact HS1.out | with_reducible refine Kd.S_far ?_ (fun k hk => by simp; omega) _)
      · repeat (first | with_reducible exact Tch.of_below HB1.out F | with_reducible refine Tch.setCell ?_ (.inr (by simp <;> omega)) _)
    by_cases hk : kp = []
    · have hk2 : keepN x.f1 ps = [] := by rw [← HKP.out]; exact hk
      have HTF := Lib.hid (show tellF x n0 ps = x from by unfold tellF; rw [if_neg (by rintro (h | h); rw [h4] at h; cases h; exact h3 h), if_pos hk2])
      rw [hk]
      simp only [List.length_nil]
      have x0 := blk_cell HG2.out 0
      have y0 := blk_cell HG4.out 0
      have f0 := blk_frozen HG4.out 0
      have g0 := blk_frozen HG2.out 0
      have x1 := blk_cell HG2.out 1
      have y1 := blk_cell HG4.out 1
      have f1 := blk_frozen HG4.out 1
      have g1 := blk_frozen HG2.out 1
      have x2 := blk_cell HG2.out 2
      have y2 := blk_cell HG4.out 2
      have f2 := blk_frozen HG4.out 2
      have g2 := blk_frozen HG2.out 2
      have x3 := blk_cell HG2.out 3
      have y3 := blk_cell HG4.out 3
      have f3 := blk_frozen HG4.out 3
      have g3 := blk_frozen HG2.out 3
      have x4 := blk_cell HG2.out 4
      have y4 := blk_cell HG4.out 4
      have f4 := blk_frozen HG4.out 4
      have g4 := blk_frozen HG2.out 4
      have x5 := blk_cell HG2.out 5
      have y5 := blk_cell HG4.out 5
      have f5 := blk_frozen HG4.out 5
      have g5 := blk_frozen HG2.out 5
      simp only [List.getElem?_toArray, List.getElem?_cons_zero, List.getElem?_cons_succ] at x0 y0 x1 y1 x2 y2 x3 y3 x4 y4 x5 y5
      have hl2 := blk_lt HG2.out
      go_wp2_with fail
      refine bodyPost_ret (v := .agg #[.int .i64 x.f0, .string x.f1, .int .i64 x.f2, .int .i64 x.f3, .bool x.f4, .slice A5 x.f5.length c5]) (by simp [results, Tryd.results63, go_sem, y0, y1, y2, y3, y4, y5, h4]) rfl ⟨.slice A5 x.f5.length c5, by rw [HTF.out], ?_, ?_⟩
      · rw [HTF.out]
        refine Kd.S_mono (ok := fun k => F k ∧ k < w.heap.size) ?_ (fun k hk => .inl hk.1)
        repeat (first | with_reducible exact HS1.out | with_reducible refine Kd.S_far ?_ (fun k hk => by simp; omega) _)
      · repeat (first | with_reducible exact Tch.of_below HB1.out F | with_reducible refine Tch.setCell ?_ (.inr (by simp <;> omega)) _)
    have hk2 : ¬ keepN x.f1 ps = [] := by rw [← HKP.out]; exact hk
    have hkl : 0 < kp.length := List.length_pos_iff.2 hk
    have hkn : ((kp.length : Int) == 0) = false := by simp; omega
    by_cases hlt : (x.f5.length : Int) < x.f2
    · have HTF := Lib.hid (show tellF x n0 ps = ⟨x.f0, x.f1, x.f2, x.f3, x.f4, x.f5 ++ [⟨n0, kp, false⟩]⟩ from by unfold tellF; rw [if_neg (by rintro (h | h); rw [h4] at h; cases h; exact h3 h), if_neg hk2, if_pos hlt, HKP.out])
      have x0 := blk_cell HG2.out 0
      have y0 := blk_cell HG4.out 0
      have f0 := blk_frozen HG4.out 0
      have g0 := blk_frozen HG2.out 0
      have x1 := blk_cell HG2.out 1
      have y1 := blk_cell HG4.out 1
      have f1 := blk_frozen HG4.out 1
      have g1 := blk_frozen HG2.out 1
      have x2 := blk_cell HG2.out 2
      have y2 := blk_cell HG4.out 2
      have f2 := blk_frozen HG4.out 2
      have g2 := blk_frozen HG2.out 2
      have x3 := blk_cell HG2.out 3
      have y3 := blk_cell HG4.out 3
      have f3 := blk_frozen HG4.out 3
      have g3 := blk_frozen HG2.out 3
      have x4 := blk_cell HG2.out 4
      have y4 := blk_cell HG4.out 4
      have f4 := blk_frozen HG4.out 4
      have g4 := blk_frozen HG2.out 4
      have x5 := blk_cell HG2.out 5
      have y5 := blk_cell HG4.out 5
      have f5 := blk_frozen HG4.out 5
      have g5 := blk_frozen HG2.out 5
      simp only [List.getElem?_toArray, List.getElem?_cons_zero, List.getElem?_cons_succ] at x0 y0 x1 y1 x2 y2 x3 y3 x4 y4 x5 y5
      go_wp2_with (first | ((with_reducible refine gate_builtin (b := .append) (xs := #[.tmp 33, .tmp 38]) rfl ?_); at_builtin; refine Kd.S_append k112 (w0 := w1) (W := w1) base rfl (.tmp 33) (.tmp 38) 74 112 (.agg #[.int .i64 0, .slice none 0 0, .bool false]) 40 rfl Tryd.underlying74 info112 rfl (by decide) (by omega) (.slice A5 x.f5.length c5) x.f5 (⟨n0, kp, false⟩ : S112) [.int .i64 n0, .slice Ak kp.length ck, .bool false] (fun k => (F k ∧ k < w.heap.size) ∨ w.heap.size + 3 ≤ k) (fun k => w.heap.size + 3 ≤ k ∧ k < w1.heap.size) rfl rfl (k112_mkM _ _ _ (⟨n0, kp, false⟩ : S112) HRK.out) (fun k hk => ⟨.inr (by omega), fun he => by have h1 := HS1.out; obtain ⟨f, h0, _⟩ := h1; have := (h0 k he.symm).2; omega⟩) (fun k hk => .inr (by omega)) (Kd.S_mono HS1.out (fun k hk => ⟨.inl hk, fun h => by have := hk.2; omega⟩)) (Below.refl _ _) (by omega) (by omega) ?_; intro v3 w4 hS hB4 hg hat; obtain ⟨A3, n3, hv3⟩ := Kd.S_slice hS; rw [List.length_append, List.length_singleton] at hv3; subst hv3; have HS4 := Lib.hid hS; have hne : ∀ k, w.heap.size ≤ k → some k ≠ (Value.slice A5 x.f5.length c5).ownBlock := (fun k hk he => by have h1 := HS1.out; obtain ⟨f, h0, _⟩ := h1; have := (h0 k he.symm).2; omega); have HT4 := Lib.hid (show Tch w1 w4 F from ⟨hg.os, hg.tape, hg.output, hg.size, fun k hk hn => hg.block k hk (fun he => by have h1 := HS1.out; obtain ⟨f, h0, _⟩ := h1; exact hn (h0 k he.symm).1)⟩); have HG24 := Lib.hid (blk_grown HG2.out hg (hne _ (by omega))); have HG44 := Lib.hid (blk_grown HG4.out hg (hne _ (by omega))); have x0 := blk_cell HG24.out 0; have y0 := blk_cell HG44.out 0; have f0 := blk_frozen HG44.out 0; have g0 := blk_frozen HG24.out 0; have x1 := blk_cell HG24.out 1; have y1 := blk_cell HG44.out 1; have f1 := blk_frozen HG44.out 1; have g1 := blk_frozen HG24.out 1; have x2 := blk_cell HG24.out 2; have y2 := blk_cell HG44.out 2; have f2 := blk_frozen HG44.out 2; have g2 := blk_frozen HG24.out 2; have x3 := blk_cell HG24.out 3; have y3 := blk_cell HG44.out 3; have f3 := blk_frozen HG44.out 3; have g3 := blk_frozen HG24.out 3; have x4 := blk_cell HG24.out 4; have y4 := blk_cell HG44.out 4; have f4 := blk_frozen HG44.out 4; have g4 := blk_frozen HG24.out 4; have x5 := blk_cell HG24.out 5; have y5 := blk_cell HG44.out 5; have f5 := blk_frozen HG44.out 5; have g5 := blk_frozen HG24.out 5; simp only [List.getElem?_toArray, List.getElem?_cons_zero, List.getElem?_cons_succ] at x0 y0 x1 y1 x2 y2 x3 y3 x4 y4 x5 y5; clear hS hB4 hg hat hne))
      refine bodyPost_ret (v := .agg #[.int .i64 x.f0, .string x.f1, .int .i64 x.f2, .int .i64 x.f3, .bool x.f4, .slice A3 (x.f5.length + 1) n3]) (by simp [results, Tryd.results63, go_sem, y0, y1, y2, y3, y4, y5, h4]) rfl ⟨.slice A3 (x.f5.length + 1) n3, by rw [HTF.out], ?_, ?_⟩
      · rw [HTF.out]
        refine Kd.S_mono (ok := fun k => (F k ∧ k < w.heap.size) ∨ w.heap.size + 3 ≤ k) ?_ (fun k hk => by rcases hk with hk | hk; exact .inl hk.1; exact .inr (by omega))
        repeat (first | with_reducible exact HS4.out | with_reducible refine Kd.S_far ?_ (fun k hk => by simp; rcases hk with hk | hk <;> omega) _)
      · have hT := ((Tch.of_below HB1.out F).then_ HT4.out (fun k hk => .inl hk))
        repeat (first | with_reducible exact hT | with_reducible refine Tch.setCell ?_ (.inr (by simp <;> omega)) _)
    · have HTF := Lib.hid (show tellF x n0 ps = ⟨x.f0, x.f1, x.f2, x.f3, true, x.f5 ++ [⟨n0, [], true⟩]⟩ from by unfold tellF; rw [if_neg (by rintro (h | h); rw [h4] at h; cases h; exact h3 h), if_neg hk2, if_neg hlt])
      have x0 := blk_cell HG2.out 0
      have y0 := blk_cell HG4.out 0
      have f0 := blk_frozen HG4.out 0
      have g0 := blk_frozen HG2.out 0
      have x1 := blk_cell HG2.out 1
      have y1 := blk_cell HG4.out 1
      have f1 := blk_frozen HG4.out 1
      have g1 := blk_frozen HG2.out 1
      have x2 := blk_cell HG2.out 2
      have y2 := blk_cell HG4.out 2
      have f2 := blk_frozen HG4.out 2
      have g2 := blk_frozen HG2.out 2
      have x3 := blk_cell HG2.out 3
      have y3 := blk_cell HG4.out 3
      have f3 := blk_frozen HG4.out 3
      have g3 := blk_frozen HG2.out 3
      have x4 := blk_cell HG2.out 4
      have y4 := blk_cell HG4.out 4
      have f4 := blk_frozen HG4.out 4
      have g4 := blk_frozen HG2.out 4
      have x5 := blk_cell HG2.out 5
      have y5 := blk_cell HG4.out 5
      have f5 := blk_frozen HG4.out 5
      have g5 := blk_frozen HG2.out 5
      simp only [List.getElem?_toArray, List.getElem?_cons_zero, List.getElem?_cons_succ] at x0 y0 x1 y1 x2 y2 x3 y3 x4 y4 x5 y5
      go_wp2_with (first | ((with_reducible refine gate_builtin (b := .append) (xs := #[.tmp 43, .tmp 48]) rfl ?_); at_builtin; refine Kd.S_append k112 (w0 := (w1.alloc (.cells #[] 9))) (W := (w1.alloc (.cells #[] 9))) base rfl (.tmp 43) (.tmp 48) 74 112 (.agg #[.int .i64 0, .slice none 0 0, .bool false]) 40 rfl Tryd.underlying74 info112 rfl (by decide) (by omega) (.slice A5 x.f5.length c5) x.f5 (⟨n0, [], true⟩ : S112) [.int .i64 n0, .slice (some ⟨w1.heap.size, 0, none⟩) 0 0, .bool true] (fun k => (F k ∧ k < w.heap.size) ∨ w.heap.size + 3 ≤ k) (fun k => k = w1.heap.size) rfl (by simp only [World.size_alloc]; rfl) (k112_mkM _ _ _ (⟨n0, [], true⟩ : S112) (Kd.S_R (S_empty2 Kd.string 9 (heap_alloc_new w1 _) (by omega) rfl))) (fun k hk => ⟨.inr (by omega), fun he => by have h1 := HS1.out; obtain ⟨f, h0, _⟩ := h1; have := (h0 k he.symm).2; omega⟩) (fun k hk => .inr (by simp only [World.size_alloc] at hk; omega)) (Kd.S_mono (Kd.S_alloc HS1.out _) (fun k hk => ⟨.inl hk, fun h => by have := hk.2; omega⟩)) (Below.refl _ _) (by rw [World.size_alloc]; omega) (by omega) ?_; intro v3 w4 hS hB4 hg hat; obtain ⟨A3, n3, hv3⟩ := Kd.S_slice hS; rw [List.length_append, List.length_singleton] at hv3; subst hv3; have HS4 := Lib.hid hS; have hne : ∀ k, w.heap.size ≤ k → some k ≠ (Value.slice A5 x.f5.length c5).ownBlock := (fun k hk he => by have h1 := HS1.out; obtain ⟨f, h0, _⟩ := h1; have := (h0 k he.symm).2; omega); have HT4 := Lib.hid (show Tch (w1.alloc (.cells #[] 9)) w4 F from ⟨hg.os, hg.tape, hg.output, hg.size, fun k hk hn => hg.block k hk (fun he => by have h1 := HS1.out; obtain ⟨f, h0, _⟩ := h1; exact hn (h0 k he.symm).1)⟩); have HG24 := Lib.hid (blk_grown (blk_alloc HG2.out _) hg (hne _ (by omega))); have HG44 := Lib.hid (blk_grown (blk_alloc HG4.out _) hg (hne _ (by omega))); have x0 := blk_cell HG24.out 0; have y0 := blk_cell HG44.out 0; have f0 := blk_frozen HG44.out 0; have g0 := blk_frozen HG24.out 0; have x1 := blk_cell HG24.out 1; have y1 := blk_cell HG44.out 1; have f1 := blk_frozen HG44.out 1; have g1 := blk_frozen HG24.out 1; have x2 := blk_cell HG24.out 2; have y2 := blk_cell HG44.out 2; have f2 := blk_frozen HG44.out 2; have g2 := blk_frozen HG24.out 2; have x3 := blk_cell HG24.out 3; have y3 := blk_cell HG44.out 3; have f3 := blk_frozen HG44.out 3; have g3 := blk_frozen HG24.out 3; have x4 := blk_cell HG24.out 4; have y4 := blk_cell HG44.out 4; have f4 := blk_frozen HG44.out 4; have g4 := blk_frozen HG24.out 4; have x5 := blk_cell HG24.out 5; have y5 := blk_cell HG44.out 5; have f5 := blk_frozen HG44.out 5; have g5 := blk_frozen HG24.out 5; simp only [List.getElem?_toArray, List.getElem?_cons_zero, List.getElem?_cons_succ] at x0 y0 x1 y1 x2 y2 x3 y3 x4 y4 x5 y5; clear hS hB4 hg hat hne))
      refine bodyPost_ret (v := .agg #[.int .i64 x.f0, .string x.f1, .int .i64 x.f2, .int .i64 x.f3, .bool true, .slice A3 (x.f5.length + 1) n3]) (by simp [results, Tryd.results63, go_sem, y0, y1, y2, y3, y4, y5, h4]) rfl ⟨.slice A3 (x.f5.length + 1) n3, by rw [HTF.out], ?_, ?_⟩
      · rw [HTF.out]
        refine Kd.S_mono (ok := fun k => (F k ∧ k < w.heap.size) ∨ w.heap.size + 3 ≤ k) ?_ (fun k hk => by rcases hk with hk | hk; exact .inl hk.1; exact .inr (by omega))
        repeat (first | with_reducible exact HS4.out | with_reducible refine Kd.S_far ?_ (fun k hk => by simp; rcases hk with hk | hk <;> omega) _)
      · have hT := ((Tch.of_below (HB1.out.trans ((below_alloc (Below.refl w1.heap.size w1) (.cells #[] 9)).mono HB1.out.size)) F).then_ HT4.out (fun k hk => .inl hk))
        repeat (first | with_reducible exact hT | with_reducible refine Tch.setCell ?_ (.inr (by simp <;> omega)) _)
  · rw [h4] at HG2
    have HTF := Lib.hid (show tellF x n0 ps = x from by unfold tellF; rw [if_pos (Or.inl h4)])
    have x0 := blk_cell HG2.out 0
    have y0 := blk_cell HG4.out 0
    have f0 := blk_frozen HG4.out 0
    have g0 := blk_frozen HG2.out 0
    have x1 := blk_cell HG2.out 1
    have y1 := blk_cell HG4.out 1
    have f1 := blk_frozen HG4.out 1
    have g1 := blk_frozen HG2.out 1
    have x2 := blk_cell HG2.out 2
    have y2 := blk_cell HG4.out 2
    have f2 := blk_frozen HG4.out 2
    have g2 := blk_frozen HG2.out 2
    have x3 := blk_cell HG2.out 3
    have y3 := blk_cell HG4.out 3
    have f3 := blk_frozen HG4.out 3
    have g3 := blk_frozen HG2.out 3
    have x4 := blk_cell HG2.out 4
    have y4 := blk_cell HG4.out 4
    have f4 := blk_frozen HG4.out 4
    have g4 := blk_frozen HG2.out 4
    have x5 := blk_cell HG2.out 5
    have y5 := blk_cell HG4.out 5
    have f5 := blk_frozen HG4.out 5
    have g5 := blk_frozen HG2.out 5
    simp only [List.getElem?_toArray, List.getElem?_cons_zero, List.getElem?_cons_succ] at x0 y0 x1 y1 x2 y2 x3 y3 x4 y4 x5 y5
    have hl2 := blk_lt HG2.out
    go_wp2_with fail
    refine bodyPost_ret (v := .agg #[.int .i64 x.f0, .string x.f1, .int .i64 x.f2, .int .i64 x.f3, .bool x.f4, .slice A5 x.f5.length c5]) (by simp [results, Tryd.results63, go_sem, y0, y1, y2, y3, y4, y5, h4]) rfl ⟨.slice A5 x.f5.length c5, by rw [HTF.out], ?_, ?_⟩
    · rw [HTF.out]
      refine Kd.S_mono (ok := fun k => F k ∧ k < w.heap.size) ?_ (fun k hk => .inl hk.1)
      repeat (first | with_reducible exact HS1.out | with_reducible refine Kd.S_far ?_ (fun k hk => by simp; omega) _)
    · repeat (first | with_reducible exact Tch.of_below HB1.out F | with_reducible refine Tch.setCell ?_ (.inr (by simp <;> omega)) _)
end Go.Proofs.YtmphkhkbegihaaaDoor.HubLaw
