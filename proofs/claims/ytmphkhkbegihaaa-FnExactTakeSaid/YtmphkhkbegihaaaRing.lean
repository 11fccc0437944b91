/- The ring of messages: contracts by hand of take and list; rows without their head. -/
import Derived.Test.YtmphkhkbegihaaaDel
import Derived.RegionTactic
import Derived.ChangeAlike
namespace Go.Proofs.Ytmphkhkbegihaaa.Ring
open Go Go.RowKit Go.Proofs.Ytmphkhkbegihaaa.PHub Go.Proofs.YtmphkhkbegihaaaW.PrintWords Go.Proofs.Ytmphkhkbegihaaa.Tree Go.Proofs.Ytmphkhkbegihaaa.Mark Go.Proofs.Ytmphkhkbegihaaa.To Go.Proofs.Ytmphkhkbegihaaa.Copy Go.Proofs.Ytmphkhkbegihaaa.Find
set_option linter.unusedVariables false
set_option linter.unusedSimpArgs false

section
variable {α : Type} {d : Kd α} {e : Nat} {w w1 : World} {base : Nat} {ok : Nat → Prop} {v : Value} {x : α} {xs : List α}
/-- The head of a row and the row behind it, apart from what the head leads to. -/
theorem T_uncons (h : T d e w base ok v (x :: xs)) : ∃ (g o c : Nat) (cur : Array Value) (F : Nat → Prop), v = .slice (some ⟨g, o, none⟩) (xs.length + 1) c ∧ xs.length + 1 ≤ c ∧ ok g ∧ base ≤ g ∧
    w.heap[g]? = some (.cells cur e (0, 0)) ∧ o + d.sz ≤ cur.size ∧ (∀ k, F k → ok k ∧ k ≠ g) ∧ d.M w base F x (cut cur o d.sz) ∧
    T d e w base (fun k => ok k ∧ ¬ F k) (.slice (if c = 1 then some ⟨g, o, none⟩ else some ⟨g, o + d.sz, none⟩) xs.length (c - 1)) xs := by
  obtain ⟨A, c, hv, hc, hm, h⟩ := h
  obtain ⟨g, o, cur, f, hA, hg, hb, hh, hs, hr⟩ := h (by simp)
  simp only [List.length_cons] at hv hc hs hm
  have hx := hr 0 x rfl
  rw [Nat.zero_mul, Nat.add_zero] at hx
  rw [Nat.add_mul, Nat.one_mul] at hs
  refine ⟨g, o, c, cur, fun k => (ok k ∧ k ≠ g) ∧ f k = 0, by rw [hv, hA], hc, hg, hb, hh, by omega, fun k hk => hk.1, hx, ?_⟩
  refine ⟨_, _, rfl, by omega, by omega, fun hp => ?_⟩
  refine ⟨g, o + d.sz, cur, fun k => f k - 1, if_neg (by omega), ⟨hg, fun hk => hk.1.2 rfl⟩, hb, hh, by omega, fun j y hy => ?_⟩
  have hy2 := hr (j + 1) y hy
  rw [show o + (j + 1) * d.sz = o + d.sz + j * d.sz by rw [Nat.add_mul, Nat.one_mul]; omega] at hy2
  refine d.M_mono (fun k hk => ?_) hy2
  refine ⟨⟨⟨hk.1.1, fun hF => ?_⟩, hk.1.2⟩, ?_⟩
  · have := hF.2; have := hk.2; omega
  · have := hk.2; show f k - 1 = j; omega

open Classical in
/-- T_at, where what is given up of the element's own blocks leaves the row's. -/
theorem T_at2 (h : T d e w base ok v xs) (i : Nat) (x : α) (hx : xs[i]? = some x) :
    ∃ (g o c : Nat) (cur : Array Value) (F : Nat → Prop), v = .slice (some ⟨g, o, none⟩) xs.length c ∧ xs.length ≤ c ∧ ok g ∧ base ≤ g ∧ w.heap[g]? = some (.cells cur e (0, 0)) ∧ o + i * d.sz + d.sz ≤ cur.size ∧
      (∀ k, F k → ok k ∧ k ≠ g) ∧ d.M w base F x (cut cur (o + i * d.sz) d.sz) ∧
      ∀ (w1 : World) (cur1 : Array Value) (x1 : α) (F1 ok1 : Nat → Prop), w1.heap[g]? = some (.cells cur1 e (0, 0)) → cur1.size = cur.size →
        (∀ p, p < o + i * d.sz ∨ o + i * d.sz + d.sz ≤ p → cur1[p]? = cur[p]?) → (∀ k, k < w.heap.size → ok k → k ≠ g → ¬ F k → w1.heap[k]? = w.heap[k]?) → (∀ k, ok k → ¬ F k → ok1 k) →
        (∀ k, F1 k → (F k ∨ w.heap.size ≤ k ∨ ¬ ok k) ∧ ok1 k ∧ k ≠ g) → d.M w1 base F1 x1 (cut cur1 (o + i * d.sz) d.sz) → T d e w1 base ok1 v (xs.set i x1) := by
  obtain ⟨A, c, hv, hc, hmx, h⟩ := h
  have hil : i < xs.length := (List.getElem?_eq_some_iff.1 hx).1
  obtain ⟨g, o, cur, f, hA, hg, hb, hh, hs, hr⟩ := h (by omega)
  have hmul : (i + 1) * d.sz ≤ xs.length * d.sz := Nat.mul_le_mul_right _ hil
  rw [Nat.add_mul, Nat.one_mul] at hmul
  refine ⟨g, o, c, cur, fun k => (ok k ∧ k ≠ g) ∧ f k = i, by rw [hv, hA], hc, hg, hb, hh, by omega, fun k hk => hk.1, hr i x hx, ?_⟩
  intro w1 cur1 x1 F1 ok1 hh1 hs1 hcur hkeep hok hF1 hM1
  refine ⟨A, c, by rw [hv, List.length_set], by rw [List.length_set]; exact hc, by rw [List.length_set]; exact hmx, fun _ => ?_⟩
  refine ⟨g, o, cur1, fun k => if F1 k then i else if w.heap.size ≤ k ∨ ¬ ok k then i else f k, hA, hok g hg (fun hF => hF.1.2 rfl), hb, hh1, by rw [List.length_set, hs1]; exact hs, fun j y hy => ?_⟩
  by_cases hji : j = i
  · subst hji
    rw [List.getElem?_set_self hil] at hy
    injection hy with hy
    subst hy
    refine d.M_mono (fun k hk => ?_) hM1
    exact ⟨⟨(hF1 k hk).2.1, (hF1 k hk).2.2⟩, if_pos hk⟩
  · rw [List.getElem?_set_ne (fun hh => hji hh.symm)] at hy
    have hj : j < xs.length := (List.getElem?_eq_some_iff.1 hy).1
    have he : cut cur1 (o + j * d.sz) d.sz = cut cur (o + j * d.sz) d.sz := by
      apply cut_ext
      intro p hp1 hp2
      apply hcur
      rcases Nat.lt_or_ge j i with hlt | hge
      · have : (j + 1) * d.sz ≤ i * d.sz := Nat.mul_le_mul_right _ hlt
        rw [Nat.add_mul, Nat.one_mul] at this
        left; omega
      · have : (i + 1) * d.sz ≤ j * d.sz := Nat.mul_le_mul_right _ (by omega)
        rw [Nat.add_mul, Nat.one_mul] at this
        right; omega
    rw [he]
    have h1 := d.M_bound (hr j y hy)
    have h2 := d.M_move (w1 := w1) (fun k hk => hkeep k hk.2.2.1 hk.1.1.1 hk.1.1.2 (fun hF => hji (hk.1.2.symm.trans hF.2))) h1
    refine d.M_mono (fun k hk => ?_) h2
    obtain ⟨⟨⟨hok1, hkg⟩, hfk⟩, hbk, hlt, _⟩ := hk
    refine ⟨⟨hok k hok1 (fun hF => hji (hfk.symm.trans hF.2)), hkg⟩, ?_⟩
    have hn1 : ¬ F1 k := by
      intro hk
      rcases (hF1 k hk).1 with h3 | h3 | h3
      · exact hji (hfk.symm.trans h3.2)
      · omega
      · exact h3 hok1
    have hn2 : ¬ (w.heap.size ≤ k ∨ ¬ ok k) := by
      rintro (h3 | h3)
      · omega
      · exact h3 hok1
    show (if F1 k then i else if w.heap.size ≤ k ∨ ¬ ok k then i else f k) = j
    rw [if_neg hn1, if_neg hn2]
    exact hfk
end

theorem Tch.drew {w w1 : World} {S : Nat → Prop} (h : Tch w w1 S) : Tch w w1.drew S := ⟨h.os, h.tape, h.output, h.kept⟩

/-! ### the ring -/
set_option maxRecDepth 100000 in
set_option maxHeartbeats 2000000 in
theorem ring_none (q c : Nat) (A : Option Addr) (s : Int) (w : World) (hq : w.heap[q]? = some (.cells #[.slice A 0 c, .int .i64 0, .int .i64 s] 71 (0, 0))) :
    Calls Try.prog 44 #[.pointer (some ⟨q, 0, none⟩)] w fun e w' => e = .returned (.tuple #[.agg #[.int .i64 0, .slice none 0 0, .bool false], .bool false]) ∧ Below w.heap.size w w' := by
  have hz1 := blk_lt hq
  have HZ := Lib.hid hz1
  have h0 := blk_cell (blk_alloc (blk_alloc hq (.cells #[.int .i64 0, .slice none 0 0, .bool false] 44)) (.cells #[.int .i64 0, .slice none 0 0, .bool false] 44)) 0
  have h1 := blk_cell (blk_alloc (blk_alloc hq (.cells #[.int .i64 0, .slice none 0 0, .bool false] 44)) (.cells #[.int .i64 0, .slice none 0 0, .bool false] 44)) 1
  simp only [List.getElem?_toArray, List.getElem?_cons_zero, List.getElem?_cons_succ] at h0 h1
  clear hq
  go_enter Try.func44, Try.ntmps44
  go_wp2_with fail
  go_region
  all_goals
    go_wp2_with fail
    refine bodyPost_ret (v := .tuple #[.agg #[.int .i64 0, .slice none 0 0, .bool false], .bool false]) (by simp [results, Try.results44, go_sem]) rfl ⟨rfl, ?_⟩
    repeat (first | with_reducible exact Below.refl _ _ | with_reducible apply below_alloc | with_reducible apply below_drew | with_reducible apply pw_below_drewN | with_reducible refine Below.setCell ?_ (by simp <;> omega) _)

set_option maxRecDepth 100000 in
set_option maxHeartbeats 4000000 in
theorem ring_some (q g o n c : Nat) (s f0 : Int) (u : Value) (f2 : Bool) (A1 : Option Addr) (n1 c1 : Nat) (hu : u = .slice A1 n1 c1) (w : World) (hn : 0 < n) (hgq : g ≠ q) (hgl : g < w.heap.size) (hq : w.heap[q]? = some (.cells #[.slice (some ⟨g, o, none⟩) n c, .int .i64 0, .int .i64 s] 71 (0, 0)))
    (hc0 : w.cell? ⟨g, o, none⟩ = some (.int .i64 f0)) (hc1 : w.cell? ⟨g, o + 1, none⟩ = some u) (hc2 : w.cell? ⟨g, o + 2, none⟩ = some (.bool f2)) :
    Calls Try.prog 44 #[.pointer (some ⟨q, 0, none⟩)] w fun e w' => e = .returned (.tuple #[.agg #[.int .i64 f0, u, .bool f2], .bool true]) ∧ w'.heap[q]? = some (.cells #[.slice (some ⟨g, o, none⟩) n c, .int .i64 1, .int .i64 s] 71 (0, 0)) ∧ Tch w w' (fun k => k = q) := by
  subst hu
  have hz1 := blk_lt hq
  have HZ := Lib.hid hz1
  have HQ := Lib.hid hq
  have hb3 := blk_alloc (blk_alloc (blk_alloc hq (.cells #[.int .i64 0, .slice none 0 0, .bool false] 44)) (.cells #[.int .i64 0, .slice none 0 0, .bool false] 44)) (.cells #[.int .i64 0, .slice none 0 0, .bool false] 44)
  have hb2 := blk_alloc (blk_alloc hq (.cells #[.int .i64 0, .slice none 0 0, .bool false] 44)) (.cells #[.int .i64 0, .slice none 0 0, .bool false] 44)
  have h0 := blk_cell hb2 0
  have h1 := blk_cell hb2 1
  have hf1 := blk_frozen hb2 1
  have k0 := blk_cell hb3 0
  have k1 := blk_cell hb3 1
  have kf1 := blk_frozen hb3 1
  have hb4 := blk_alloc (blk_alloc (blk_alloc hq (.cells #[.int .i64 0, .slice none 0 0, .bool false] 44)) (.cells #[.int .i64 0, .slice none 0 0, .bool false] 44)) (.cells #[.int .i64 f0, .slice A1 n1 c1, .bool f2] 44)
  have l1 := blk_cell hb4 1
  have lf1 := blk_frozen hb4 1
  simp only [List.getElem?_toArray, List.getElem?_cons_zero, List.getElem?_cons_succ] at h0 h1 k0 k1 l1
  have HP := Lib.hid (show ((((w.alloc (.cells #[.int .i64 0, .slice none 0 0, .bool false] 44)).alloc (.cells #[.int .i64 0, .slice none 0 0, .bool false] 44)).alloc (.cells #[.int .i64 f0, .slice A1 n1 c1, .bool f2] 44)).setCell ⟨q, 1, none⟩ (.int .i64 1)).heap[q]? = some (.cells #[.slice (some ⟨g, o, none⟩) n c, .int .i64 1, .int .i64 s] 71 (0, 0)) from blk_set hb4 1 (.int .i64 1))
  have HR := Lib.hid (blk_far (blk_alloc (blk_alloc (heap_alloc_new w (.cells #[.int .i64 0, .slice none 0 0, .bool false] 44)) (.cells #[.int .i64 0, .slice none 0 0, .bool false] 44)) (.cells #[.int .i64 f0, .slice A1 n1 c1, .bool f2] 44)) (p := ⟨q, 1, none⟩) (by show w.heap.size ≠ q; omega) (.int .i64 1))
  have HT := Lib.hid (((Tch.of_below (below_alloc (below_alloc (below_alloc (Below.refl w.heap.size w) (.cells #[.int .i64 0, .slice none 0 0, .bool false] 44)) (.cells #[.int .i64 0, .slice none 0 0, .bool false] 44)) (.cells #[.int .i64 f0, .slice A1 n1 c1, .bool f2] 44)) (fun k => k = q)).setCell (p := ⟨q, 1, none⟩) (.inl rfl) (.int .i64 1)))
  clear hb4
  have hB2 : Below w.heap.size w ((w.alloc (.cells #[.int .i64 0, .slice none 0 0, .bool false] 44)).alloc (.cells #[.int .i64 0, .slice none 0 0, .bool false] 44)) := below_alloc (below_alloc (Below.refl _ _) _) _
  have hB3 : Below w.heap.size w (((w.alloc (.cells #[.int .i64 0, .slice none 0 0, .bool false] 44)).alloc (.cells #[.int .i64 0, .slice none 0 0, .bool false] 44)).alloc (.cells #[.int .i64 0, .slice none 0 0, .bool false] 44)) := below_alloc hB2 _
  have a0 := (hB2.cell (p := ⟨g, o, none⟩) hgl).trans hc0
  have a1 := (hB2.cell (p := ⟨g, o + 1, none⟩) hgl).trans hc1
  have a2 := (hB2.cell (p := ⟨g, o + 2, none⟩) hgl).trans hc2
  have b0 := (hB3.cell (p := ⟨g, o, none⟩) hgl).trans hc0
  have b1 := (hB3.cell (p := ⟨g, o + 1, none⟩) hgl).trans hc1
  have b2 := (hB3.cell (p := ⟨g, o + 2, none⟩) hgl).trans hc2
  clear hq hB2 hB3 hb2 hb3
  have hnn : ((n : Int) == 0) = false := by simp; omega
  have hnn2 : ((0 : Int) == (n : Int)) = false := by simp; omega
  go_enter Try.func44, Try.ntmps44
  go_wp2_with fail
  go_region
  all_goals
    go_wp2_with fail
    go_region
    all_goals
      go_wp2_with fail
      have y0 := blk_cell HR.out 0
      have y1 := blk_cell HR.out 1
      have y2 := blk_cell HR.out 2
      simp only [List.getElem?_toArray, List.getElem?_cons_zero, List.getElem?_cons_succ] at y0 y1 y2
      refine bodyPost_ret (v := .tuple #[.agg #[.int .i64 f0, .slice A1 n1 c1, .bool f2], .bool true]) (by simp [results, Try.results44, go_sem, y0, y1, y2]) rfl ⟨rfl, ?_, ?_⟩
      · exact blk_far (blk_far (blk_far HP.out (by show q ≠ w.heap.size; have := HZ.out; omega) _) (by show q ≠ w.heap.size; have := HZ.out; omega) _) (by show q ≠ w.heap.size; have := HZ.out; omega) _
      · repeat (first | with_reducible exact HT.out | with_reducible apply Tch.drew | with_reducible refine Tch.setCell ?_ (.inr (Nat.le_refl _)) _)

set_option maxRecDepth 100000 in
set_option maxHeartbeats 2000000 in
theorem ring_list (q g o n c : Nat) (s : Int) (Aj : Option Addr) (hAj : Aj = if c = 1 then some ⟨g, o, none⟩ else some ⟨g, o + 3, none⟩) (w : World) (hc : n + 1 ≤ c) (hm : n ≤ 4194304) (hq : w.heap[q]? = some (.cells #[.slice (some ⟨g, o, none⟩) (n + 1) c, .int .i64 1, .int .i64 s] 71 (0, 0))) :
    Calls Try.prog 45 #[.pointer (some ⟨q, 0, none⟩)] w fun e w' => e = .returned (.slice Aj n (c - 1)) ∧ Below w.heap.size w w' := by
  have h0 := blk_cell hq 0
  have h1 := blk_cell hq 1
  simp only [List.getElem?_toArray, List.getElem?_cons_zero, List.getElem?_cons_succ] at h0 h1
  obtain ⟨i0, hi0, hz0, hz1, hz2⟩ := info_parts info44
  have hcut : ∀ W : World, (Instr.slice 63 (.slice (some ⟨g, o, none⟩) (n + 1) c) (some (.int .i64 1)) none none).run Try.prog W = .ok (.slice Aj n (c - 1)) W := by
    intro W
    have h := cut_from (P := Try.prog) 63 44 .i64 Try.underlying63 hi0 3 hz1 (some ⟨g, o, none⟩) (n + 1) c 1 (by omega) (by omega) W
    rw [hAj]
    exact h
  clear hq hi0 hz0 hz1 hz2 hAj
  go_enter Try.func45, Try.ntmps45
  go_wp2_with fail
  go_region
  all_goals
    go_wp2_with fail
    go_ret
    refine ⟨rfl, ?_⟩
    repeat (first | with_reducible exact Below.refl _ _ | with_reducible apply below_drew)
end Go.Proofs.Ytmphkhkbegihaaa.Ring
