/- Rows of elements whose inner rows lie apart; a row may begin inside its block, and an empty row says nothing of where it points. Over the print's kinds. -/
import Derived.Test.YtmphkhkbegihaaaDoorWWords
import Derived.Test.YtmphkhkbegihaaaDoorWLast
namespace Go.Proofs.YtmphkhkbegihaaaDoor.Tree
open Go Go.RowKit Go.Proofs.YtmphkhkbegihaaaDoorW.PrintWords
set_option linter.unusedVariables false
set_option linter.unusedSimpArgs false

/-- The cells from o on. -/
def cut (cur : Array Value) (o sz : Nat) : List Value := (cur.toList.drop o).take sz
theorem cut_get (cur : Array Value) (o sz j : Nat) : (cut cur o sz)[j]? = if j < sz then cur[o + j]? else none := by
  unfold cut
  rw [List.getElem?_take, List.getElem?_drop, Array.getElem?_toList]
theorem cut_len {cur : Array Value} {o sz : Nat} (h : o + sz ≤ cur.size) : (cut cur o sz).length = sz := by
  unfold cut
  rw [List.length_take, List.length_drop, Array.length_toList]
  omega
theorem cut_ext {cur cur1 : Array Value} {o sz : Nat} (h : ∀ p, o ≤ p → p < o + sz → cur1[p]? = cur[p]?) : cut cur1 o sz = cut cur o sz := by
  apply List.ext_getElem?
  intro j
  rw [cut_get, cut_get]
  split
  · exact h _ (by omega) (by omega)
  · rfl
theorem cut_cell {w : World} {g e o sz j : Nat} {cur : Array Value} {cs : List Value} {u : Value} (hb : w.heap[g]? = some (.cells cur e (0, 0))) (hc : cut cur o sz = cs) (hu : cs[j]? = some u) : w.cell? ⟨g, o + j, none⟩ = some u := by
  rw [blk_cell hb]
  rw [← hc, cut_get] at hu
  split at hu
  · exact hu
  · cases hu

section
variable {α β : Type} {d : Kd α} {d' : Kd β} {e e' : Nat} {w w1 : World} {base : Nat} {ok ok' : Nat → Prop} {v : Value} {xs : List α}

/-- A row of elements, no two of which lead to one block. -/
def T (d : Kd α) (e : Nat) (w : World) (base : Nat) (ok : Nat → Prop) (v : Value) (xs : List α) : Prop :=
  ∃ (A : Option Addr) (c : Nat), v = .slice A xs.length c ∧ xs.length ≤ c ∧ xs.length ≤ 9223372036854775807 ∧
    (0 < xs.length → ∃ (g o : Nat) (cur : Array Value) (f : Nat → Nat), A = some ⟨g, o, none⟩ ∧ ok g ∧ base ≤ g ∧ w.heap[g]? = some (.cells cur e (0, 0)) ∧ o + xs.length * d.sz ≤ cur.size ∧
      ∀ j x, xs[j]? = some x → d.M w base (fun k => (ok k ∧ k ≠ g) ∧ f k = j) x (cut cur (o + j * d.sz) d.sz))

theorem T_nil (d : Kd α) (e : Nat) (w : World) (base : Nat) (ok : Nat → Prop) (A : Option Addr) (c : Nat) : T d e w base ok (.slice A 0 c) [] :=
  ⟨A, c, rfl, Nat.zero_le _, Nat.zero_le _, fun h => absurd h (Nat.lt_irrefl 0)⟩
theorem T_mono (h : T d e w base ok v xs) (hok : ∀ k, ok k → ok' k) : T d e w base ok' v xs := by
  obtain ⟨A, c, hv, hc, hm, h⟩ := h
  refine ⟨A, c, hv, hc, hm, fun hp => ?_⟩
  obtain ⟨g, o, cur, f, hA, hg, hb, hh, hs, hr⟩ := h hp
  exact ⟨g, o, cur, f, hA, hok g hg, hb, hh, hs, fun j x hx => d.M_mono (fun k hk => ⟨⟨hok k hk.1.1, hk.1.2⟩, hk.2⟩) (hr j x hx)⟩
theorem T_bound (h : T d e w base ok v xs) : T d e w base (fun k => ok k ∧ base ≤ k ∧ k < w.heap.size ∧ ∃ q, q ∈ e :: d.E ∧ ∃ cells, w.heap[k]? = some (.cells cells q (0, 0))) v xs := by
  obtain ⟨A, c, hv, hc, hm, h⟩ := h
  refine ⟨A, c, hv, hc, hm, fun hp => ?_⟩
  obtain ⟨g, o, cur, f, hA, hg, hb, hh, hs, hr⟩ := h hp
  refine ⟨g, o, cur, f, hA, ⟨hg, hb, blk_lt hh, e, List.mem_cons_self, cur, hh⟩, hb, hh, hs, fun j x hx => d.M_mono (fun k hk => ?_) (d.M_bound (hr j x hx))⟩
  obtain ⟨⟨⟨h1, h2⟩, h3⟩, h4, h5, q, hq, hc⟩ := hk
  exact ⟨⟨⟨h1, h4, h5, q, List.mem_cons_of_mem _ hq, hc⟩, h2⟩, h3⟩
theorem T_move (h : T d e w base ok v xs) (hm : ∀ k, ok k → w1.heap[k]? = w.heap[k]?) : T d e w1 base ok v xs := by
  obtain ⟨A, c, hv, hc, hmx, h⟩ := h
  refine ⟨A, c, hv, hc, hmx, fun hp => ?_⟩
  obtain ⟨g, o, cur, f, hA, hg, hb, hh, hs, hr⟩ := h hp
  exact ⟨g, o, cur, f, hA, hg, hb, (hm g hg).trans hh, hs, fun j x hx => d.M_move (fun k hk => hm k hk.1.1) (hr j x hx)⟩
theorem T_lower {base' : Nat} (h : T d e w base ok v xs) (hb' : base' ≤ base) : T d e w base' ok v xs := by
  obtain ⟨A, c, hv, hc, hm, h⟩ := h
  refine ⟨A, c, hv, hc, hm, fun hp => ?_⟩
  obtain ⟨g, o, cur, f, hA, hg, hb, hh, hs, hr⟩ := h hp
  exact ⟨g, o, cur, f, hA, hg, Nat.le_trans hb' hb, hh, hs, fun j x hx => d.M_lower hb' (hr j x hx)⟩
theorem T_step (h : T d e w base ok v xs) (hm : ∀ k, ok k → k < w.heap.size → w1.heap[k]? = w.heap[k]?) : T d e w1 base ok v xs :=
  T_mono (T_move (T_bound h) (fun k hk => hm k hk.1 hk.2.2.1)) (fun _ hk => hk.1)
theorem T_below (h : T d e w base ok v xs) (hb : Below w.heap.size w w1) : T d e w1 base ok v xs := T_step h (fun k _ hk => hb.block k hk)
theorem T_kept {S : Nat → Prop} (h : T d e w base ok v xs) (hk : Kept w w1 S) (hne : ∀ k, ok k → ¬ S k) : T d e w1 base ok v xs := T_step h (fun k ho hlt => hk.2 k hlt (hne k ho))
/-- What was so when the world was smaller: its blocks are elder. -/
theorem T_old (h : T d e w base ok v xs) (hb : Below w.heap.size w w1) : T d e w1 base (fun k => ok k ∧ k < w.heap.size) v xs :=
  T_mono (T_below (T_bound h) hb) (fun k hk => ⟨hk.1, hk.2.2.1⟩)
theorem T_now (h : T d e w base ok v xs) : T d e w base (fun k => ok k ∧ base ≤ k ∧ k < w.heap.size) v xs :=
  T_mono (T_bound h) (fun k hk => ⟨hk.1, hk.2.1, hk.2.2.1⟩)
theorem T_slice (h : T d e w base ok v xs) : ∃ A c, v = .slice A xs.length c ∧ xs.length ≤ c := by
  obtain ⟨A, c, hv, hc, _⟩ := h
  exact ⟨A, c, hv, hc⟩
theorem T_reads' {A : Option Addr} {n c : Nat} (h : T d e w base ok (.slice A n c) xs) : n = xs.length ∧ n ≤ c ∧ d.C w A xs.length xs := by
  obtain ⟨A', c', hv, hc, hm, h⟩ := h
  injection hv with h1 h2 h3
  subst h1; subst h2; subst h3
  refine ⟨rfl, hc, rfl, hm, fun hp => ?_⟩
  obtain ⟨g, o, cur, f, hA, hg, hb, hh, hs, hr⟩ := h hp
  refine ⟨_, hA, fun j p hj => ⟨cut cur (o + j * d.sz) d.sz, ?_, d.K_of_M (hr j p hj), fun i u hu => ?_⟩⟩
  · exact d.K_len (d.K_of_M (hr j p hj))
  · rw [add_at, ← Nat.add_assoc]
    exact cut_cell hh rfl hu
theorem T_reads (h : T d e w base ok v xs) : ∃ A c, v = .slice A xs.length c ∧ xs.length ≤ c ∧ d.C w A xs.length xs := by
  obtain ⟨A, c, rfl, hc⟩ := T_slice h
  exact ⟨A, c, rfl, hc, (T_reads' h).2.2⟩
theorem T_imp {d2 : Kd α} (h : T d e w base ok v xs) (hs : d2.sz = d.sz) (hd : ∀ okx x cs, d.M w base okx x cs → d2.M w base okx x cs) : T d2 e w base ok v xs := by
  obtain ⟨A, c, hv, hc, hm, h⟩ := h
  refine ⟨A, c, hv, hc, hm, fun hp => ?_⟩
  obtain ⟨g, o, cur, f, hA, hg, hb, hh, hsz, hr⟩ := h hp
  rw [← hs] at hsz
  exact ⟨g, o, cur, f, hA, hg, hb, hh, hsz, fun j x hx => by
    have := hd _ _ _ (hr j x hx)
    rw [← hs] at this
    exact this⟩
/-- From the print's rows that may begin inside their block. -/
theorem T_of_tag {f : Nat → Nat} (h : (Kd.tag f d).Q e w base ok v xs.zipIdx) : T d e w base ok v xs := by
  obtain ⟨h0, inner, hq, hr⟩ := h
  rw [List.length_zipIdx] at hq
  obtain ⟨hl, hq⟩ := hq
  rcases hq with ⟨hn, A, rfl, _⟩ | ⟨g, off, cap, cur, rfl, hb, hh, hnc, hcm, hcs, hin⟩
  · refine ⟨A, 0, by rw [hn], by omega, by omega, fun hp => by omega⟩
  · replace hcs : cur.size = (off + cap) * d.sz := hcs
    replace hin : (cur.toList.drop (off * d.sz)).take (xs.length * d.sz) = inner := hin
    have hle : xs.length * d.sz ≤ cap * d.sz := Nat.mul_le_mul_right _ hnc
    refine ⟨some ⟨g, off * d.sz, none⟩, cap, rfl, hnc, by simp only [maxLen] at hcm; omega, fun hp => ⟨g, off * d.sz, cur, f, rfl, h0 g rfl, hb, hh, by rw [hcs, Nat.add_mul]; omega, fun j x hx => ?_⟩⟩
    have hm := hr.2 j (x, j) (Kd.zip_at hx)
    have hjl : j < xs.length := (List.getElem?_eq_some_iff.1 hx).1
    have hj2 : (j + 1) * d.sz ≤ xs.length * d.sz := Nat.mul_le_mul_right _ hjl
    rw [Nat.add_mul, Nat.one_mul] at hj2
    have he : (inner.drop (j * d.sz)).take d.sz = cut cur (off * d.sz + j * d.sz) d.sz := by
      unfold cut
      rw [← hin, List.drop_take, List.take_take, List.drop_drop, Nat.min_eq_left (by omega)]
    replace hm : (Kd.tag f d).M w base (fun k => ok k ∧ some k ≠ (Value.slice (some ⟨g, off * d.sz, none⟩) xs.length cap).ownBlock) (x, j) ((inner.drop (j * d.sz)).take d.sz) := hm
    rw [he] at hm
    exact d.M_mono (fun k hk => ⟨⟨hk.1.1, fun hkg => hk.1.2 (by rw [hkg]; rfl)⟩, hk.2⟩) hm
theorem T_of_S (h : Kd.S d e w base ok v xs) : T d e w base ok v xs := by
  obtain ⟨f, h⟩ := h
  exact T_of_tag (Kd.Q_of_R h)
/-- A row of elements that lead to nothing, read as a row of one's own. -/
theorem T_of_R (h : d.R e w base ok v xs) (hd : ∀ okx x cs, d.M w base okx x cs → d.M w base (fun _ => False) x cs) : T d e w base ok v xs := by
  obtain ⟨h0, inner, ho, hr⟩ := h
  refine T_of_tag (f := fun _ => 0) ⟨h0, inner, ?_, ?_, fun j p hj => ?_⟩
  · rw [List.length_zipIdx]; exact q_of_own ho
  · rw [List.length_zipIdx]; exact hr.1
  · rw [List.getElem?_zipIdx, Nat.zero_add] at hj
    obtain ⟨x, hx, rfl⟩ := Option.map_eq_some_iff.1 hj
    exact d.M_mono (fun k hk => hk.elim) (hd _ _ _ (hr.2 j x hx))

open Classical in
/-- THE ROW SEEN AT ONE ELEMENT: its cells and its own blocks (F); and back, when of what is the row's that element alone has changed. -/
theorem T_at (h : T d e w base ok v xs) (i : Nat) (x : α) (hx : xs[i]? = some x) :
    ∃ (g o c : Nat) (cur : Array Value) (F : Nat → Prop), v = .slice (some ⟨g, o, none⟩) xs.length c ∧ xs.length ≤ c ∧ ok g ∧ base ≤ g ∧ w.heap[g]? = some (.cells cur e (0, 0)) ∧ o + i * d.sz + d.sz ≤ cur.size ∧
      (∀ k, F k → ok k ∧ k ≠ g) ∧ d.M w base F x (cut cur (o + i * d.sz) d.sz) ∧
      ∀ (w1 : World) (cur1 : Array Value) (x1 : α) (F1 ok1 : Nat → Prop), w1.heap[g]? = some (.cells cur1 e (0, 0)) → cur1.size = cur.size →
        (∀ p, p < o + i * d.sz ∨ o + i * d.sz + d.sz ≤ p → cur1[p]? = cur[p]?) → (∀ k, k < w.heap.size → ok k → k ≠ g → ¬ F k → w1.heap[k]? = w.heap[k]?) → (∀ k, ok k → ok1 k) →
        (∀ k, F1 k → (F k ∨ w.heap.size ≤ k ∨ ¬ ok k) ∧ ok1 k ∧ k ≠ g) → d.M w1 base F1 x1 (cut cur1 (o + i * d.sz) d.sz) → T d e w1 base ok1 v (xs.set i x1) := by
  obtain ⟨A, c, hv, hc, hmx, h⟩ := h
  have hil : i < xs.length := (List.getElem?_eq_some_iff.1 hx).1
  obtain ⟨g, o, cur, f, hA, hg, hb, hh, hs, hr⟩ := h (by omega)
  have hmul : (i + 1) * d.sz ≤ xs.length * d.sz := Nat.mul_le_mul_right _ hil
  rw [Nat.add_mul, Nat.one_mul] at hmul
  refine ⟨g, o, c, cur, fun k => (ok k ∧ k ≠ g) ∧ f k = i, by rw [hv, hA], hc, hg, hb, hh, by omega, fun k hk => hk.1, hr i x hx, ?_⟩
  intro w1 cur1 x1 F1 ok1 hh1 hs1 hcur hkeep hok hF1 hM1
  refine ⟨A, c, by rw [hv, List.length_set], by rw [List.length_set]; exact hc, by rw [List.length_set]; exact hmx, fun _ => ?_⟩
  refine ⟨g, o, cur1, fun k => if F1 k then i else if w.heap.size ≤ k ∨ ¬ ok k then i else f k, hA, hok g hg, hb, hh1, by rw [List.length_set, hs1]; exact hs, fun j y hy => ?_⟩
  by_cases hji : j = i
  · subst hji
    rw [List.getElem?_set_self hil] at hy
    injection hy with hy
    subst hy
    refine d.M_mono (fun k hk => ?_) hM1
    exact ⟨⟨(hF1 k hk).2.1, (hF1 k hk).2.2⟩, if_pos hk⟩
  · rw [List.getElem?_set_ne (fun hh => hji hh.symm)] at hy
    have hj : j < xs.length := (List.getElem?_eq_some_iff.1 hy).1
    have he : cut cur1 (o + j * d.sz) d.sz = cut cur (o + j * d.sz) d.sz := by
      apply cut_ext
      intro p hp1 hp2
      apply hcur
      rcases Nat.lt_or_ge j i with hlt | hge
      · have : (j + 1) * d.sz ≤ i * d.sz := Nat.mul_le_mul_right _ hlt
        rw [Nat.add_mul, Nat.one_mul] at this
        left; omega
      · have : (i + 1) * d.sz ≤ j * d.sz := Nat.mul_le_mul_right _ (by omega)
        rw [Nat.add_mul, Nat.one_mul] at this
        right; omega
    rw [he]
    have h1 := d.M_bound (hr j y hy)
    have h2 := d.M_move (w1 := w1) (fun k hk => hkeep k hk.2.2.1 hk.1.1.1 hk.1.1.2 (fun hF => hji (hk.1.2.symm.trans hF.2))) h1
    refine d.M_mono (fun k hk => ?_) h2
    obtain ⟨⟨⟨hok1, hkg⟩, hfk⟩, hbk, hlt, _⟩ := hk
    refine ⟨⟨hok k hok1, hkg⟩, ?_⟩
    have hn1 : ¬ F1 k := by
      intro hk
      rcases (hF1 k hk).1 with h3 | h3 | h3
      · exact hji (hfk.symm.trans h3.2)
      · omega
      · exact h3 hok1
    have hn2 : ¬ (w.heap.size ≤ k ∨ ¬ ok k) := by
      rintro (h3 | h3)
      · omega
      · exact h3 hok1
    show (if F1 k then i else if w.heap.size ≤ k ∨ ¬ ok k then i else f k) = j
    rw [if_neg hn1, if_neg hn2]
    exact hfk

theorem set_cut {cur : Array Value} {o sz j : Nat} {u : Value} (hj : j < sz) : cut (cur.setIfInBounds (o + j) u) o sz = (cut cur o sz).set j u := by
  unfold cut
  rw [Array.toList_setIfInBounds, ← List.set_drop, List.take_set]
theorem set_out {cur : Array Value} {p q : Nat} {u : Value} (h : q ≠ p) : (cur.setIfInBounds p u)[q]? = cur[q]? := Array.getElem?_setIfInBounds_ne (Ne.symm h)

theorem T_addr {A : Option Addr} {n c : Nat} (h : T d e w base ok (.slice A n c) xs) (hp : 0 < xs.length) : ∃ g o, A = some ⟨g, o, none⟩ := by
  obtain ⟨A', c', hv, hc, hm, h⟩ := h
  obtain ⟨g, o, _, _, hA, _⟩ := h hp
  injection hv with h1
  exact ⟨g, o, h1.trans hA⟩
theorem T_max (h : T d e w base ok v xs) : xs.length ≤ 9223372036854775807 := by
  obtain ⟨A', c', hv, hc, hm, h⟩ := h
  exact hm
/-- One cell of element i is written. -/
theorem T_store {g o n c : Nat} (h : T d e w base ok (.slice (some ⟨g, o, none⟩) n c) xs) (i j : Nat) (x x1 : α) (hx : xs[i]? = some x) (u : Value) (hj : j < d.sz)
    (hM : ∀ F cs, d.M w base F x cs → d.M w base F x1 (cs.set j u)) : T d e (w.setCell ⟨g, o + i * d.sz + j, none⟩ u) base ok (.slice (some ⟨g, o, none⟩) n c) (xs.set i x1) := by
  obtain ⟨g', o', c', cur, F, hv, hc, hg, hb, hh, hs, hF, hMx, hback⟩ := T_at h i x hx
  injection hv with h1 h2 h3
  injection h1 with h1
  injection h1 with h1 h4
  subst h1; subst h4; subst h2; subst h3
  have hset := blk_set hh (o + i * d.sz + j) u
  refine hback _ _ x1 F ok hset (by rw [Array.size_setIfInBounds]) (fun p hp => set_out (by omega)) (fun k _ _ hk _ => Below.heap_setCell w _ u k hk) (fun _ hk => hk) (fun k hk => ⟨.inl hk, hF k hk⟩) ?_
  rw [set_cut hj]
  exact Kd.M_step (hM F _ hMx) (fun k hk _ => Below.heap_setCell w _ u k (hF k hk).2)
theorem T_put1 {g o n c : Nat} (h : T d e w base ok (.slice (some ⟨g, o, none⟩) n c) xs) (i j : Nat) (x x1 : α) (hx : xs[i]? = some x) (u : Value) (hj : j < d.sz) (a : Nat) (ha : a = o + i * d.sz + j)
    (hM : ∀ F cs, d.M w base F x cs → d.M w base F x1 (cs.set j u)) : T d e (w.setCell ⟨g, a, none⟩ u) base ok (.slice (some ⟨g, o, none⟩) n c) (xs.set i x1) := by
  subst ha
  exact T_store h i j x x1 hx u hj hM
/-- What element i leads to has changed, its cells not. -/
theorem T_inner {g o n c : Nat} (h : T d e w base ok (.slice (some ⟨g, o, none⟩) n c) xs) (i : Nat) (x : α) (hx : xs[i]? = some x) :
    ∃ (F : Nat → Prop) (cs : List Value), (∀ k, F k → ok k ∧ k ≠ g) ∧ cs.length = d.sz ∧ (∀ j u, cs[j]? = some u → w.cell? ⟨g, o + i * d.sz + j, none⟩ = some u) ∧ (∀ j, w.frozen? ⟨g, j, none⟩ = false) ∧ d.M w base F x cs ∧ g < w.heap.size ∧ ok g ∧
      ∀ (w1 : World) (x1 : α), Kept w w1 F → d.M w1 base F x1 cs → T d e w1 base ok (.slice (some ⟨g, o, none⟩) n c) (xs.set i x1) := by
  obtain ⟨g', o', c', cur, F, hv, hc, hg, hb, hh, hs, hF, hMx, hback⟩ := T_at h i x hx
  injection hv with h1 h2 h3
  injection h1 with h1
  injection h1 with h1 h4
  subst h1; subst h4; subst h2; subst h3
  refine ⟨F, _, hF, cut_len hs, fun j u hu => cut_cell hh rfl hu, fun j => blk_frozen hh j, hMx, blk_lt hh, hg, fun w1 x1 hk hM1 => ?_⟩
  refine hback w1 cur x1 F ok (blk_kept hh hk (fun hgF => (hF g hgF).2 rfl)) rfl (fun _ _ => rfl) (fun k hlt _ _ hnF => hk.2 k hlt hnF) (fun _ hk => hk) (fun k hk => ⟨.inl hk, hF k hk⟩) hM1
end

/-- Such a row as a field. -/
def tsl {α : Type} (e : Nat) (d : Kd α) : Kd (List α) where
  sz := 1
  E := e :: d.E
  K := (Kd.slice e d).K
  M := fun w base ok xs cs => ∃ v, cs = [v] ∧ T d e w base ok v xs
  K_len := fun h => (Kd.slice e d).K_len h
  K_one := fun h => (Kd.slice e d).K_one h
  K_below := fun hb h => (Kd.slice e d).K_below hb h
  K_of_M := by
    rintro w base ok x cs ⟨v, rfl, h⟩
    obtain ⟨A, c, rfl, hl, hr⟩ := T_reads h
    exact ⟨A, c, rfl, hl, hr⟩
  M_mono := by
    rintro w base ok ok' x cs hok ⟨v, rfl, h⟩
    exact ⟨v, rfl, T_mono h hok⟩
  M_bound := by
    rintro w base ok x cs ⟨v, rfl, h⟩
    exact ⟨v, rfl, T_bound h⟩
  M_move := by
    rintro w w1 base ok x cs hm ⟨v, rfl, h⟩
    exact ⟨v, rfl, T_move h hm⟩
  M_lower := by
    rintro w base base' ok x cs hb ⟨v, rfl, h⟩
    exact ⟨v, rfl, T_lower h hb⟩
/-- The print's apart rows (which may be appended to) as a field. -/
def ssl {α : Type} (e : Nat) (d : Kd α) : Kd (List α) where
  sz := 1
  E := e :: d.E
  K := (Kd.slice e d).K
  M := fun w base ok xs cs => ∃ v, cs = [v] ∧ Kd.S d e w base ok v xs
  K_len := fun h => (Kd.slice e d).K_len h
  K_one := fun h => (Kd.slice e d).K_one h
  K_below := fun hb h => (Kd.slice e d).K_below hb h
  K_of_M := by
    rintro w base ok x cs ⟨v, rfl, h⟩
    obtain ⟨A, c, rfl, hl, hr⟩ := Kd.S_reads h
    exact ⟨A, c, rfl, hl, hr⟩
  M_mono := by
    rintro w base ok ok' x cs hok ⟨v, rfl, h⟩
    exact ⟨v, rfl, Kd.S_mono h hok⟩
  M_bound := by
    rintro w base ok x cs ⟨v, rfl, h⟩
    exact ⟨v, rfl, Kd.S_bound h⟩
  M_move := by
    rintro w w1 base ok x cs hm ⟨v, rfl, h⟩
    exact ⟨v, rfl, Kd.S_move h hm⟩
  M_lower := by
    rintro w base base' ok x cs hb ⟨v, rfl, h⟩
    exact ⟨v, rfl, Kd.S_lower h hb⟩
end Go.Proofs.YtmphkhkbegihaaaDoor.Tree
