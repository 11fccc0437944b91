/- The laws of the pointers, in plain Lean, the rest: FnPointer at drawn tokens; Clash. -/
import Derived.Test.YtmphkhkbegihaaaDoorPureB
namespace Go.Proofs.YtmphkhkbegihaaaDoor.PureC
open Go Go.RowKit Go.Proofs.YtmphkhkbegihaaaDoor.PPtr Go.Proofs.YtmphkhkbegihaaaDoor.PureA Go.Proofs.YtmphkhkbegihaaaDoor.PureB Go.Proofs.YtmphkhkbegihaaaDoor.Own Go.Proofs.YtmphkhkbegihaaaDoor.Plain Go.Proofs.YtmphkhkbegihaaaDoorW.PrintWords Go.Proofs.YtmphkhkbegihaaaDoorW.PrintLast Go.Proofs.YtmphkhkbegihaaaDoorW.PrintMore
set_option linter.unusedVariables false

/-! ### the drawn tokens -/
theorem next_f (s : List Int) (i : Int) (hs : ∀ x ∈ s, 0 ≤ x ∧ x ≤ 255) (h0 : 0 ≤ i) (h1 : i ≤ 1000000) : ∃ v j, spec_l1Rd_next.f s i = some (v, j) ∧ 0 ≤ v ∧ v ≤ 255 ∧ 0 ≤ j ∧ j ≤ i + 1 := by
  unfold spec_l1Rd_next.f
  by_cases h : i < (s.length : Int)
  · have hr : 0 ≤ rd s i ∧ rd s i ≤ 255 := by
      unfold rd
      rw [List.getD_eq_getElem?_getD]
      cases hg : s[i.toNat]? with
      | none => simp
      | some x => exact hs x (List.mem_of_getElem? hg)
    rw [if_pos h, if_pos h0, w64 (by omega) (by omega), w64 (by omega) (by omega)]
    exact ⟨_, _, rfl, hr.1, hr.2, by omega, by omega⟩
  · rw [if_neg h]
    exact ⟨_, _, rfl, by omega, by omega, h0, by omega⟩
theorem key_f (a : Int) (h0 : 0 ≤ a) (h1 : a ≤ 255) : ∃ r, spec_l1Key.f a = some r ∧ r.size ≤ 4 := by
  unfold spec_l1Key.f
  have h2 : 0 ≤ Int.tmod a 12 := by rw [Int.tmod_eq_emod_of_nonneg h0]; omega
  have h3 : Int.tmod a 12 < 12 := by rw [Int.tmod_eq_emod_of_nonneg h0]; omega
  generalize Int.tmod a 12 = m at h2 h3
  by_cases h : m < 4
  · have e : wrap64 (m + 1) = m + 1 := w64 (by omega) (by omega)
    rw [if_pos h, if_pos h2, e, if_pos (by omega), if_pos (by omega)]
    refine ⟨_, rfl, ?_⟩
    rw [ByteArray.size_extract]
    show min _ 4 - _ ≤ 4
    omega
  · rw [if_neg h]
    repeat' split
    all_goals exact ⟨_, rfl, by decide⟩
theorem toks_l0 (s : List Int) (hs : ∀ x ∈ s, 0 ≤ x ∧ x ≤ 255) (n : Int) (hn : n ≤ 5) : ∀ (d k : Nat) (i : Int) (acc : List ByteArray) (p : Int), (n - i).toNat = d → 0 ≤ i → i ≤ 5 → d < k → 0 ≤ p → p ≤ 1000 + i → (acc.length : Int) ≤ i → (∀ x ∈ acc, x.size ≤ 4) →
    ∃ r q, spec_l1Tokens.l0 k n acc i s p = some (r, q) ∧ r.length ≤ acc.length + d ∧ (∀ x ∈ r, x.size ≤ 4) ∧ 0 ≤ q ∧ q ≤ p + d
  | 0, k, i, acc, p, hd, hi, hi5, hk, hp, hp1, hal, ha => by
    obtain ⟨k, rfl⟩ : ∃ j, k = j + 1 := ⟨k - 1, by omega⟩
    unfold spec_l1Tokens.l0
    rw [if_neg (by omega)]
    exact ⟨acc, p, rfl, by omega, ha, hp, by omega⟩
  | d + 1, k, i, acc, p, hd, hi, hi5, hk, hp, hp1, hal, ha => by
    obtain ⟨k, rfl⟩ : ∃ j, k = j + 1 := ⟨k - 1, by omega⟩
    obtain ⟨v, j, hv, v0, v1, j0, j1⟩ := next_f s p hs hp (by omega)
    obtain ⟨t, ht, hts⟩ := key_f v v0 v1
    unfold spec_l1Tokens.l0
    rw [if_pos (by omega), hv]
    simp only [Option.bind_some]
    rw [ht]
    simp only [Option.bind_some]
    have e : wrap64 (i + 1) = i + 1 := w64 (by omega) (by omega)
    rw [if_pos (by omega), e]
    obtain ⟨r, q, h1, h2, h3, h4, h5⟩ := toks_l0 s hs n hn d k (i + 1) (acc ++ [t]) j (by omega) (by omega) (by omega) (by omega) j0 (by omega) (by simp; omega) (by
      intro x hx
      rcases List.mem_append.1 hx with hx | hx
      · exact ha x hx
      · rw [List.mem_singleton.1 hx]; exact hts)
    refine ⟨r, q, h1, ?_, h3, h4, by omega⟩
    simp at h2
    omega
theorem toks_f (s : List Int) (hs : ∀ x ∈ s, 0 ≤ x ∧ x ≤ 255) (p : Int) (hp : 0 ≤ p) (hp1 : p ≤ 100) (k : Nat) (hk : 20 ≤ k) :
    ∃ r q, spec_l1Tokens.f k s p = some (r, q) ∧ r.length ≤ 5 ∧ (∀ x ∈ r, x.size ≤ 4) ∧ 0 ≤ q ∧ q ≤ p + 10 := by
  obtain ⟨v, j, hv, v0, v1, j0, j1⟩ := next_f s p hs hp (by omega)
  unfold spec_l1Tokens.f
  rw [hv]
  simp only [Option.bind_some]
  have m1 : Int.tmod v 5 < 5 := by rw [Int.tmod_eq_emod_of_nonneg v0]; omega
  obtain ⟨r, q, h1, h2, h3, h4, h5⟩ := toks_l0 s hs (Int.tmod v 5) (by omega) (Int.tmod v 5 - 0).toNat k 0 [] j rfl (by omega) (by omega) (by omega) j0 (by omega) (by simp) (by simp)
  exact ⟨r, q, h1, by simp at h2; omega, h3, h4, by omega⟩
theorem szL_small : ∀ l : List ByteArray, (∀ x ∈ l, x.size ≤ 4) → szL l ≤ 5 * l.length
  | [], _ => by simp [szL]
  | t :: ts, h => by
    have := szL_small ts (fun x hx => h x (by simp [hx]))
    have := h t (by simp)
    rw [szL, List.length_cons]
    omega
theorem draw_f (l : List Int) (hs : ∀ x ∈ l, 0 ≤ x ∧ x ≤ 255) (k : Nat) (hk : 20 ≤ k) : ∃ r, spec_DrawPtrText.f k l = some r ∧ szL r ≤ 50 ∧ r.length ≤ 10 := by
  have ho : ∃ s, spec_l1Open.f l = some (s, 0) ∧ ∀ x ∈ s, 0 ≤ x ∧ x ≤ 255 := by
    unfold spec_l1Open.f
    by_cases h : (l.length : Int) > 1200
    · rw [if_pos h, if_pos (by omega)]
      exact ⟨_, rfl, fun x hx => hs x (List.mem_of_mem_take hx)⟩
    · rw [if_neg h]
      exact ⟨_, rfl, hs⟩
  obtain ⟨s, h1, h2⟩ := ho
  obtain ⟨r1, q1, t1, t2, t3, t4, t5⟩ := toks_f s h2 0 (by omega) (by omega) k hk
  obtain ⟨r2, q2, u1, u2, u3, u4, u5⟩ := toks_f s h2 q1 (by omega) (by omega) k hk
  unfold spec_DrawPtrText.f
  rw [h1]
  simp only [Option.bind_some]
  rw [t1]
  simp only [Option.bind_some]
  rw [u1]
  simp only [Option.bind_some]
  rw [if_pos (by omega)]
  refine ⟨_, rfl, ?_, by simp; omega⟩
  have := szL_small (r1 ++ r2) (fun x hx => (List.mem_append.1 hx).elim (t3 x) (u3 x))
  simp at this
  omega
theorem same4_loop (l : List ByteArray) (hl : l.length ≤ 140737488351232) : ∀ (d k i : Nat), l.length - i = d → i ≤ l.length → d < k → spec_l4Same.l0 k l l (i : Int) = some true
  | 0, k, i, hd, hi, hk => by
    obtain ⟨k, rfl⟩ : ∃ j, k = j + 1 := ⟨k - 1, by omega⟩
    unfold spec_l4Same.l0
    rw [if_neg (by omega)]
  | d + 1, k, i, hd, hi, hk => by
    obtain ⟨k, rfl⟩ : ∃ j, k = j + 1 := ⟨k - 1, by omega⟩
    have e2 : wrap64 ((i : Int) + 1) = ((i + 1 : Nat) : Int) := by rw [w64 (by omega) (by omega)]; omega
    unfold spec_l4Same.l0
    rw [if_pos (by omega), if_pos (by omega), if_pos (by omega), if_pos rfl, e2]
    exact same4_loop l hl d k (i + 1) (by omega) (by omega) (by omega)
theorem same4_f (l : List ByteArray) (hl : l.length ≤ 140737488351232) (k : Nat) (hk : l.length < k) : spec_SameTexts.f k l l = some true := by
  unfold spec_SameTexts.f spec_l4Same.f
  rw [if_pos rfl, show (0 : Int) = ((0 : Nat) : Int) from rfl, same4_loop l hl l.length k 0 (by omega) (by omega) hk]
  rfl
theorem szL_append : ∀ a b : List ByteArray, szL (a ++ b) = szL a + szL b
  | [], b => by simp [szL]
  | t :: ts, b => by rw [List.cons_append, szL, szL, szL_append ts b]; omega
def ptrB (l : List ByteArray) : ByteArray := ⟨(ptrL l).toArray⟩
theorem ptrB_size (l : List ByteArray) : (ptrB l).size ≤ 4 * szL l := by
  have := ptrL_le l
  rw [Lib.size_eq]
  exact this
theorem implPtrText (l : List ByteArray) (h : szL l ≤ 4194304) : impl_PtrText.f l = some (ptrB l) := by unfold impl_PtrText.f; rw [if_pos (show fitL l from h)]; rfl
theorem within_ptr (x y : List ByteArray) : withinF (ptrB x) (ptrB y) = nearF x y := by
  unfold withinF ptrB
  rw [tokF_ptr, tokF_ptr]
  simp
theorem fnPointer : laws_FnPointer.Pure := by
  intro l0 l1 _ _ w0 _ _ w1
  have b0 : ∀ x ∈ l0, 0 ≤ x ∧ x ≤ 255 := fun x hx => by have h := w0 x hx; simpa [Lit.wf, IntKind.min, IntKind.max, IntKind.signed, IntKind.bits] using h
  have b1 : ∀ x ∈ l1, 0 ≤ x ∧ x ≤ 255 := fun x hx => by have h := w1 x hx; simpa [Lit.wf, IntKind.min, IntKind.max, IntKind.signed, IntKind.bits] using h
  obtain ⟨K, hK⟩ : ∃ K : Nat, K = 10000 := ⟨_, rfl⟩
  refine ⟨K + 2, ?_⟩
  unfold laws_FnPointer.f
  by_cases h0 : (l0.length : Int) > 1048576
  · rw [if_pos h0, laws_FnPointer.j0, if_pos rfl]
  · rw [if_neg h0]
    by_cases h1 : (l1.length : Int) > 1048576
    · rw [laws_FnPointer.j0, if_pos (by simpa using h1)]
    · obtain ⟨h, hh, hz, hl⟩ := draw_f l0 b0 (K + 1) (by omega)
      obtain ⟨t, ht, tz, tl⟩ := draw_f l1 b1 (K + 1) (by omega)
      have hzt : szL (h ++ t) = szL h + szL t := szL_append h t
      have s1 := ptrB_size h
      have s2 := ptrB_size (h ++ t)
      rw [laws_FnPointer.j0, if_neg (by simpa using h1), hh]
      simp only [Option.bind_some]
      rw [ht]
      simp only [Option.bind_some, List.nil_append]
      rw [implPtrText h (by omega)]
      simp only [Option.bind_some]
      rw [if_pos (by simp; omega), if_pos (by omega), implPtrText (h ++ t) (by omega)]
      simp only [Option.bind_some]
      rw [implPtrTokens _ (by omega)]
      simp only [Option.bind_some]
      have ht2 : tokF (ptrB (h ++ t)) = (h ++ t, true) := tokF_ptr _
      rw [ht2]
      simp only [if_true]
      rw [same4_f _ (by simp; omega) _ (by simp; omega)]
      simp only [Option.bind_some]
      rw [laws_FnPointer.j1, if_neg (by decide), implWithin _ _ (by omega) (by omega) _ (by omega), implWithin _ _ (by omega) (by omega) _ (by omega), within_ptr, within_ptr]
      simp only [Option.bind_some]
      by_cases e : (t.length : Int) = 0
      · have : t = [] := List.length_eq_zero_iff.1 (by omega)
        subst this
        rw [if_pos e, List.append_nil]
        have : nearF h h = 1 := by unfold nearF; rw [if_pos (List.prefix_refl h), if_pos (List.prefix_refl h)]
        rw [this]; rfl
      · have p : h <+: h ++ t := List.prefix_append h t
        have q : ¬ (h ++ t) <+: h := fun z => by have := z.length_le; simp at this; omega
        have n1 : nearF h (h ++ t) = 2 := by unfold nearF; rw [if_pos p, if_neg q]
        have n2 : nearF (h ++ t) h = 3 := by unfold nearF; rw [if_neg q, if_pos p]
        rw [if_neg e, n1, n2]; rfl

/-! ### Clash -/
def hits (x : ByteArray) (ys : List ByteArray) : Bool := ys.any fun y => decide (withinF x y > 0)
theorem hits_cons (x y : ByteArray) (ys : List ByteArray) (α : Type) (a b : α) : (if hits x (y :: ys) = true then a else b) = if withinF x y > 0 then a else if hits x ys = true then a else b := by
  have e : hits x (y :: ys) = (decide (withinF x y > 0) || hits x ys) := rfl
  rw [e]
  generalize hits x ys = h
  generalize withinF x y = v
  by_cases hv : v > 0
  · rw [decide_eq_true hv, if_pos hv, Bool.true_or, if_pos rfl]
  · rw [decide_eq_false hv, if_neg hv, Bool.false_or]
def clashF (xs ys : List ByteArray) : Bool := if xs.length > 1000 then false else if ys.length > 1000 then false else xs.any fun x => hits x ys
theorem get_sz (l : List ByteArray) (i : Nat) (h : i < l.length) : l[i].size ≤ szL l := by
  have := szL_get l i h
  simpa [h] using this
theorem sc_inner (xs ys : List ByteArray) (hx : szL xs ≤ 1048576) (hy : szL ys ≤ 1048576) (i : Nat) (hi : i < xs.length) : ∀ (d m j : Nat), ys.length - j = d → j ≤ ys.length → 8000000 ≤ m →
    spec_Clash.l1 (m + d + 1) xs ys (i : Int) (j : Int) = if hits xs[i] (ys.drop j) then some true else spec_Clash.l0 m xs ys ((i + 1 : Nat) : Int)
  | 0, m, j, hd, hj, hm => by
    have lx := szL_eq xs
    have e2 : wrap64 ((i : Int) + 1) = ((i + 1 : Nat) : Int) := by rw [w64 (by omega) (by omega)]; omega
    rw [show m + 0 + 1 = m + 1 from rfl, spec_Clash.l1, if_neg (by omega), e2, List.drop_of_length_le (by omega)]
    rfl
  | d + 1, m, j, hd, hj, hm => by
    have ly := szL_eq ys
    have hjl : j < ys.length := by omega
    have hd' : ys.length - (j + 1) = d := by omega
    have e2 : wrap64 ((j : Int) + 1) = ((j + 1 : Nat) : Int) := by rw [w64 (by omega) (by omega)]; omega
    have g1 := get_sz xs i hi
    have g2 := get_sz ys j hjl
    have hw : spec_Within.f (m + d + 1) xs[i] ys[j] = some (withinF xs[i] ys[j]) := specWithin _ _ (Nat.le_trans g1 (Nat.le_trans hx (by decide))) (Nat.le_trans g2 (Nat.le_trans hy (by decide))) _ (by
      generalize xs[i].size = a at g1
      generalize ys[j].size = b at g2
      omega)
    have c1 : (j : Int) < (ys.length : Int) := Int.ofNat_lt.2 hjl
    have c2 : (0 : Int) ≤ (i : Int) := Int.natCast_nonneg i
    have c3 : (i : Int) < (xs.length : Int) := Int.ofNat_lt.2 hi
    have c4 : (0 : Int) ≤ (j : Int) := Int.natCast_nonneg j
    clear g1 g2
    rw [show m + (d + 1) + 1 = (m + d + 1) + 1 from rfl, spec_Clash.l1]
    rw [if_pos c1]
    rw [if_pos c2, if_pos c3, if_pos c4, rd_at xs i hi, rd_at ys j hjl, hw, e2]
    simp only [Option.bind_some]
    rw [sc_inner xs ys hx hy i hi d m (j + 1) hd' hjl hm, List.drop_eq_getElem_cons hjl, hits_cons]
theorem sc_outer (xs ys : List ByteArray) (hx : szL xs ≤ 1048576) (hy : szL ys ≤ 1048576) : ∀ (d k i : Nat), xs.length - i = d → i ≤ xs.length → 8000000 + d * (ys.length + 2) < k →
    spec_Clash.l0 k xs ys (i : Int) = some ((xs.drop i).any fun x => hits x ys)
  | 0, k, i, hd, hi, hk => by
    obtain ⟨k, rfl⟩ : ∃ j, k = j + 1 := ⟨k - 1, by omega⟩
    rw [spec_Clash.l0, if_neg (by omega), List.drop_of_length_le (by omega)]
    rfl
  | d + 1, k, i, hd, hi, hk => by
    have hil : i < xs.length := by omega
    rw [Nat.succ_mul] at hk
    obtain ⟨m, rfl⟩ : ∃ m, k = m + ys.length + 1 + 1 := ⟨k - ys.length - 2, by omega⟩
    rw [spec_Clash.l0, if_pos (by omega), show (0 : Int) = ((0 : Nat) : Int) from rfl, sc_inner xs ys hx hy i hil ys.length m 0 (by omega) (by omega) (by omega), List.drop_zero, sc_outer xs ys hx hy d m (i + 1) (by omega) (by omega) (by omega), List.drop_eq_getElem_cons hil, List.any_cons]
    cases hits xs[i] ys <;> simp
theorem specClash (xs ys : List ByteArray) (hx : szL xs ≤ 1048576) (hy : szL ys ≤ 1048576) (k : Nat) (hk : 10000000 ≤ k) : spec_Clash.f k xs ys = some (clashF xs ys) := by
  obtain ⟨k, rfl⟩ : ∃ j, k = j + 1 := ⟨k - 1, by omega⟩
  unfold spec_Clash.f clashF
  by_cases h1 : (xs.length : Int) > 1000
  · rw [if_pos h1, if_pos (by omega), spec_Clash.j0, if_pos rfl]
  · rw [if_neg h1, if_neg (by omega)]
    by_cases h2 : (ys.length : Int) > 1000
    · rw [if_pos (by omega), spec_Clash.j0, if_pos (by simpa using h2)]
    · have hm : xs.length * (ys.length + 2) ≤ 1000 * 1002 := Nat.mul_le_mul (by omega) (by omega)
      rw [if_neg (by omega), spec_Clash.j0, if_neg (by simpa using h2), show (0 : Int) = ((0 : Nat) : Int) from rfl, sc_outer xs ys hx hy xs.length k 0 (by omega) (by omega) (by omega), List.drop_zero]
theorem ic_inner (xs ys : List ByteArray) (hx : szL xs ≤ 1048576) (hy : szL ys ≤ 1048576) (i : Nat) (hi : i < xs.length) : ∀ (d m j : Nat), ys.length - j = d → j ≤ ys.length → 8000000 ≤ m →
    impl_Clash.l1 (m + d + 1) ys xs[i] xs (xs.length : Int) (i : Int) ys (ys.length : Int) (j : Int) = if hits xs[i] (ys.drop j) then some true else impl_Clash.l0 m ys xs (xs.length : Int) ((i + 1 : Nat) : Int)
  | 0, m, j, hd, hj, hm => by
    have lx := szL_eq xs
    have e2 : wrap64 ((i : Int) + 1) = ((i + 1 : Nat) : Int) := by rw [w64 (by omega) (by omega)]; omega
    rw [show m + 0 + 1 = m + 1 from rfl, impl_Clash.l1, if_neg (by omega), e2, List.drop_of_length_le (by omega)]
    rfl
  | d + 1, m, j, hd, hj, hm => by
    have ly := szL_eq ys
    have hjl : j < ys.length := by omega
    have hd' : ys.length - (j + 1) = d := by omega
    have e2 : wrap64 ((j : Int) + 1) = ((j + 1 : Nat) : Int) := by rw [w64 (by omega) (by omega)]; omega
    have g1 := get_sz xs i hi
    have g2 := get_sz ys j hjl
    have hw : impl_Within.f (m + d + 1) xs[i] ys[j] = some (withinF xs[i] ys[j]) := implWithin _ _ (Nat.le_trans g1 (Nat.le_trans hx (by decide))) (Nat.le_trans g2 (Nat.le_trans hy (by decide))) _ (by
      generalize xs[i].size = a at g1
      generalize ys[j].size = b at g2
      omega)
    have c1 : (j : Int) < (ys.length : Int) := Int.ofNat_lt.2 hjl
    have c4 : (0 : Int) ≤ (j : Int) := Int.natCast_nonneg j
    clear g1 g2
    rw [show m + (d + 1) + 1 = (m + d + 1) + 1 from rfl, impl_Clash.l1, if_pos c1, if_pos c4, if_pos c1, rd_at ys j hjl, hw, e2]
    simp only [Option.bind_some]
    rw [ic_inner xs ys hx hy i hi d m (j + 1) hd' hjl hm, List.drop_eq_getElem_cons hjl, hits_cons]
theorem ic_outer (xs ys : List ByteArray) (hx : szL xs ≤ 1048576) (hy : szL ys ≤ 1048576) : ∀ (d k i : Nat), xs.length - i = d → i ≤ xs.length → 8000000 + d * (ys.length + 2) < k →
    impl_Clash.l0 k ys xs (xs.length : Int) (i : Int) = some ((xs.drop i).any fun x => hits x ys)
  | 0, k, i, hd, hi, hk => by
    obtain ⟨k, rfl⟩ : ∃ j, k = j + 1 := ⟨k - 1, by omega⟩
    rw [impl_Clash.l0, if_neg (by omega), List.drop_of_length_le (by omega)]
    rfl
  | d + 1, k, i, hd, hi, hk => by
    have hil : i < xs.length := by omega
    rw [Nat.succ_mul] at hk
    obtain ⟨m, rfl⟩ : ∃ m, k = m + ys.length + 1 + 1 := ⟨k - ys.length - 2, by omega⟩
    rw [impl_Clash.l0, if_pos (by omega), if_pos (by omega), if_pos (by omega), rd_at xs i hil, show (0 : Int) = ((0 : Nat) : Int) from rfl, ic_inner xs ys hx hy i hil ys.length m 0 (by omega) (by omega) (by omega), List.drop_zero, ic_outer xs ys hx hy d m (i + 1) (by omega) (by omega) (by omega), List.drop_eq_getElem_cons hil, List.any_cons]
    cases hits xs[i] ys <;> simp
theorem implClash (xs ys : List ByteArray) (hx : szL xs ≤ 1048576) (hy : szL ys ≤ 1048576) (k : Nat) (hk : 10000000 ≤ k) : impl_Clash.f k xs ys = some (clashF xs ys) := by
  obtain ⟨k, rfl⟩ : ∃ j, k = j + 1 := ⟨k - 1, by omega⟩
  unfold impl_Clash.f clashF
  by_cases h1 : (xs.length : Int) > 1000
  · rw [if_pos h1, if_pos (by omega), impl_Clash.j0, if_pos rfl]
  · rw [if_neg h1, if_neg (by omega)]
    by_cases h2 : (ys.length : Int) > 1000
    · rw [if_pos (by omega), impl_Clash.j0, if_pos (by simpa using h2)]
    · have hm : xs.length * (ys.length + 2) ≤ 1000 * 1002 := Nat.mul_le_mul (by omega) (by omega)
      rw [if_neg (by omega), impl_Clash.j0, if_neg (by simpa using h2), show (0 : Int) = ((0 : Nat) : Int) from rfl, ic_outer xs ys hx hy xs.length k 0 (by omega) (by omega) (by omega), List.drop_zero]
theorem fnExactClash (xs ys : List ByteArray) (hx : xs.length ≤ 9223372036854775807) (hbx : ∀ x ∈ xs, x.size ≤ 9223372036854775807) (hy : ys.length ≤ 9223372036854775807) (hby : ∀ x ∈ ys, x.size ≤ 9223372036854775807) : ∃ k, laws_FnExactClash.f k xs ys = some true := by
  obtain ⟨K, hK⟩ : ∃ K : Nat, K = 10000000 + xs.length + ys.length := ⟨_, rfl⟩
  refine ⟨K, ?_⟩
  have lx := szL_eq xs
  have ly := szL_eq ys
  unfold laws_FnExactClash.f
  rw [sz_f xs hx hbx _ (by omega) 1048576 (by omega) (by omega)]
  simp only [Option.bind_some]
  by_cases h : (szL xs : Int) ≤ 1048576
  · rw [if_pos h, if_neg (by omega), sz_f ys hy hby _ (by omega) _ (by omega) (by omega)]
    simp only [Option.bind_some]
    by_cases h2 : (szL ys : Int) ≤ 1048576 - szL xs
    · rw [if_pos h2, if_neg (by omega), to_f xs (by omega) _ (by omega), to_f ys (by omega) _ (by omega)]
      simp only [Option.bind_some]
      rw [specClash xs ys (by omega) (by omega) _ (by omega), implClash xs ys (by omega) (by omega) _ (by omega)]
      simp only [Option.bind_some, bne_self_eq_false]
      rw [if_neg (by decide), eq_f xs (by omega) _ (by omega), eq_f ys (by omega) _ (by omega)]
      rfl
    · rw [if_neg h2, if_pos (by decide)]
  · rw [if_neg h, if_pos (by decide)]
end Go.Proofs.YtmphkhkbegihaaaDoor.PureC
