/- The laws of the pointers, in plain Lean: what each law's function gives is true. -/
import Derived.Test.YtmphkhkbegihaaaDoorPPtrx
import Derived.Test.YtmphkhkbegihaaaDoorPureA
namespace Go.Proofs.YtmphkhkbegihaaaDoor.PureB
open Go Go.RowKit Go.Proofs.YtmphkhkbegihaaaDoor.PPtr Go.Proofs.YtmphkhkbegihaaaDoor.PureA Go.Proofs.YtmphkhkbegihaaaDoor.Own Go.Proofs.YtmphkhkbegihaaaDoor.Plain Go.Proofs.YtmphkhkbegihaaaDoorW.PrintWords Go.Proofs.YtmphkhkbegihaaaDoorW.PrintLast Go.Proofs.YtmphkhkbegihaaaDoorW.PrintMore
set_option linter.unusedVariables false

/-! ### marks -/
theorem mk_ex : ∀ (k : Nat) (x : Int) (acc : ByteArray), 0 ≤ x → x.toNat < k → x.toNat + acc.size ≤ 4611686018427387904 → ∃ r, laws_markText.l0 k x acc = some r
  | 0, x, acc, h0, hk, ha => by omega
  | k + 1, x, acc, h0, hk, ha => by
    unfold laws_markText.l0
    by_cases hx : x > 0
    · have hsz : ∀ c : Int, (strOfNums [c]).size = 1 := fun c => rfl
      have e : wrap64 (Int.tdiv x 10) = x / 10 := by
        rw [Int.tdiv_eq_ediv_of_nonneg h0]; exact w64 (by omega) (by omega)
      rw [if_pos hx]
      simp only [Option.bind_some]
      rw [hsz, if_pos (by omega), e]
      refine mk_ex k _ _ (by omega) (by omega) ?_
      rw [ByteArray.size_append, hsz]
      omega
    · rw [if_neg hx, if_pos (by omega)]
      exact ⟨_, rfl⟩
def mk (n : Int) : ByteArray := (laws_markText.f (n.toNat + 1) n).getD ByteArray.empty
theorem mk_f (n : Int) (h0 : 0 ≤ n) (h1 : n ≤ 1099511627776) (k : Nat) (hk : n.toNat < k) : laws_markText.f k n = some (mk n) := by
  have he : ∃ r, laws_markText.f (n.toNat + 1) n = some r := by
    unfold laws_markText.f
    by_cases hn : n ≤ 0
    · rw [if_pos hn]; exact ⟨_, rfl⟩
    · rw [if_neg hn]; exact mk_ex _ n _ h0 (by omega) (by simp [ByteArray.size]; omega)
  obtain ⟨r, hr⟩ := he
  have hm : mk n = r := by unfold mk; rw [hr]; rfl
  have : ∀ j, laws_markText.f (n.toNat + 1 + j) n = some r := by
    intro j
    induction j with
    | zero => exact hr
    | succ j ih => exact laws_markText.mono n _ _ ih
  rw [hm, ← this (k - (n.toNat + 1))]
  congr 1
  omega
def marks (n : Int) : Nat → List ByteArray
  | 0 => []
  | d + 1 => mk n :: marks (n + 1) d
theorem mark_loop : ∀ (d k i : Nat) (n : Int) (xs : List ByteArray), xs.length - i = d → i ≤ xs.length → n.toNat + 2 * d + 2 ≤ k → 0 ≤ n → n + d ≤ 1099511627776 → xs.length ≤ 1099511627776 →
    laws_markStringS.l0 k xs n (i : Int) = some (n + d, xs.take i ++ marks n d)
  | 0, k, i, n, xs, hd, hi, hk, h0, h1, hx1 => by
    obtain ⟨k, rfl⟩ : ∃ j, k = j + 1 := ⟨k - 1, by omega⟩
    unfold laws_markStringS.l0
    rw [if_neg (by omega), List.take_of_length_le (by omega)]
    simp [marks]
  | d + 1, k, i, n, xs, hd, hi, hk, h0, h1, hxl => by
    obtain ⟨k, rfl⟩ : ∃ j, k = j + 1 := ⟨k - 1, by omega⟩
    have e1 : wrap64 (n + 1) = n + 1 := w64 (by omega) (by omega)
    have e2 : wrap64 ((i : Int) + 1) = ((i + 1 : Nat) : Int) := by rw [w64 (by omega) (by omega)]; omega
    unfold laws_markStringS.l0
    rw [if_pos (by omega), mk_f n h0 (by omega) k (by omega)]
    simp only [Option.bind_some]
    have hil : i < xs.length := by omega
    rw [if_pos (by omega), e1, e2, Int.toNat_natCast, mark_loop d k (i + 1) (n + 1) _ (by simp; omega) (by simp; omega) (by omega) (by omega) (by omega) (by simpa using hxl)]
    rw [List.take_succ_eq_append_getElem (by simpa using hil), List.take_set_of_le (Nat.le_refl i), List.append_assoc]
    simp [marks]
    omega
theorem mark_f (xs : List ByteArray) (k : Nat) (hk : 2 * xs.length + 3 ≤ k) (hl : xs.length ≤ 1000000000) : laws_markStringS.f k xs 1 = some (1 + (xs.length : Int), marks 1 xs.length) := by
  unfold laws_markStringS.f
  rw [show (0 : Int) = ((0 : Nat) : Int) from rfl, mark_loop xs.length k 0 1 xs (by omega) (by omega) (by omega) (by omega) (by omega) (by omega)]
  simp
theorem held_loop : ∀ (d k i : Nat) (n : Int) (xs : List ByteArray), xs.length - i = d → i ≤ xs.length → n.toNat + 2 * d + 2 ≤ k → 0 ≤ n → n + d ≤ 1099511627776 → xs.length ≤ 1099511627776 → xs.drop i = marks n d →
    laws_heldStringS.l0 k xs n (i : Int) = some (n + d)
  | 0, k, i, n, xs, hd, hi, hk, h0, h1, hxl, hx => by
    obtain ⟨k, rfl⟩ : ∃ j, k = j + 1 := ⟨k - 1, by omega⟩
    unfold laws_heldStringS.l0
    rw [if_neg (by omega)]
    simp
  | d + 1, k, i, n, xs, hd, hi, hk, h0, h1, hxl, hx => by
    obtain ⟨k, rfl⟩ : ∃ j, k = j + 1 := ⟨k - 1, by omega⟩
    have e1 : wrap64 (n + 1) = n + 1 := w64 (by omega) (by omega)
    have e2 : wrap64 ((i : Int) + 1) = ((i + 1 : Nat) : Int) := by rw [w64 (by omega) (by omega)]; omega
    have hil : i < xs.length := by omega
    rw [List.drop_eq_getElem_cons hil, marks] at hx
    injection hx with hx1 hx2
    unfold laws_heldStringS.l0
    rw [if_pos (by omega), mk_f n h0 (by omega) k (by omega)]
    simp only [Option.bind_some]
    rw [if_pos (by omega), rd_at xs i hil, hx1, if_pos rfl, e1, e2, held_loop d k (i + 1) (n + 1) xs (by omega) (by omega) (by omega) (by omega) (by omega) hxl hx2]
    congr 1; omega
theorem marks_len : ∀ (d : Nat) (n : Int), (marks n d).length = d
  | 0, _ => rfl
  | d + 1, n => by rw [marks, List.length_cons, marks_len d]
theorem held_f (m : Nat) (k : Nat) (hk : 2 * m + 3 ≤ k) (hl : m ≤ 1000000000) : laws_heldStringS.f k (marks 1 m) 1 = some (1 + (m : Int)) := by
  unfold laws_heldStringS.f
  have := marks_len m 1
  rw [show (0 : Int) = ((0 : Nat) : Int) from rfl, held_loop m k 0 1 (marks 1 m) (by omega) (by omega) (by omega) (by omega) (by omega) (by omega) (by rw [List.drop_zero])]

/-! ### sizes of the tokens -/
theorem splitL_len : ∀ l : List UInt8, (splitL l).length ≤ l.length + 1
  | [] => by simp [splitL]
  | c :: l => by
    have ih := splitL_len l
    unfold splitL
    split
    · simp; omega
    · split
      · simp
      · rename_i h t e
        rw [e] at ih
        simp at ih ⊢; omega
theorem R_len : ∀ (ps : List (List UInt8)) (acc : List ByteArray), (R acc ps).1.length ≤ acc.length + ps.length
  | [], acc => by simp [R]
  | p :: ps, acc => by
    unfold R
    split
    · simp
    · rename_i r _
      have := R_len ps (acc ++ [⟨r.toArray⟩])
      simp at this ⊢; omega
theorem tokF_len (a : ByteArray) : (tokF a).1.length ≤ a.size := by
  unfold tokF
  split
  · simp
  · split
    · have h1 := R_len (splitL (a.data.toList.drop 1)) []
      have h2 := splitL_len (a.data.toList.drop 1)
      rw [List.length_drop, dl_len] at h2
      rw [List.length_nil] at h1
      omega
    · simp

theorem fnExactPtrText (l : List ByteArray) (hl : l.length ≤ 9223372036854775807) (hb : ∀ x ∈ l, x.size ≤ 9223372036854775807) : ∃ k, laws_FnExactPtrText.f k l = some true := by
  refine ⟨3000000 + l.length, ?_⟩
  unfold laws_FnExactPtrText.f
  rw [sz_f l hl hb _ (by omega) 1048576 (by omega) (by omega)]
  simp only [Option.bind_some]
  by_cases h : (szL l : Int) ≤ 1048576
  · have hle := szL_eq l
    rw [if_pos h, if_neg (by omega), to_f l (by omega) _ (by omega)]
    simp only [Option.bind_some]
    rw [specPtrText l (by omega) _ (by omega)]
    simp only [Option.bind_some]
    have hi : impl_PtrText.f l = some ⟨(ptrL l).toArray⟩ := by unfold impl_PtrText.f; rw [if_pos (by unfold fitL; omega)]
    rw [hi]
    simp only [Option.bind_some]
    simp only [if_true]
    rw [eq_f l (by omega) _ (by omega)]
    rfl
  · rw [if_neg h, if_pos (by decide)]
theorem fnExactPtrTokens : laws_FnExactPtrTokens.Pure := by
  intro a ha
  refine ⟨4000000 + 2, ?_⟩
  unfold laws_FnExactPtrTokens.f
  by_cases h : (a.size : Int) > 1048576
  · rw [if_pos h]
  · have hlen := tokF_len a
    rw [if_neg h, specPtrTokens a (by omega) _ (by omega), implPtrTokens a (by omega)]
    simp only [Option.bind_some]
    rw [eq_f _ (by omega) _ (by omega)]
    simp only [Option.bind_some, if_true, bne_self_eq_false]
    rw [laws_FnExactPtrTokens.j0, if_neg (by decide), mark_f _ _ (by omega) (by omega)]
    simp only [Option.bind_some]
    rw [held_f _ _ (by omega) (by omega)]
    simp only [Option.bind_some]
    rw [if_neg (by omega), implPtrTokens a (by omega)]
    simp only [Option.bind_some, if_true]
    rw [eq_f _ (by omega) _ (by omega)]
    simp only [Option.bind_some, if_true, bne_self_eq_false]
    rw [laws_FnExactPtrTokens.j1, if_neg (by decide), held_f _ _ (by omega) (by omega)]
    simp only [Option.bind_some, if_true]
    rw [if_neg (by omega)]

/-! ### nearness -/
theorem tl_eq {x y : ByteArray} : x.toList = y.toList ↔ x = y := by
  constructor
  · intro h; rw [Lib.toList_data, Lib.toList_data] at h; exact ByteArray.ext (Array.toList_inj.1 h)
  · intro h; rw [h]
theorem heads_loop (x y : List ByteArray) (hl : x.length ≤ y.length) (hy : y.length ≤ 140737488351232) : ∀ (d k i : Nat), x.length - i = d → i ≤ x.length → d < k →
    spec_l1Heads.l0 k x y (i : Int) = some (decide (x.drop i <+: y.drop i))
  | 0, k, i, hd, hi, hk => by
    obtain ⟨k, rfl⟩ : ∃ j, k = j + 1 := ⟨k - 1, by omega⟩
    unfold spec_l1Heads.l0
    rw [if_neg (by omega), List.drop_of_length_le (i := i) (l := x) (by omega)]
    simp
  | d + 1, k, i, hd, hi, hk => by
    obtain ⟨k, rfl⟩ : ∃ j, k = j + 1 := ⟨k - 1, by omega⟩
    have e2 : wrap64 ((i : Int) + 1) = ((i + 1 : Nat) : Int) := by rw [w64 (by omega) (by omega)]; omega
    have hx : i < x.length := by omega
    have hy' : i < y.length := by omega
    unfold spec_l1Heads.l0
    rw [if_pos (by omega), if_pos (by omega), if_pos (by omega), rd_at x i hx, rd_at y i hy', e2, List.drop_eq_getElem_cons hx, List.drop_eq_getElem_cons hy']
    by_cases h : x[i] = y[i]
    · rw [if_pos (tl_eq.2 h), heads_loop x y hl hy d k (i + 1) (by omega) (by omega) (by omega)]
      congr 1
      rw [decide_eq_decide, List.cons_prefix_cons]
      exact ⟨fun z => ⟨h, z⟩, fun z => z.2⟩
    · rw [if_neg (fun z => h (tl_eq.1 z))]
      congr 1
      symm
      rw [decide_eq_false_iff_not, List.cons_prefix_cons]
      exact fun z => h z.1
theorem heads_f (x y : List ByteArray) (hx : x.length ≤ 140737488351232) (hy : y.length ≤ 140737488351232) (k : Nat) (hk : x.length < k) : spec_l1Heads.f k x y = some (decide (x <+: y)) := by
  unfold spec_l1Heads.f
  by_cases h : (x.length : Int) > (y.length : Int)
  · rw [if_pos h]
    congr 1
    symm
    rw [decide_eq_false_iff_not]
    exact fun z => by have := z.length_le; omega
  · have := heads_loop x y (by omega) hy x.length k 0 (by omega) (by omega) hk
    rw [if_neg h, show (0 : Int) = ((0 : Nat) : Int) from rfl, this, List.drop_zero, List.drop_zero]
theorem same_loop (x y : List ByteArray) (hl : x.length = y.length) (hy : y.length ≤ 140737488351232) : ∀ (d k i : Nat), x.length - i = d → i ≤ x.length → d < k →
    slices_Equal_string_string.l0 k x y (x.length : Int) (i : Int) = some (decide (x.drop i = y.drop i))
  | 0, k, i, hd, hi, hk => by
    obtain ⟨k, rfl⟩ : ∃ j, k = j + 1 := ⟨k - 1, by omega⟩
    unfold slices_Equal_string_string.l0
    rw [if_neg (by omega), List.drop_of_length_le (i := i) (l := x) (by omega), List.drop_of_length_le (i := i) (l := y) (by omega)]
    simp
  | d + 1, k, i, hd, hi, hk => by
    obtain ⟨k, rfl⟩ : ∃ j, k = j + 1 := ⟨k - 1, by omega⟩
    have e2 : wrap64 ((i : Int) + 1) = ((i + 1 : Nat) : Int) := by rw [w64 (by omega) (by omega)]; omega
    have hx : i < x.length := by omega
    have hy' : i < y.length := by omega
    unfold slices_Equal_string_string.l0
    rw [if_pos (by omega), if_pos (by omega), if_pos (by omega), if_pos (by omega), rd_at x i hx, rd_at y i hy', e2, List.drop_eq_getElem_cons hx, List.drop_eq_getElem_cons hy']
    by_cases h : x[i] = y[i]
    · rw [if_pos (tl_eq.2 h), same_loop x y hl hy d k (i + 1) (by omega) (by omega) (by omega)]
      congr 1
      rw [decide_eq_decide, List.cons.injEq]
      exact ⟨fun z => ⟨h, z⟩, fun z => z.2⟩
    · rw [if_neg (fun z => h (tl_eq.1 z))]
      congr 1
      symm
      rw [decide_eq_false_iff_not, List.cons.injEq]
      exact fun z => h z.1
theorem same_f (x y : List ByteArray) (hx : x.length ≤ 140737488351232) (hy : y.length ≤ 140737488351232) (k : Nat) (hk : x.length < k) : slices_Equal_string_string.f k x y = some (decide (x = y)) := by
  unfold slices_Equal_string_string.f
  by_cases h : (x.length : Int) = (y.length : Int)
  · have := same_loop x y (by omega) hy x.length k 0 (by omega) (by omega) hk
    rw [if_pos h, show (0 : Int) = ((0 : Nat) : Int) from rfl, this, List.drop_zero, List.drop_zero]
  · rw [if_neg h]
    congr 1
    symm
    rw [decide_eq_false_iff_not]
    rintro rfl
    exact h rfl

def nearF (x y : List ByteArray) : Int := if x <+: y then (if y <+: x then 1 else 2) else if y <+: x then 3 else 0
def withinF (a b : ByteArray) : Int := if (tokF a).2 = true then (if (tokF b).2 = true then nearF (tokF a).1 (tokF b).1 else -1) else -1
theorem specWithin (a b : ByteArray) (ha : a.size ≤ 4194304) (hb : b.size ≤ 4194304) (k : Nat) (hk : 3 * a.size + 3 * b.size + 10 ≤ k) : spec_Within.f k a b = some (withinF a b) := by
  obtain ⟨k, rfl⟩ : ∃ j, k = j + 2 := ⟨k - 2, by omega⟩
  have la := tokF_len a
  have lb := tokF_len b
  unfold spec_Within.f withinF
  rw [specPtrTokens a ha _ (by omega), specPtrTokens b hb _ (by omega)]
  simp only [Option.bind_some]
  by_cases h1 : (tokF a).2 = true
  · rw [if_pos h1, if_pos h1]
    by_cases h2 : (tokF b).2 = true
    · rw [if_pos h2, h2, spec_Within.j0, if_neg (by decide), heads_f _ _ (by omega) (by omega) _ (by omega), heads_f _ _ (by omega) (by omega) _ (by omega)]
      simp only [Option.bind_some]
      unfold nearF
      by_cases p : (tokF a).1 <+: (tokF b).1 <;> by_cases q : (tokF b).1 <+: (tokF a).1
      · simp [p, q, spec_Within.j1]
      · simp [p, q, spec_Within.j1, heads_f _ _ (show (tokF a).1.length ≤ 140737488351232 by omega) (show (tokF b).1.length ≤ 140737488351232 by omega) k (by omega)]
      · simp [p, q, spec_Within.j1, heads_f _ _ (show (tokF a).1.length ≤ 140737488351232 by omega) (show (tokF b).1.length ≤ 140737488351232 by omega) k (by omega), heads_f _ _ (show (tokF b).1.length ≤ 140737488351232 by omega) (show (tokF a).1.length ≤ 140737488351232 by omega) k (by omega)]
      · simp [p, q, spec_Within.j1, heads_f _ _ (show (tokF a).1.length ≤ 140737488351232 by omega) (show (tokF b).1.length ≤ 140737488351232 by omega) k (by omega), heads_f _ _ (show (tokF b).1.length ≤ 140737488351232 by omega) (show (tokF a).1.length ≤ 140737488351232 by omega) k (by omega)]
    · rw [if_neg h2, show (!(tokF b).2) = true by simp [h2], spec_Within.j0, if_pos rfl]
  · rw [if_neg h1, if_neg h1, spec_Within.j0, if_pos rfl]
theorem near_by (x y : List ByteArray) : (if x.take (mn (x.length : Int) (y.length : Int)).toNat = y.take (mn (x.length : Int) (y.length : Int)).toNat then (if (x.length : Int) = (y.length : Int) then (1 : Int) else if (x.length : Int) < (y.length : Int) then 2 else 3) else 0) = nearF x y := by
  unfold mn nearF
  by_cases h : (y.length : Int) < (x.length : Int)
  · have hxy : ¬ x <+: y := fun z => by have := z.length_le; omega
    rw [if_pos h, Int.toNat_natCast, List.take_length, if_neg hxy, if_neg (show ¬ (x.length : Int) = y.length by omega), if_neg (show ¬ (x.length : Int) < y.length by omega)]
    by_cases q : y <+: x
    · rw [if_pos q, if_pos (List.prefix_iff_eq_take.1 q).symm]
    · rw [if_neg q, if_neg (fun e => q (List.prefix_iff_eq_take.2 e.symm))]
  · rw [if_neg h, Int.toNat_natCast, List.take_length]
    by_cases p : x <+: y
    · rw [if_pos p, if_pos (List.prefix_iff_eq_take.1 p)]
      by_cases e : (x.length : Int) = y.length
      · have : x = y := p.eq_of_length (by omega)
        subst this
        rw [if_pos rfl, if_pos (List.prefix_refl x)]
      · have q : ¬ y <+: x := fun z => by have := z.length_le; omega
        rw [if_neg e, if_pos (by omega), if_neg q]
    · have q : ¬ y <+: x := fun z => by
        have := z.length_le
        have : y = x := z.eq_of_length (by omega)
        exact p (this ▸ List.prefix_refl y)
      rw [if_neg p, if_neg (fun e => p (List.prefix_iff_eq_take.2 e)), if_neg q]
theorem implWithin (a b : ByteArray) (ha : a.size ≤ 4194304) (hb : b.size ≤ 4194304) (k : Nat) (hk : a.size + b.size + 10 ≤ k) : impl_Within.f k a b = some (withinF a b) := by
  obtain ⟨k, rfl⟩ : ∃ j, k = j + 2 := ⟨k - 2, by omega⟩
  have la := tokF_len a
  have lb := tokF_len b
  unfold impl_Within.f withinF
  rw [implPtrTokens a ha, implPtrTokens b hb]
  simp only [Option.bind_some]
  by_cases h1 : (tokF a).2 = true
  · rw [if_pos h1, if_pos h1]
    by_cases h2 : (tokF b).2 = true
    · have m0 : 0 ≤ mn ((tokF a).1.length : Int) ((tokF b).1.length : Int) := by unfold mn; split <;> omega
      have m1 : mn ((tokF a).1.length : Int) ((tokF b).1.length : Int) ≤ ((tokF a).1.length : Int) := by unfold mn; split <;> omega
      have m2 : mn ((tokF a).1.length : Int) ((tokF b).1.length : Int) ≤ ((tokF b).1.length : Int) := by unfold mn; split <;> omega
      rw [if_pos h2, h2, impl_Within.j0, if_neg (by decide), if_pos m0, if_pos m1, if_pos m2, same_f _ _ (by rw [List.length_take]; omega) (by rw [List.length_take]; omega) _ (by rw [List.length_take]; omega), ← near_by]
      simp only [Option.bind_some, decide_eq_true_eq]
      split
      · split
        · rfl
        · split <;> rfl
      · rfl
    · rw [if_neg h2, show (!(tokF b).2) = true by simp [h2], impl_Within.j0, if_pos rfl]
  · rw [if_neg h1, if_neg h1, impl_Within.j0, if_pos rfl]
theorem fnExactWithin : laws_FnExactWithin.Pure := by
  intro a b ha hb
  refine ⟨8000000, ?_⟩
  unfold laws_FnExactWithin.f
  by_cases h1 : (a.size : Int) > 1048576
  · rw [if_pos h1]
  · rw [if_neg h1]
    by_cases h2 : (b.size : Int) > 1048576
    · rw [if_pos h2]
    · rw [if_neg h2, specWithin a b (by omega) (by omega) _ (by omega), implWithin a b (by omega) (by omega) _ (by omega)]
      simp only [Option.bind_some, if_true]
end Go.Proofs.YtmphkhkbegihaaaDoor.PureB
