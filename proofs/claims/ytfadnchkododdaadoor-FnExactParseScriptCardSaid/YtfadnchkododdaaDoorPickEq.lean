/- spec.l6Picks over its print; a line's two readings against impl's line. -/
import Derived.Test.YtfadnchkododdaaDoorCallEq
import Derived.Test.YtfadnchkododdaaDoorLineF
namespace Go.Proofs.YtfadnchkododdaaDoor.Ps
open Go Go.RowKit Go.Proofs.YtfadnchkododdaaDoorW.PrintWords Go.Proofs.YtfadnchkododdaaDoor.PPs
set_option linter.unusedVariables false
set_option linter.unusedSimpArgs false

abbrev p5 : List UInt8 := [112, 105, 99, 107, 115]
/-- A byte of a pick. -/
def goodP (c : UInt8) : Prop := c = 100 ∨ (48 ≤ c.toNat ∧ c.toNat ≤ 55)
instance (c : UInt8) : Decidable (goodP c) := by unfold goodP; infer_instance
def numP (c : UInt8) : Int := if c = 100 then 8 else ((c.toNat : Int) - 48) % 256
def pickP (acc : List Int) : List UInt8 → List Int × Bool
  | [] => (acc, true)
  | [_] => (acc, false)
  | a :: c :: r => if a = 32 ∧ goodP c then pickP (acc ++ [numP c]) r else (acc, false)
theorem picks_loop (t : List UInt8) (ht : t.length ≤ 1048576) : ∀ (m i k : Nat) (acc : List Int), i + 2 * m = t.length → 2 * m + 1 ≤ k → acc.length + m < 17592186044416 →
    spec_l6Picks.l0 k acc (bb t) (i : Int) = some (pickP acc (t.drop i))
  | 0, i, k, acc, hi, hk, ha => by
    obtain ⟨k, rfl⟩ : ∃ j, k = j + 1 := ⟨k - 1, by omega⟩
    rw [spec_l6Picks.l0, bb_size, if_neg (by omega), List.drop_of_length_le (by omega)]
    rfl
  | m + 1, i, k, acc, hi, hk, ha => by
    obtain ⟨k, rfl⟩ : ∃ j, k = j + 2 := ⟨k - 2, by omega⟩
    have e1 : wrap64 ((i : Int) + 1) = ((i + 1 : Nat) : Int) := by rw [wrapn _ (by omega) (by omega)]; omega
    have e2 : wrap64 ((i : Int) + 2) = ((i + 2 : Nat) : Int) := by rw [wrapn _ (by omega) (by omega)]; omega
    have ih := fun acc' h => picks_loop t ht m (i + 2) k acc' (by omega) (by omega) h
    rw [spec_l6Picks.l0, bb_size, if_pos (by omega), e1, if_pos (by omega), if_pos (by omega), if_pos (by omega), bb_bt, bb_bt, drop_at t i (by omega), drop_at t (i + 1) (by omega)]
    generalize t.getD i 0 = a
    generalize t.getD (i + 1) 0 = c
    rw [pickP]
    by_cases h32 : a = 32
    · rw [if_pos ((u8i a 32 32 rfl).2 h32)]
      by_cases h100 : c = 100
      · have h100' := (u8i c 100 100 rfl).2 h100
        rw [if_pos h100', if_pos ⟨h32, .inl h100⟩, spec_l6Picks.j2, if_neg (by simp), if_pos h100', if_pos (by omega), e2, ih _ (by simp; omega)]
        unfold numP
        rw [if_pos h100]
      · have h100' : ¬ ((c.toNat : Int) = 100) := fun h => h100 ((u8i c 100 100 rfl).1 h)
        rw [if_neg h100']
        by_cases hlo : (c.toNat : Int) < 48
        · rw [if_pos hlo, spec_l6Picks.j2, if_pos rfl, if_neg (fun h => h.2.elim h100 (fun h => by omega))]
        · rw [if_neg hlo]
          by_cases hhi : (c.toNat : Int) > 55
          · rw [decide_eq_true hhi, spec_l6Picks.j2, if_pos rfl, if_neg (fun h => h.2.elim h100 (fun h => by omega))]
          · rw [decide_eq_false hhi, spec_l6Picks.j2, if_neg (by simp), if_neg h100', if_pos (by omega), e2, ih _ (by simp; omega), if_pos ⟨h32, .inr (by omega)⟩]
            unfold numP
            rw [if_neg h100]
    · rw [if_neg (fun h => h32 ((u8i a 32 32 rfl).1 h)), spec_l6Picks.j2, if_pos rfl, if_neg (fun h => h32 h.1)]
def picksS (l : List UInt8) : List Int × Bool := if p5.isPrefixOf l = true then (if (l.drop 5).length % 2 = 1 then ([], false) else pickP [] (l.drop 5)) else ([], false)
theorem pick_f (k : Nat) (l : List UInt8) (hl : l.length ≤ 1048576) (hk : l.length + 4 ≤ k) : spec_l6Picks.f k (bb l) = some (picksS l) := by
  obtain ⟨k, rfl⟩ : ∃ j, k = j + 1 := ⟨k - 1, by omega⟩
  unfold spec_l6Picks.f picksS
  rw [Option.bind_some, show (⟨#[112, 105, 99, 107, 115]⟩ : ByteArray) = bb p5 from rfl, rest_f l p5 hl (by decide), Option.bind_some]
  by_cases hp : p5.isPrefixOf l = true
  · simp only [if_pos hp, if_true]
    have hd : (l.drop 5).length ≤ l.length := by rw [List.length_drop]; omega
    rw [bb_size, spec_l6Picks.j0]
    show (if (((((l.drop 5).length : Nat) : Int) % 2) == 1) = true then _ else _) = _
    by_cases ho : (l.drop 5).length % 2 = 1
    · rw [if_pos (beq_iff_eq.2 (by omega)), if_pos ho]
    · rw [if_neg (fun h => ho (by have := beq_iff_eq.1 h; omega)), if_neg ho]
      have h := picks_loop (l.drop 5) (by omega) ((l.drop 5).length / 2) 0 k [] (by omega) (by omega) (by simp; omega)
      rw [List.drop_zero] at h
      exact h
  · simp only [if_neg hp]
    rw [if_neg (by simp), spec_l6Picks.j0, if_pos rfl]
theorem pickF_not (l : List UInt8) (h : l.length ≠ 1) : pickF (bb l) = none := by
  unfold pickF
  rw [bb_list, if_neg (fun e => h (by rw [e]; rfl)), client_len l h]
  rfl
theorem client_one (c : UInt8) : clientF (bb [c]) = if (c.toNat : Int) < 48 then (0, false) else if (c.toNat : Int) > 55 then (0, false) else (((c.toNat : Int) - 48) % 256, true) := by
  have hba : bt (bb [c]) 0 = (c.toNat : Int) := bb_bt [c] 0
  unfold clientF
  rw [bb_size, if_pos (by simp), hba]
theorem pickF_at (c : UInt8) : pickF (bb [c]) = if c = 100 then some 8 else if (clientF (bb [c])).2 = true then some (clientF (bb [c])).1 else none := by
  unfold pickF
  rw [bb_list]
  by_cases h100 : c = 100
  · rw [if_pos (by rw [h100]), if_pos h100]
  · rw [if_neg (fun e => h100 (by injection e)), if_neg h100]
theorem pickF_one (c : UInt8) : pickF (bb [c]) = if goodP c then some (numP c) else none := by
  rw [pickF_at, client_one]
  by_cases h100 : c = 100
  · have hg : goodP c := Or.inl h100
    rw [if_pos h100, if_pos hg, numP, if_pos h100]
  · rw [if_neg h100, numP, if_neg h100]
    by_cases hlo : (c.toNat : Int) < 48
    · have hg : ¬ goodP c := fun h => Or.elim h h100 (fun h => by omega)
      rw [if_pos hlo, if_neg hg]
      rfl
    · rw [if_neg hlo]
      by_cases hhi : (c.toNat : Int) > 55
      · have hg : ¬ goodP c := fun h => Or.elim h h100 (fun h => by omega)
        rw [if_pos hhi, if_neg hg]
        rfl
      · have hg : goodP c := Or.inr ⟨by omega, by omega⟩
        rw [if_neg hhi, if_pos hg]
        rfl
theorem pickP_bad (acc : List Int) (b : UInt8) (r : List UInt8) (hb : b ≠ 32) : pickP acc (b :: r) = (acc, false) := by
  cases r with
  | nil => rfl
  | cons c r => rw [pickP, if_neg (fun h => hb h.1)]
theorem pickP_odd : ∀ (n : Nat) (l : List UInt8) (acc : List Int), l.length ≤ n → l.length % 2 = 1 → (pickP acc l).2 = false
  | _, [], acc, _, h => by simp at h
  | _, [_], acc, _, _ => rfl
  | 0, _ :: _ :: _, acc, hn, _ => by simp at hn
  | n + 1, a :: c :: r, acc, hn, h => by
    rw [pickP]
    split
    · exact pickP_odd n r _ (by simp at hn; omega) (by simp at h; omega)
    · rfl
theorem not32 : ¬ goodP 32 := by decide
theorem splitC_hit (k : UInt8) (l : List UInt8) : splitC k (k :: l) = [] :: splitC k l := by rw [splitC, if_pos rfl]
theorem splitC_skip (k c : UInt8) (l : List UInt8) (h : c ≠ k) : ∃ a t, splitC k l = a :: t ∧ splitC k (c :: l) = (c :: a) :: t := by
  cases hs : splitC k l with
  | nil => exact absurd hs (splitC_ne k l)
  | cons a t => exact ⟨a, t, rfl, by rw [splitC, if_neg h, hs]⟩
theorem picksG_cons (acc : List Int) (x : ByteArray) (r : List ByteArray) : picksG acc (x :: r) = match pickF x with | some n => picksG (acc ++ [n]) r | none => ([], false) := rfl
theorem picks_words : ∀ (n : Nat) (tl : List UInt8) (acc : List Int), tl.length ≤ n → (pickP acc (32 :: tl) = picksG acc ((splitC 32 tl).map bb) ∧ (pickP acc (32 :: tl)).2 = true) ∨ ((pickP acc (32 :: tl)).2 = false ∧ picksG acc ((splitC 32 tl).map bb) = ([], false))
  | _, [], acc, _ => .inr ⟨rfl, by rw [show splitC 32 [] = [[]] from rfl, List.map_cons, picksG_cons, pickF_not [] (by simp)]⟩
  | n, [c], acc, _ => by
    by_cases hc : c = 32
    · subst hc
      refine .inr ⟨?_, ?_⟩
      · rw [pickP, if_neg (fun h => not32 h.2)]
      · rw [splitC_hit, List.map_cons, picksG_cons, pickF_not [] (by simp)]
    · obtain ⟨a, t, h1, h2⟩ := splitC_skip 32 c [] hc
      obtain ⟨rfl, rfl⟩ : a = [] ∧ t = [] := by
        rw [show splitC 32 [] = [[]] from rfl] at h1
        injection h1 with h1 h3
        exact ⟨h1.symm, h3.symm⟩
      rw [h2, List.map_cons, picksG_cons, pickF_one, pickP]
      by_cases hg : goodP c
      · rw [if_pos ⟨rfl, hg⟩, if_pos hg]
        exact .inl ⟨rfl, rfl⟩
      · rw [if_neg (fun h => hg h.2), if_neg hg]
        exact .inr ⟨rfl, rfl⟩
  | 0, _ :: _ :: _, acc, hn => by simp at hn
  | n + 1, c :: b :: r, acc, hn => by
    by_cases hc : c = 32
    · subst hc
      refine .inr ⟨?_, ?_⟩
      · rw [pickP, if_neg (fun h => not32 h.2)]
      · rw [splitC_hit, List.map_cons, picksG_cons, pickF_not [] (by simp)]
    · obtain ⟨a, t, h1, h2⟩ := splitC_skip 32 c (b :: r) hc
      rw [h2, List.map_cons, picksG_cons, pickP]
      by_cases hb : b = 32
      · subst hb
        rw [splitC_hit] at h1
        injection h1 with h1 h3
        subst h1 h3
        rw [pickF_one]
        by_cases hg : goodP c
        · rw [if_pos ⟨rfl, hg⟩, if_pos hg]
          exact picks_words n r _ (by simp at hn; omega)
        · rw [if_neg (fun h => hg h.2), if_neg hg]
          exact .inr ⟨rfl, rfl⟩
      · obtain ⟨a2, t2, h3, h4⟩ := splitC_skip 32 b r hb
        rw [h4] at h1
        injection h1 with h1 h5
        subst h1 h5
        rw [pickF_not (c :: b :: a2) (by simp)]
        refine .inr ⟨?_, rfl⟩
        split
        · rw [pickP_bad _ b r hb]
        · rfl
theorem pickP_len : ∀ (n : Nat) (l : List UInt8) (acc : List Int), l.length ≤ n → (pickP acc l).1.length ≤ acc.length + l.length
  | _, [], acc, _ => by simp [pickP]
  | _, [_], acc, _ => by simp [pickP]
  | 0, _ :: _ :: _, acc, hn => by simp at hn
  | n + 1, a :: c :: r, acc, hn => by
    rw [pickP]
    split
    · have := pickP_len n r (acc ++ [numP c]) (by simp at hn; omega)
      simp at this ⊢
      omega
    · simp
theorem picksS_len (l : List UInt8) : (picksS l).1.length ≤ l.length := by
  unfold picksS
  split
  · split
    · simp
    · have := pickP_len (l.drop 5).length (l.drop 5) [] (Nat.le_refl _)
      rw [List.length_drop] at this
      simp at this
      omega
  · simp
theorem words_data (t : List UInt8) : wordsF true t = (splitC 32 t).map bb := by
  have hm := split_map 32 (bb t)
  rw [bb_data] at hm
  have e : ∀ L : List ByteArray, (L.map (·.data.toList)).map bb = L := fun L => by
    rw [List.map_map]
    conv => rhs; rw [← List.map_id L]
    exact List.map_congr_left (fun x _ => bb_of x)
  rw [← hm, e]
  rfl
theorem cutC_picks (r : List UInt8) : cutC 32 (p5 ++ 32 :: r) = (p5, r, true) := by
  show cutC 32 (112 :: 105 :: 99 :: 107 :: 115 :: 32 :: r) = _
  simp [cutC]
theorem pre_split (p l : List UInt8) (h : p.isPrefixOf l = true) : l = p ++ l.drop p.length := by
  obtain ⟨t, rfl⟩ := List.isPrefixOf_iff_prefix.1 h
  simp
theorem lineF_call (l : List UInt8) (cs : List S46) (ps : List Int) (h : (cutC 32 l).1 ≠ p5) : lineF l cs ps = (cs ++ [⟨(clientF (bb (cutC 32 l).1)).1, (callF (cutC 32 l).2.1).1, bb (callF (cutC 32 l).2.1).2.1, (callF (cutC 32 l).2.1).2.2.1⟩], ps, (clientF (bb (cutC 32 l).1)).2 && (cutC 32 l).2.2 && (callF (cutC 32 l).2.1).2.2.2) := by
  rw [lineF_at, cut_eq, if_neg h]
theorem lineF_picks (l : List UInt8) (cs : List S46) (ps : List Int) (h : (cutC 32 l).1 = p5) : lineF l cs ps = (cs, ps ++ (picksG [] (wordsF (cutC 32 l).2.2 (cutC 32 l).2.1)).1, (picksG [] (wordsF (cutC 32 l).2.2 (cutC 32 l).2.1)).2) := by
  rw [lineF_at, cut_eq, if_pos h]
theorem picksS_not (l : List UInt8) (h : (cutC 32 l).1 ≠ p5) : (picksS l).2 = false := by
  unfold picksS
  by_cases hp : p5.isPrefixOf l = true
  · rw [if_pos hp]
    have hl := pre_split p5 l hp
    have hl : l = p5 ++ l.drop 5 := hl
    generalize l.drop 5 = r at hl ⊢
    subst hl
    by_cases ho : r.length % 2 = 1
    · rw [if_pos ho]
    · rw [if_neg ho]
      cases r with
      | nil => exact absurd (show (cutC 32 (p5 ++ [])).1 = p5 from by decide) h
      | cons b r =>
        by_cases hb : b = 32
        · subst hb
          exact absurd (by rw [cutC_picks]) h
        · rw [pickP_bad _ b r hb]
  · rw [if_neg hp]
theorem line_eq (l : List UInt8) (cs : List S46) (ps : List Int) :
    ((callS l).2.2.2.2 = true ∧ lineF l cs ps = (cs ++ [⟨(callS l).1, (callS l).2.1, (callS l).2.2.1, (callS l).2.2.2.1⟩], ps, true)) ∨
    ((callS l).2.2.2.2 = false ∧ (picksS l).2 = true ∧ lineF l cs ps = (cs, ps ++ (picksS l).1, true)) ∨
    ((callS l).2.2.2.2 = false ∧ (picksS l).2 = false ∧ (lineF l cs ps).2.2 = false) := by
  by_cases hw : (cutC 32 l).1 = p5
  · have hcl : (clientF (bb (cutC 32 l).1)).2 = false := by rw [hw, client_len p5 (by decide)]
    have hno : callS l = (0, 0, ⟨#[]⟩, 0, false) := callS_no l (fun h => by rw [hcl] at h; cases h.1)
    refine .inr ?_
    rw [hno, lineF_picks l cs ps hw]
    cases hs : (cutC 32 l).2.2 with
    | false =>
      have h1 := cutC_none 32 l hs
      have hl : l = p5 := h1.1.symm.trans hw
      subst hl
      exact .inl ⟨rfl, by decide, rfl⟩
    | true =>
      have h1 := cutC_some 32 l hs
      rw [hw] at h1
      generalize (cutC 32 l).2.1 = t at h1 ⊢
      subst h1
      rw [words_data]
      have hp : p5.isPrefixOf (p5 ++ 32 :: t) = true := List.isPrefixOf_iff_prefix.2 ⟨_, rfl⟩
      have hd : (p5 ++ 32 :: t).drop 5 = 32 :: t := rfl
      unfold picksS
      rw [if_pos hp, hd]
      rcases picks_words t.length t [] (Nat.le_refl _) with h | h
      · have ho : ¬ ((32 :: t).length % 2 = 1) := fun ho => by
          have := pickP_odd (32 :: t).length (32 :: t) [] (Nat.le_refl _) ho
          rw [h.2] at this
          cases this
        rw [if_neg ho, ← h.1]
        exact .inl ⟨rfl, h.2, by rw [h.2]⟩
      · refine .inr ⟨rfl, ?_, by rw [h.2]⟩
        split
        · rfl
        · exact h.1
  · have hnp := picksS_not l hw
    rw [lineF_call l cs ps hw]
    by_cases hok : (clientF (bb (cutC 32 l).1)).2 = true ∧ (cutC 32 l).2.2 = true
    · rw [callS_yes l hok, hok.1, hok.2]
      unfold rightS
      by_cases hc : (callF (cutC 32 l).2.1).2.2.2 = true
      · rw [if_pos hc, hc]
        exact .inl ⟨rfl, rfl⟩
      · rw [if_neg hc]
        exact .inr (.inr ⟨rfl, hnp, by simpa using hc⟩)
    · rw [callS_no l hok]
      refine .inr (.inr ⟨rfl, hnp, ?_⟩)
      have hx : ((clientF (bb (cutC 32 l).1)).2 && (cutC 32 l).2.2) = false := by
        rw [Bool.eq_false_iff]
        intro h
        exact hok (by simpa using h)
      rw [hx]
      rfl
end Go.Proofs.YtfadnchkododdaaDoor.Ps
