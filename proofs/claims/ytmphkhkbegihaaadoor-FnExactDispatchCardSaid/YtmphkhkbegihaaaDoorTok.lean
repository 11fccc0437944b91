/- Plain laws of pointers: what tokens a text has, and how two lie to each other; no program in sight. -/
import Derived.Test.YtmphkhkbegihaaaDoorPlain
import Derived.Test.YtmphkhkbegihaaaDoorPHubx
namespace Go.Proofs.YtmphkhkbegihaaaDoor.Tok
open Go Go.RowKit Go.Proofs.YtmphkhkbegihaaaDoor.PHub Go.Proofs.YtmphkhkbegihaaaDoor.Own Go.Proofs.YtmphkhkbegihaaaDoor.Plain Go.Proofs.YtmphkhkbegihaaaDoorW.PrintWords Go.Proofs.YtmphkhkbegihaaaDoorW.PrintLast Go.Proofs.YtmphkhkbegihaaaDoorW.PrintMore
set_option linter.unusedVariables false
set_option linter.unusedSimpArgs false
theorem w64 {n : Int} (h : -9223372036854775808 ≤ n) (h2 : n ≤ 9223372036854775807) : wrap64 n = n := by unfold wrap64; omega
theorem rd_at (l : List ByteArray) (i : Nat) (h : i < l.length) : rdOf ByteArray.empty l (i : Int) = l[i] := by
  unfold rdOf; simp [h]
def toI (l : List UInt8) : List Int := l.map fun b => (b.toNat : Int)
theorem strOf_toI (l : List UInt8) : strOfNums (toI l) = ⟨l.toArray⟩ := by
  unfold strOfNums toI
  congr 2
  rw [List.map_map]
  conv => rhs; rw [← List.map_id l]
  apply List.map_congr_left
  intro b _
  show UInt8.ofNat ((b.toNat : Int)).toNat = b
  rw [Int.toNat_natCast, UInt8.ofNat_toNat]
theorem u8_ne {b : UInt8} (c : UInt8) (n : Int) (hn : (c.toNat : Int) = n) (h : ¬ b = c) : ¬ (b.toNat : Int) = n := by
  intro e
  exact h (UInt8.toNat_inj.1 (by omega))
theorem bt_cons (t : ByteArray) (i : Nat) (h : i < t.size) : ∃ b : UInt8, t.data.toList.drop i = b :: t.data.toList.drop (i + 1) ∧ bt t (i : Int) = (b.toNat : Int) := by
  have h' : i < t.data.toList.length := by rw [← Lib.size_eq]; exact h
  refine ⟨t.data.toList[i], (List.drop_eq_getElem_cons h'), ?_⟩
  unfold bt
  rw [dif_pos (by simpa using h)]
  rfl
theorem dl_len (t : ByteArray) : t.data.toList.length = t.size := (Lib.size_eq t).symm

theorem l1At_f (t : ByteArray) (i : Nat) (c : Int) : spec_l1At.f t (i : Int) c = some (if i < t.size then bt t i == c else false) := by
  unfold spec_l1At.f
  by_cases h : i < t.size
  · rw [if_pos (by omega), if_pos (by omega), if_pos h]
  · rw [if_neg (by omega), if_neg h]
def tokR (acc : List Int) (o : Option (List UInt8)) : ByteArray × Bool := match o with
  | some r => (strOfNums (acc ++ toI r), true)
  | none => (⟨#[]⟩, false)
theorem tokR_map (acc : List Int) (o : Option (List UInt8)) (c : UInt8) : tokR acc (o.map (c :: ·)) = tokR (acc ++ [(c.toNat : Int)]) o := by
  cases o with
  | none => rfl
  | some r => simp [tokR, toI]
theorem tok_loop (t : ByteArray) (hs : t.size ≤ 4194304) : ∀ (n d k i : Nat) (acc : List Int), d ≤ n → t.size - i = d → i ≤ t.size → d < k → acc.length + d ≤ 100000000 →
    spec_l1Token.l0 k t acc (i : Int) = some (tokR acc (dec (t.data.toList.drop i)))
  | n, 0, k, i, acc, hn, hd, hi, hk, ha => by
    obtain ⟨k, rfl⟩ : ∃ j, k = j + 1 := ⟨k - 1, by omega⟩
    rw [spec_l1Token.l0, if_neg (by omega), List.drop_of_length_le (by rw [dl_len]; omega), dec_nil]
    simp [tokR, toI]
  | 0, d + 1, k, i, acc, hn, hd, hi, hk, ha => by omega
  | n + 1, d + 1, k, i, acc, hn, hd, hi, hk, ha => by
    obtain ⟨k, rfl⟩ : ∃ j, k = j + 1 := ⟨k - 1, by omega⟩
    have e2 : wrap64 ((i : Int) + 1) = ((i + 1 : Nat) : Int) := by rw [w64 (by omega) (by omega)]; omega
    have e3 : wrap64 (((i + 1 : Nat) : Int) + 1) = ((i + 2 : Nat) : Int) := by rw [w64 (by omega) (by omega)]; omega
    obtain ⟨b, hb, hbt⟩ := bt_cons t i (by omega)
    rw [spec_l1Token.l0, if_pos (by omega), if_pos (by omega), hbt, hb, e2, l1At_f, l1At_f, e3]
    simp only [Option.bind_some]
    by_cases h1 : b = 126
    · subst h1
      rw [if_pos (by decide)]
      by_cases hi1 : i + 1 < t.size
      · obtain ⟨c, hc, hct⟩ := bt_cons t (i + 1) hi1
        rw [if_pos hi1, if_pos hi1, hct, hc]
        by_cases c0 : c = 48
        · subst c0
          rw [if_pos (by decide), if_pos (by omega), dec_0, tokR_map]
          exact tok_loop t hs n (t.size - (i + 2)) k (i + 2) _ (by omega) (by omega) (by omega) (by omega) (by simp; omega)
        · rw [if_neg (fun e => u8_ne 48 48 (by decide) c0 (beq_iff_eq.1 e))]
          by_cases c1 : c = 49
          · subst c1
            rw [if_pos (by decide), if_pos (by omega), dec_1, tokR_map]
            exact tok_loop t hs n (t.size - (i + 2)) k (i + 2) _ (by omega) (by omega) (by omega) (by omega) (by simp; omega)
          · rw [if_neg (fun e => u8_ne 49 49 (by decide) c1 (beq_iff_eq.1 e)), dec_bad _ _ c0 c1]
            rfl
      · rw [if_neg hi1, if_neg hi1, if_neg (by decide), if_neg (by decide), List.drop_of_length_le (by rw [dl_len]; omega), dec_bad1]
        rfl
    · rw [if_neg (u8_ne 126 126 (by decide) h1), if_pos (by omega), dec_c _ _ h1, tokR_map]
      exact tok_loop t hs n d k (i + 1) _ (by omega) (by omega) (by omega) (by omega) (by simp; omega)
theorem tok_f (t : ByteArray) (hs : t.size ≤ 4194304) (k : Nat) (hk : t.size < k) : spec_l1Token.f k t = some (tokR [] (dec t.data.toList)) := by
  unfold spec_l1Token.f
  have := tok_loop t hs t.size t.size k 0 [] (Nat.le_refl _) (by omega) (by omega) hk (by simp; omega)
  rw [show (0 : Int) = ((0 : Nat) : Int) from rfl, this, List.drop_zero]

/-- All parts well-formed: what they stand for, behind acc. -/
def R (acc : List ByteArray) : List (List UInt8) → List ByteArray × Bool
  | [] => (acc, true)
  | p :: ps => match dec p with
    | none => ([], false)
    | some r => R (acc ++ [⟨r.toArray⟩]) ps
def tokF (a : ByteArray) : List ByteArray × Bool := if a.size = 0 then ([], true) else if bt a 0 = 47 then R [] (splitL (a.data.toList.drop 1)) else ([], false)

theorem toks_loop (x : ByteArray) (hs : x.size ≤ 4194304) : ∀ (d k s i : Nat) (acc : List ByteArray) (h : List UInt8) (tl : List (List UInt8)), x.size - i = d → i ≤ x.size → s ≤ i → 2 * d + 5 + x.size ≤ k → acc.length + d ≤ 100000000 →
    splitL (x.data.toList.drop i) = h :: tl →
    spec_PtrTokens.l0 k x acc (s : Int) (i : Int) = some (R acc ((((x.data.toList.drop s).take (i - s)) ++ h) :: tl))
  | 0, k, s, i, acc, h, tl, hd, hi, hsi, hk, ha, hsp => by
    obtain ⟨k, rfl⟩ : ∃ j, k = j + 3 := ⟨k - 3, by omega⟩
    have e : i = x.size := by omega
    subst e
    rw [List.drop_of_length_le (by rw [dl_len]; omega)] at hsp
    injection hsp with h1 h2
    subst h1; subst h2
    have e2 : wrap64 ((x.size : Int) + 1) = ((x.size + 1 : Nat) : Int) := by rw [w64 (by omega) (by omega)]; omega
    rw [spec_PtrTokens.l0, if_pos (by omega), if_pos rfl, spec_PtrTokens.j1, if_pos rfl, if_pos (by omega), if_pos (by omega), if_pos (by omega), e2,
      tok_f _ (by rw [ByteArray.size_extract]; omega) (k + 1) (by rw [ByteArray.size_extract]; omega)]
    simp only [Option.bind_some, List.append_nil, Int.toNat_natCast]
    rw [show (x.extract s x.size).data.toList = (x.data.toList.drop s).take (x.size - s) from by rw [← Lib.toList_data, Lib.extract_toList]]
    cases hdec : dec ((x.data.toList.drop s).take (x.size - s)) with
    | none => simp [tokR, R, hdec]
    | some r =>
      simp only [tokR, R, hdec]
      rw [if_pos trivial, if_pos (by omega), spec_PtrTokens.l0, if_neg (by omega), List.nil_append, strOf_toI]
  | d + 1, k, s, i, acc, h, tl, hd, hi, hsi, hk, ha, hsp => by
    obtain ⟨k, rfl⟩ : ∃ j, k = j + 3 := ⟨k - 3, by omega⟩
    have e2 : wrap64 ((i : Int) + 1) = ((i + 1 : Nat) : Int) := by rw [w64 (by omega) (by omega)]; omega
    obtain ⟨b, hb, hbt⟩ := bt_cons x i (by omega)
    have hpre : (x.data.toList.drop s).take (i + 1 - s) = (x.data.toList.drop s).take (i - s) ++ [b] := by
      rw [show i + 1 - s = (i - s) + 1 by omega, List.take_add_one]
      congr 1
      rw [List.getElem?_drop, show s + (i - s) = i by omega]
      have : (x.data.toList.drop i)[0]? = some b := by rw [hb]; rfl
      rw [List.getElem?_drop] at this
      rw [show i + 0 = i from rfl] at this
      rw [this]; rfl
    rw [spec_PtrTokens.l0, if_pos (by omega), if_neg (by omega), if_pos (by omega), if_pos (by omega), hbt, spec_PtrTokens.j1]
    rw [hb] at hsp
    by_cases h1 : b = 47
    · subst h1
      rw [splitL, if_pos rfl] at hsp
      injection hsp with h1 h2
      subst h1
      rw [if_pos (by decide), if_pos (by omega), if_pos (by omega), if_pos (by omega), e2,
        tok_f _ (by rw [ByteArray.size_extract]; omega) (k + 1) (by rw [ByteArray.size_extract]; omega)]
      simp only [Option.bind_some, List.append_nil, Int.toNat_natCast]
      rw [show (x.extract s i).data.toList = (x.data.toList.drop s).take (i - s) from by rw [← Lib.toList_data, Lib.extract_toList]]
      cases hdec : dec ((x.data.toList.drop s).take (i - s)) with
      | none => simp [tokR, R, hdec]
      | some r =>
        simp only [tokR, R, hdec]
        cases hl : splitL (x.data.toList.drop (i + 1)) with
        | nil => exact absurd hl (splitL_ne _)
        | cons h' tl' =>
          rw [hl] at h2
          subst h2
          rw [if_pos trivial, if_pos (by omega), toks_loop x hs d (k + 1) (i + 1) (i + 1) _ h' tl' (by omega) (by omega) (by omega) (by omega) (by simp; omega) hl, Nat.sub_self, List.take_zero, List.nil_append, List.nil_append, strOf_toI]
    · rw [splitL, if_neg h1] at hsp
      rw [if_neg (fun e => u8_ne 47 47 (by decide) h1 (beq_iff_eq.1 e)), e2]
      cases hl : splitL (x.data.toList.drop (i + 1)) with
      | nil => exact absurd hl (splitL_ne _)
      | cons h' tl' =>
        rw [hl] at hsp
        injection hsp with h2 h3
        subst h2; subst h3
        rw [toks_loop x hs d (k + 1) s (i + 1) acc h' tl' (by omega) (by omega) (by omega) (by omega) (by omega) hl, hpre, List.append_assoc]
        rfl
theorem specPtrTokens (a : ByteArray) (hs : a.size ≤ 4194304) (k : Nat) (hk : 3 * a.size + 5 ≤ k) : spec_PtrTokens.f k a = some (tokF a) := by
  unfold spec_PtrTokens.f tokF
  simp only [Option.bind_some]
  by_cases h0 : a.size = 0
  · have : a.toList = [] := by rw [Lib.toList_data]; exact List.length_eq_zero_iff.1 (by rw [dl_len]; exact h0)
    rw [if_pos this, if_pos h0]
  · have : ¬ a.toList = [] := by
      rw [Lib.toList_data]; intro e; exact h0 (by rw [← dl_len, e]; rfl)
    rw [if_neg this, if_neg h0, if_pos (by omega)]
    by_cases h1 : bt a 0 = 47
    · rw [if_pos h1, if_pos h1]
      cases hl : splitL (a.data.toList.drop 1) with
      | nil => exact absurd hl (splitL_ne _)
      | cons h tl =>
        have := toks_loop a hs (a.size - 1) k 1 1 [] h tl (by omega) (by omega) (by omega) (by omega) (by simp; omega) hl
        rw [show (1 : Int) = ((1 : Nat) : Int) from rfl, this, Nat.sub_self, List.take_zero, List.nil_append]
    · rw [if_neg h1, if_neg h1]

theorem chk_dec (t : ByteArray) : ∀ (n d i : Nat), d ≤ n → t.size - i = d → i ≤ t.size → chk t d i = (dec (t.data.toList.drop i)).isSome
  | n, 0, i, hn, hd, hi => by
    rw [List.drop_of_length_le (by rw [dl_len]; omega), dec_nil]; rfl
  | 0, d + 1, i, hn, hd, hi => by omega
  | n + 1, d + 1, i, hn, hd, hi => by
    obtain ⟨b, hb, hbt⟩ := bt_cons t i (by omega)
    rw [chk, hb]
    by_cases h1 : b = 126
    · subst h1
      by_cases hi1 : i + 1 < t.size
      · obtain ⟨c, hc, hct⟩ := bt_cons t (i + 1) hi1
        have hct' : bt t ((i : Int) + 1) = (c.toNat : Int) := by rw [← hct]; congr 1
        obtain ⟨d, rfl⟩ : ∃ e, d = e + 1 := ⟨d - 1, by omega⟩
        have hb1 : badTok t (i + 1) = (c == 126 && badTok t (i + 1)) := by
          by_cases hc6 : c = 126
          · subst hc6; simp
          · have : ¬ (bt t ((i : Int) + 1) = 126) := by rw [hct']; exact u8_ne 126 126 (by decide) hc6
            unfold badTok
            simp [this, hc6]
        have hc2 : chk t (d + 1) (i + 1) = if badTok t (i + 1) = true then false else chk t d (i + 2) := rfl
        rw [hc, hc2]
        by_cases c0 : c = 48
        · subst c0
          have e1 : badTok t i = false := by unfold badTok; rw [hct']; simp; intro _; omega
          have e4 : badTok t (i + 1) = false := by rw [hb1]; rfl
          rw [e1, e4, dec_0]
          simp only [Bool.false_eq_true, if_false]
          rw [chk_dec t n d (i + 2) (by omega) (by omega) (by omega)]
          simp
        · by_cases c1 : c = 49
          · subst c1
            have e1 : badTok t i = false := by unfold badTok; rw [hct']; simp; intro _; omega
            have e4 : badTok t (i + 1) = false := by rw [hb1]; rfl
            rw [e1, e4, dec_1]
            simp only [Bool.false_eq_true, if_false]
            rw [chk_dec t n d (i + 2) (by omega) (by omega) (by omega)]
            simp
          · have e1 : badTok t i = true := by
              unfold badTok
              have q0 : ¬ ((c.toNat : Int) = 48) := u8_ne 48 48 (by decide) c0
              have q1 : ¬ ((c.toNat : Int) = 49) := u8_ne 49 49 (by decide) c1
              rw [hct', hbt]
              simp [q0, q1]
            rw [e1, dec_bad _ _ c0 c1]
            rfl
      · have e1 : badTok t i = true := by
          unfold badTok
          rw [hbt]
          have : (i : Int) + 1 = t.size := by omega
          simp [this]
        rw [e1, List.drop_of_length_le (by rw [dl_len]; omega), dec_bad1]
        rfl
    · have e1 : badTok t i = false := by
        unfold badTok
        have : ¬ (bt t (i : Int) = 126) := by rw [hbt]; exact u8_ne 126 126 (by decide) h1
        simp [this]
      rw [e1, dec_c _ _ h1]
      simp only [Bool.false_eq_true, if_false]
      rw [chk_dec t n d (i + 1) (by omega) (by omega) (by omega)]
      simp
theorem good_dec (t : ByteArray) : goodT t = (dec t.data.toList).isSome := by
  unfold goodT
  rw [chk_dec t t.size t.size 0 (Nat.le_refl _) (by omega) (by omega), List.drop_zero]
theorem un_dec (t : ByteArray) (r : List UInt8) (h : dec t.data.toList = some r) : unT t = ⟨r.toArray⟩ := by
  show (⟨(unL t.data.toList).toArray⟩ : ByteArray) = _
  rw [dec_un _ _ _ (Nat.le_refl _) h]
theorem R_parts : ∀ (ps : List ByteArray) (acc : List ByteArray), R acc (ps.map (·.data.toList)) = if ps.all goodT then (acc ++ ps.map unT, true) else ([], false)
  | [], acc => by simp [R]
  | p :: ps, acc => by
    rw [List.map_cons, R, List.all_cons, good_dec p]
    cases hd : dec p.data.toList with
    | none => simp
    | some r =>
      show R (acc ++ [⟨r.toArray⟩]) (ps.map (·.data.toList)) = _
      rw [R_parts ps]; simp [un_dec p r hd]
theorem parts_data (a : ByteArray) : (parts a).map (·.data.toList) = splitL (a.data.toList.drop 1) := by
  unfold parts
  rw [Lib.splitB_data]
  have e : (a.extract 1 a.size).data.toList = a.data.toList.drop 1 := by
    rw [← Lib.toList_data, Lib.extract_toList, List.take_of_length_le (by simp)]
  rw [e, ← split_eq]
  congr 1
  unfold Lib.countB
  rw [e]
theorem implPtrTokens (a : ByteArray) (hs : a.size ≤ 4194304) : impl_PtrTokens.f a = some (tokF a) := by
  unfold impl_PtrTokens.f tokF
  rw [if_pos hs]
  by_cases h0 : a.size = 0
  · rw [if_pos h0, if_pos h0]
  · rw [if_neg h0, if_neg h0]
    by_cases h1 : bt a 0 = 47
    · rw [if_pos h1, if_pos h1, ← parts_data, R_parts]
      split <;> simp
    · rw [if_neg h1, if_neg h1]
theorem splitL_len : ∀ l : List UInt8, (splitL l).length ≤ l.length + 1
  | [] => by simp [splitL]
  | c :: l => by
    have ih := splitL_len l
    unfold splitL
    split
    · simp; omega
    · split
      · simp
      · rename_i h t e
        rw [e] at ih
        simp at ih ⊢; omega
theorem R_len : ∀ (ps : List (List UInt8)) (acc : List ByteArray), (R acc ps).1.length ≤ acc.length + ps.length
  | [], acc => by simp [R]
  | p :: ps, acc => by
    unfold R
    split
    · simp
    · rename_i r _
      have := R_len ps (acc ++ [⟨r.toArray⟩])
      simp at this ⊢; omega
theorem tokF_len (a : ByteArray) : (tokF a).1.length ≤ a.size := by
  unfold tokF
  split
  · simp
  · split
    · have h1 := R_len (splitL (a.data.toList.drop 1)) []
      have h2 := splitL_len (a.data.toList.drop 1)
      rw [List.length_drop, dl_len] at h2
      rw [List.length_nil] at h1
      omega
    · simp

theorem tl_eq {x y : ByteArray} : x.toList = y.toList ↔ x = y := by
  constructor
  · intro h; rw [Lib.toList_data, Lib.toList_data] at h; exact ByteArray.ext (Array.toList_inj.1 h)
  · intro h; rw [h]
theorem heads_loop (x y : List ByteArray) (hl : x.length ≤ y.length) (hy : y.length ≤ 140737488351232) : ∀ (d k i : Nat), x.length - i = d → i ≤ x.length → d < k →
    spec_l1Heads.l0 k x y (i : Int) = some (decide (x.drop i <+: y.drop i))
  | 0, k, i, hd, hi, hk => by
    obtain ⟨k, rfl⟩ : ∃ j, k = j + 1 := ⟨k - 1, by omega⟩
    unfold spec_l1Heads.l0
    rw [if_neg (by omega), List.drop_of_length_le (i := i) (l := x) (by omega)]
    simp
  | d + 1, k, i, hd, hi, hk => by
    obtain ⟨k, rfl⟩ : ∃ j, k = j + 1 := ⟨k - 1, by omega⟩
    have e2 : wrap64 ((i : Int) + 1) = ((i + 1 : Nat) : Int) := by rw [w64 (by omega) (by omega)]; omega
    have hx : i < x.length := by omega
    have hy' : i < y.length := by omega
    unfold spec_l1Heads.l0
    rw [if_pos (by omega), if_pos (by omega), if_pos (by omega), rd_at x i hx, rd_at y i hy', e2, List.drop_eq_getElem_cons hx, List.drop_eq_getElem_cons hy']
    by_cases h : x[i] = y[i]
    · rw [if_pos (tl_eq.2 h), heads_loop x y hl hy d k (i + 1) (by omega) (by omega) (by omega)]
      congr 1
      rw [decide_eq_decide, List.cons_prefix_cons]
      exact ⟨fun z => ⟨h, z⟩, fun z => z.2⟩
    · rw [if_neg (fun z => h (tl_eq.1 z))]
      congr 1
      symm
      rw [decide_eq_false_iff_not, List.cons_prefix_cons]
      exact fun z => h z.1
theorem heads_f (x y : List ByteArray) (hx : x.length ≤ 140737488351232) (hy : y.length ≤ 140737488351232) (k : Nat) (hk : x.length < k) : spec_l1Heads.f k x y = some (decide (x <+: y)) := by
  unfold spec_l1Heads.f
  by_cases h : (x.length : Int) > (y.length : Int)
  · rw [if_pos h]
    congr 1
    symm
    rw [decide_eq_false_iff_not]
    exact fun z => by have := z.length_le; omega
  · have := heads_loop x y (by omega) hy x.length k 0 (by omega) (by omega) hk
    rw [if_neg h, show (0 : Int) = ((0 : Nat) : Int) from rfl, this, List.drop_zero, List.drop_zero]
theorem same_loop (x y : List ByteArray) (hl : x.length = y.length) (hy : y.length ≤ 140737488351232) : ∀ (d k i : Nat), x.length - i = d → i ≤ x.length → d < k →
    slices_Equal_string_string.l0 k x y (x.length : Int) (i : Int) = some (decide (x.drop i = y.drop i))
  | 0, k, i, hd, hi, hk => by
    obtain ⟨k, rfl⟩ : ∃ j, k = j + 1 := ⟨k - 1, by omega⟩
    unfold slices_Equal_string_string.l0
    rw [if_neg (by omega), List.drop_of_length_le (i := i) (l := x) (by omega), List.drop_of_length_le (i := i) (l := y) (by omega)]
    simp
  | d + 1, k, i, hd, hi, hk => by
    obtain ⟨k, rfl⟩ : ∃ j, k = j + 1 := ⟨k - 1, by omega⟩
    have e2 : wrap64 ((i : Int) + 1) = ((i + 1 : Nat) : Int) := by rw [w64 (by omega) (by omega)]; omega
    have hx : i < x.length := by omega
    have hy' : i < y.length := by omega
    unfold slices_Equal_string_string.l0
    rw [if_pos (by omega), if_pos (by omega), if_pos (by omega), if_pos (by omega), rd_at x i hx, rd_at y i hy', e2, List.drop_eq_getElem_cons hx, List.drop_eq_getElem_cons hy']
    by_cases h : x[i] = y[i]
    · rw [if_pos (tl_eq.2 h), same_loop x y hl hy d k (i + 1) (by omega) (by omega) (by omega)]
      congr 1
      rw [decide_eq_decide, List.cons.injEq]
      exact ⟨fun z => ⟨h, z⟩, fun z => z.2⟩
    · rw [if_neg (fun z => h (tl_eq.1 z))]
      congr 1
      symm
      rw [decide_eq_false_iff_not, List.cons.injEq]
      exact fun z => h z.1
theorem same_f (x y : List ByteArray) (hx : x.length ≤ 140737488351232) (hy : y.length ≤ 140737488351232) (k : Nat) (hk : x.length < k) : slices_Equal_string_string.f k x y = some (decide (x = y)) := by
  unfold slices_Equal_string_string.f
  by_cases h : (x.length : Int) = (y.length : Int)
  · have := same_loop x y (by omega) hy x.length k 0 (by omega) (by omega) hk
    rw [if_pos h, show (0 : Int) = ((0 : Nat) : Int) from rfl, this, List.drop_zero, List.drop_zero]
  · rw [if_neg h]
    congr 1
    symm
    rw [decide_eq_false_iff_not]
    rintro rfl
    exact h rfl

def nearF (x y : List ByteArray) : Int := if x <+: y then (if y <+: x then 1 else 2) else if y <+: x then 3 else 0
def withinF (a b : ByteArray) : Int := if (tokF a).2 = true then (if (tokF b).2 = true then nearF (tokF a).1 (tokF b).1 else -1) else -1
theorem specWithin (a b : ByteArray) (ha : a.size ≤ 4194304) (hb : b.size ≤ 4194304) (k : Nat) (hk : 3 * a.size + 3 * b.size + 10 ≤ k) : spec_Within.f k a b = some (withinF a b) := by
  obtain ⟨k, rfl⟩ : ∃ j, k = j + 2 := ⟨k - 2, by omega⟩
  have la := tokF_len a
  have lb := tokF_len b
  unfold spec_Within.f withinF
  rw [specPtrTokens a ha _ (by omega), specPtrTokens b hb _ (by omega)]
  simp only [Option.bind_some]
  by_cases h1 : (tokF a).2 = true
  · rw [if_pos h1, if_pos h1]
    by_cases h2 : (tokF b).2 = true
    · rw [if_pos h2, h2, spec_Within.j0, if_neg (by decide), heads_f _ _ (by omega) (by omega) _ (by omega), heads_f _ _ (by omega) (by omega) _ (by omega)]
      simp only [Option.bind_some]
      unfold nearF
      by_cases p : (tokF a).1 <+: (tokF b).1 <;> by_cases q : (tokF b).1 <+: (tokF a).1
      · simp [p, q, spec_Within.j1]
      · simp [p, q, spec_Within.j1, heads_f _ _ (show (tokF a).1.length ≤ 140737488351232 by omega) (show (tokF b).1.length ≤ 140737488351232 by omega) k (by omega)]
      · simp [p, q, spec_Within.j1, heads_f _ _ (show (tokF a).1.length ≤ 140737488351232 by omega) (show (tokF b).1.length ≤ 140737488351232 by omega) k (by omega), heads_f _ _ (show (tokF b).1.length ≤ 140737488351232 by omega) (show (tokF a).1.length ≤ 140737488351232 by omega) k (by omega)]
      · simp [p, q, spec_Within.j1, heads_f _ _ (show (tokF a).1.length ≤ 140737488351232 by omega) (show (tokF b).1.length ≤ 140737488351232 by omega) k (by omega), heads_f _ _ (show (tokF b).1.length ≤ 140737488351232 by omega) (show (tokF a).1.length ≤ 140737488351232 by omega) k (by omega)]
    · rw [if_neg h2, show (!(tokF b).2) = true by simp [h2], spec_Within.j0, if_pos rfl]
  · rw [if_neg h1, if_neg h1, spec_Within.j0, if_pos rfl]
theorem near_by (x y : List ByteArray) : (if x.take (mn (x.length : Int) (y.length : Int)).toNat = y.take (mn (x.length : Int) (y.length : Int)).toNat then (if (x.length : Int) = (y.length : Int) then (1 : Int) else if (x.length : Int) < (y.length : Int) then 2 else 3) else 0) = nearF x y := by
  unfold mn nearF
  by_cases h : (y.length : Int) < (x.length : Int)
  · have hxy : ¬ x <+: y := fun z => by have := z.length_le; omega
    rw [if_pos h, Int.toNat_natCast, List.take_length, if_neg hxy, if_neg (show ¬ (x.length : Int) = y.length by omega), if_neg (show ¬ (x.length : Int) < y.length by omega)]
    by_cases q : y <+: x
    · rw [if_pos q, if_pos (List.prefix_iff_eq_take.1 q).symm]
    · rw [if_neg q, if_neg (fun e => q (List.prefix_iff_eq_take.2 e.symm))]
  · rw [if_neg h, Int.toNat_natCast, List.take_length]
    by_cases p : x <+: y
    · rw [if_pos p, if_pos (List.prefix_iff_eq_take.1 p)]
      by_cases e : (x.length : Int) = y.length
      · have : x = y := p.eq_of_length (by omega)
        subst this
        rw [if_pos rfl, if_pos (List.prefix_refl x)]
      · have q : ¬ y <+: x := fun z => by have := z.length_le; omega
        rw [if_neg e, if_pos (by omega), if_neg q]
    · have q : ¬ y <+: x := fun z => by
        have := z.length_le
        have : y = x := z.eq_of_length (by omega)
        exact p (this ▸ List.prefix_refl y)
      rw [if_neg p, if_neg (fun e => p (List.prefix_iff_eq_take.2 e)), if_neg q]
theorem implWithin (a b : ByteArray) (ha : a.size ≤ 4194304) (hb : b.size ≤ 4194304) (k : Nat) (hk : a.size + b.size + 10 ≤ k) : impl_Within.f k a b = some (withinF a b) := by
  obtain ⟨k, rfl⟩ : ∃ j, k = j + 2 := ⟨k - 2, by omega⟩
  have la := tokF_len a
  have lb := tokF_len b
  unfold impl_Within.f withinF
  rw [implPtrTokens a ha, implPtrTokens b hb]
  simp only [Option.bind_some]
  by_cases h1 : (tokF a).2 = true
  · rw [if_pos h1, if_pos h1]
    by_cases h2 : (tokF b).2 = true
    · have m0 : 0 ≤ mn ((tokF a).1.length : Int) ((tokF b).1.length : Int) := by unfold mn; split <;> omega
      have m1 : mn ((tokF a).1.length : Int) ((tokF b).1.length : Int) ≤ ((tokF a).1.length : Int) := by unfold mn; split <;> omega
      have m2 : mn ((tokF a).1.length : Int) ((tokF b).1.length : Int) ≤ ((tokF b).1.length : Int) := by unfold mn; split <;> omega
      rw [if_pos h2, h2, impl_Within.j0, if_neg (by decide), if_pos m0, if_pos m1, if_pos m2, same_f _ _ (by rw [List.length_take]; omega) (by rw [List.length_take]; omega) _ (by rw [List.length_take]; omega), ← near_by]
      simp only [Option.bind_some, decide_eq_true_eq]
      split
      · split
        · rfl
        · split <;> rfl
      · rfl
    · rw [if_neg h2, show (!(tokF b).2) = true by simp [h2], impl_Within.j0, if_pos rfl]
  · rw [if_neg h1, if_neg h1, impl_Within.j0, if_pos rfl]
end Go.Proofs.YtmphkhkbegihaaaDoor.Tok
