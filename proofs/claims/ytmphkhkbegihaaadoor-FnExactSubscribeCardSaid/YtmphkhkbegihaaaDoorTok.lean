/- Plain laws of pointers: what tokens a text has, and how two lie to each other; no program in sight. -/
import Derived.Test.YtmphkhkbegihaaaDoorPlain
import Derived.Test.YtmphkhkbegihaaaDoorPHubx
namespace Go.Proofs.YtmphkhkbegihaaaDoor.Tok
open Go Go.RowKit Go.Proofs.YtmphkhkbegihaaaDoor.PHub Go.Proofs.YtmphkhkbegihaaaDoor.Own Go.Proofs.YtmphkhkbegihaaaDoor.Plain Go.Proofs.YtmphkhkbegihaaaDoorW.PrintWords Go.Proofs.YtmphkhkbegihaaaDoorW.PrintLast Go.Proofs.YtmphkhkbegihaaaDoorW.PrintMore
set_option linter.unusedVariables false
set_option linter.unusedSimpArgs false
theorem w64 {n : Int} (h : -9223372036854775808 ≤ n) (h2 : n ≤ 9223372036854775807) : wrap64 n = n := by unfold wrap64; omega
def toI (l : List UInt8) : List Int := l.map fun b => (b.toNat : Int)
theorem strOf_toI (l : List UInt8) : strOfNums (toI l) = ⟨l.toArray⟩ := by
  unfold strOfNums toI
  congr 2
  rw [List.map_map]
  conv => rhs; rw [← List.map_id l]
  apply List.map_congr_left
  intro b _
  show UInt8.ofNat ((b.toNat : Int)).toNat = b
  rw [Int.toNat_natCast, UInt8.ofNat_toNat]
theorem u8_ne {b : UInt8} (c : UInt8) (n : Int) (hn : (c.toNat : Int) = n) (h : ¬ b = c) : ¬ (b.toNat : Int) = n := by
  intro e
  exact h (UInt8.toNat_inj.1 (by omega))
theorem bt_cons (t : ByteArray) (i : Nat) (h : i < t.size) : ∃ b : UInt8, t.data.toList.drop i = b :: t.data.toList.drop (i + 1) ∧ bt t (i : Int) = (b.toNat : Int) := by
  have h' : i < t.data.toList.length := by rw [← Lib.size_eq]; exact h
  refine ⟨t.data.toList[i], (List.drop_eq_getElem_cons h'), ?_⟩
  unfold bt
  rw [dif_pos (by simpa using h)]
  rfl
theorem dl_len (t : ByteArray) : t.data.toList.length = t.size := (Lib.size_eq t).symm

theorem l1At_f (t : ByteArray) (i : Nat) (c : Int) : spec_l1At.f t (i : Int) c = some (if i < t.size then bt t i == c else false) := by
  unfold spec_l1At.f
  by_cases h : i < t.size
  · rw [if_pos (by omega), if_pos (by omega), if_pos h]
  · rw [if_neg (by omega), if_neg h]
def tokR (acc : List Int) (o : Option (List UInt8)) : ByteArray × Bool := match o with
  | some r => (strOfNums (acc ++ toI r), true)
  | none => (⟨#[]⟩, false)
theorem tokR_map (acc : List Int) (o : Option (List UInt8)) (c : UInt8) : tokR acc (o.map (c :: ·)) = tokR (acc ++ [(c.toNat : Int)]) o := by
  cases o with
  | none => rfl
  | some r => simp [tokR, toI]
theorem tok_loop (t : ByteArray) (hs : t.size ≤ 4194304) : ∀ (n d k i : Nat) (acc : List Int), d ≤ n → t.size - i = d → i ≤ t.size → d < k → acc.length + d ≤ 100000000 →
    spec_l1Token.l0 k t acc (i : Int) = some (tokR acc (dec (t.data.toList.drop i)))
  | n, 0, k, i, acc, hn, hd, hi, hk, ha => by
    obtain ⟨k, rfl⟩ : ∃ j, k = j + 1 := ⟨k - 1, by omega⟩
    rw [spec_l1Token.l0, if_neg (by omega), List.drop_of_length_le (by rw [dl_len]; omega), dec_nil]
    simp [tokR, toI]
  | 0, d + 1, k, i, acc, hn, hd, hi, hk, ha => by omega
  | n + 1, d + 1, k, i, acc, hn, hd, hi, hk, ha => by
    obtain ⟨k, rfl⟩ : ∃ j, k = j + 1 := ⟨k - 1, by omega⟩
    have e2 : wrap64 ((i : Int) + 1) = ((i + 1 : Nat) : Int) := by rw [w64 (by omega) (by omega)]; omega
    have e3 : wrap64 (((i + 1 : Nat) : Int) + 1) = ((i + 2 : Nat) : Int) := by rw [w64 (by omega) (by omega)]; omega
    obtain ⟨b, hb, hbt⟩ := bt_cons t i (by omega)
    rw [spec_l1Token.l0, if_pos (by omega), if_pos (by omega), hbt, hb, e2, l1At_f, l1At_f, e3]
    simp only [Option.bind_some]
    by_cases h1 : b = 126
    · subst h1
      rw [if_pos (by decide)]
      by_cases hi1 : i + 1 < t.size
      · obtain ⟨c, hc, hct⟩ := bt_cons t (i + 1) hi1
        rw [if_pos hi1, if_pos hi1, hct, hc]
        by_cases c0 : c = 48
        · subst c0
          rw [if_pos (by decide), if_pos (by omega), dec_0, tokR_map]
          exact tok_loop t hs n (t.size - (i + 2)) k (i + 2) _ (by omega) (by omega) (by omega) (by omega) (by simp; omega)
        · rw [if_neg (fun e => u8_ne 48 48 (by decide) c0 (beq_iff_eq.1 e))]
          by_cases c1 : c = 49
          · subst c1
            rw [if_pos (by decide), if_pos (by omega), dec_1, tokR_map]
            exact tok_loop t hs n (t.size - (i + 2)) k (i + 2) _ (by omega) (by omega) (by omega) (by omega) (by simp; omega)
          · rw [if_neg (fun e => u8_ne 49 49 (by decide) c1 (beq_iff_eq.1 e)), dec_bad _ _ c0 c1]
            rfl
      · rw [if_neg hi1, if_neg hi1, if_neg (by decide), if_neg (by decide), List.drop_of_length_le (by rw [dl_len]; omega), dec_bad1]
        rfl
    · rw [if_neg (u8_ne 126 126 (by decide) h1), if_pos (by omega), dec_c _ _ h1, tokR_map]
      exact tok_loop t hs n d k (i + 1) _ (by omega) (by omega) (by omega) (by omega) (by simp; omega)
theorem tok_f (t : ByteArray) (hs : t.size ≤ 4194304) (k : Nat) (hk : t.size < k) : spec_l1Token.f k t = some (tokR [] (dec t.data.toList)) := by
  unfold spec_l1Token.f
  have := tok_loop t hs t.size t.size k 0 [] (Nat.le_refl _) (by omega) (by omega) hk (by simp; omega)
  rw [show (0 : Int) = ((0 : Nat) : Int) from rfl, this, List.drop_zero]

/-- All parts well-formed: what they stand for, behind acc. -/
def R (acc : List ByteArray) : List (List UInt8) → List ByteArray × Bool
  | [] => (acc, true)
  | p :: ps => match dec p with
    | none => ([], false)
    | some r => R (acc ++ [⟨r.toArray⟩]) ps
def tokF (a : ByteArray) : List ByteArray × Bool := if a.size = 0 then ([], true) else if bt a 0 = 47 then R [] (splitL (a.data.toList.drop 1)) else ([], false)

theorem toks_loop (x : ByteArray) (hs : x.size ≤ 4194304) : ∀ (d k s i : Nat) (acc : List ByteArray) (h : List UInt8) (tl : List (List UInt8)), x.size - i = d → i ≤ x.size → s ≤ i → 2 * d + 5 + x.size ≤ k → acc.length + d ≤ 100000000 →
    splitL (x.data.toList.drop i) = h :: tl →
    spec_PtrTokens.l0 k x acc (s : Int) (i : Int) = some (R acc ((((x.data.toList.drop s).take (i - s)) ++ h) :: tl))
  | 0, k, s, i, acc, h, tl, hd, hi, hsi, hk, ha, hsp => by
    obtain ⟨k, rfl⟩ : ∃ j, k = j + 3 := ⟨k - 3, by omega⟩
    have e : i = x.size := by omega
    subst e
    rw [List.drop_of_length_le (by rw [dl_len]; omega)] at hsp
    injection hsp with h1 h2
    subst h1; subst h2
    have e2 : wrap64 ((x.size : Int) + 1) = ((x.size + 1 : Nat) : Int) := by rw [w64 (by omega) (by omega)]; omega
    rw [spec_PtrTokens.l0, if_pos (by omega), if_pos rfl, spec_PtrTokens.j1, if_pos rfl, if_pos (by omega), if_pos (by omega), if_pos (by omega), e2,
      tok_f _ (by rw [ByteArray.size_extract]; omega) (k + 1) (by rw [ByteArray.size_extract]; omega)]
    simp only [Option.bind_some, List.append_nil, Int.toNat_natCast]
    rw [show (x.extract s x.size).data.toList = (x.data.toList.drop s).take (x.size - s) from by rw [← Lib.toList_data, Lib.extract_toList]]
    cases hdec : dec ((x.data.toList.drop s).take (x.size - s)) with
    | none => simp [tokR, R, hdec]
    | some r =>
      simp only [tokR, R, hdec]
      rw [if_pos trivial, if_pos (by omega), spec_PtrTokens.l0, if_neg (by omega), List.nil_append, strOf_toI]
  | d + 1, k, s, i, acc, h, tl, hd, hi, hsi, hk, ha, hsp => by
    obtain ⟨k, rfl⟩ : ∃ j, k = j + 3 := ⟨k - 3, by omega⟩
    have e2 : wrap64 ((i : Int) + 1) = ((i + 1 : Nat) : Int) := by rw [w64 (by omega) (by omega)]; omega
    obtain ⟨b, hb, hbt⟩ := bt_cons x i (by omega)
    have hpre : (x.data.toList.drop s).take (i + 1 - s) = (x.data.toList.drop s).take (i - s) ++ [b] := by
      rw [show i + 1 - s = (i - s) + 1 by omega, List.take_add_one]
      congr 1
      rw [List.getElem?_drop, show s + (i - s) = i by omega]
      have : (x.data.toList.drop i)[0]? = some b := by rw [hb]; rfl
      rw [List.getElem?_drop] at this
      rw [show i + 0 = i from rfl] at this
      rw [this]; rfl
    rw [spec_PtrTokens.l0, if_pos (by omega), if_neg (by omega), if_pos (by omega), if_pos (by omega), hbt, spec_PtrTokens.j1]
    rw [hb] at hsp
    by_cases h1 : b = 47
    · subst h1
      rw [splitL, if_pos rfl] at hsp
      injection hsp with h1 h2
      subst h1
      rw [if_pos (by decide), if_pos (by omega), if_pos (by omega), if_pos (by omega), e2,
        tok_f _ (by rw [ByteArray.size_extract]; omega) (k + 1) (by rw [ByteArray.size_extract]; omega)]
      simp only [Option.bind_some, List.append_nil, Int.toNat_natCast]
      rw [show (x.extract s i).data.toList = (x.data.toList.drop s).take (i - s) from by rw [← Lib.toList_data, Lib.extract_toList]]
      cases hdec : dec ((x.data.toList.drop s).take (i - s)) with
      | none => simp [tokR, R, hdec]
      | some r =>
        simp only [tokR, R, hdec]
        cases hl : splitL (x.data.toList.drop (i + 1)) with
        | nil => exact absurd hl (splitL_ne _)
        | cons h' tl' =>
          rw [hl] at h2
          subst h2
          rw [if_pos trivial, if_pos (by omega), toks_loop x hs d (k + 1) (i + 1) (i + 1) _ h' tl' (by omega) (by omega) (by omega) (by omega) (by simp; omega) hl, Nat.sub_self, List.take_zero, List.nil_append, List.nil_append, strOf_toI]
    · rw [splitL, if_neg h1] at hsp
      rw [if_neg (fun e => u8_ne 47 47 (by decide) h1 (beq_iff_eq.1 e)), e2]
      cases hl : splitL (x.data.toList.drop (i + 1)) with
      | nil => exact absurd hl (splitL_ne _)
      | cons h' tl' =>
        rw [hl] at hsp
        injection hsp with h2 h3
        subst h2; subst h3
        rw [toks_loop x hs d (k + 1) s (i + 1) acc h' tl' (by omega) (by omega) (by omega) (by omega) (by omega) hl, hpre, List.append_assoc]
        rfl
theorem specPtrTokens (a : ByteArray) (hs : a.size ≤ 4194304) (k : Nat) (hk : 3 * a.size + 5 ≤ k) : spec_PtrTokens.f k a = some (tokF a) := by
  unfold spec_PtrTokens.f tokF
  simp only [Option.bind_some]
  by_cases h0 : a.size = 0
  · have : a.toList = [] := by rw [Lib.toList_data]; exact List.length_eq_zero_iff.1 (by rw [dl_len]; exact h0)
    rw [if_pos this, if_pos h0]
  · have : ¬ a.toList = [] := by
      rw [Lib.toList_data]; intro e; exact h0 (by rw [← dl_len, e]; rfl)
    rw [if_neg this, if_neg h0, if_pos (by omega)]
    by_cases h1 : bt a 0 = 47
    · rw [if_pos h1, if_pos h1]
      cases hl : splitL (a.data.toList.drop 1) with
      | nil => exact absurd hl (splitL_ne _)
      | cons h tl =>
        have := toks_loop a hs (a.size - 1) k 1 1 [] h tl (by omega) (by omega) (by omega) (by omega) (by simp; omega) hl
        rw [show (1 : Int) = ((1 : Nat) : Int) from rfl, this, Nat.sub_self, List.take_zero, List.nil_append]
    · rw [if_neg h1, if_neg h1]

theorem chk_dec (t : ByteArray) : ∀ (n d i : Nat), d ≤ n → t.size - i = d → i ≤ t.size → chk t d i = (dec (t.data.toList.drop i)).isSome
  | n, 0, i, hn, hd, hi => by
    rw [List.drop_of_length_le (by rw [dl_len]; omega), dec_nil]; rfl
  | 0, d + 1, i, hn, hd, hi => by omega
  | n + 1, d + 1, i, hn, hd, hi => by
    obtain ⟨b, hb, hbt⟩ := bt_cons t i (by omega)
    rw [chk, hb]
    by_cases h1 : b = 126
    · subst h1
      by_cases hi1 : i + 1 < t.size
      · obtain ⟨c, hc, hct⟩ := bt_cons t (i + 1) hi1
        have hct' : bt t ((i : Int) + 1) = (c.toNat : Int) := by rw [← hct]; congr 1
        obtain ⟨d, rfl⟩ : ∃ e, d = e + 1 := ⟨d - 1, by omega⟩
        have hb1 : badTok t (i + 1) = (c == 126 && badTok t (i + 1)) := by
          by_cases hc6 : c = 126
          · subst hc6; simp
          · have : ¬ (bt t ((i : Int) + 1) = 126) := by rw [hct']; exact u8_ne 126 126 (by decide) hc6
            unfold badTok
            simp [this, hc6]
        have hc2 : chk t (d + 1) (i + 1) = if badTok t (i + 1) = true then false else chk t d (i + 2) := rfl
        rw [hc, hc2]
        by_cases c0 : c = 48
        · subst c0
          have e1 : badTok t i = false := by unfold badTok; rw [hct']; simp; intro _; omega
          have e4 : badTok t (i + 1) = false := by rw [hb1]; rfl
          rw [e1, e4, dec_0]
          simp only [Bool.false_eq_true, if_false]
          rw [chk_dec t n d (i + 2) (by omega) (by omega) (by omega)]
          simp
        · by_cases c1 : c = 49
          · subst c1
            have e1 : badTok t i = false := by unfold badTok; rw [hct']; simp; intro _; omega
            have e4 : badTok t (i + 1) = false := by rw [hb1]; rfl
            rw [e1, e4, dec_1]
            simp only [Bool.false_eq_true, if_false]
            rw [chk_dec t n d (i + 2) (by omega) (by omega) (by omega)]
            simp
          · have e1 : badTok t i = true := by
              unfold badTok
              have q0 : ¬ ((c.toNat : Int) = 48) := u8_ne 48 48 (by decide) c0
              have q1 : ¬ ((c.toNat : Int) = 49) := u8_ne 49 49 (by decide) c1
              rw [hct', hbt]
              simp [q0, q1]
            rw [e1, dec_bad _ _ c0 c1]
            rfl
      · have e1 : badTok t i = true := by
          unfold badTok
          rw [hbt]
          have : (i : Int) + 1 = t.size := by omega
          simp [this]
        rw [e1, List.drop_of_length_le (by rw [dl_len]; omega), dec_bad1]
        rfl
    · have e1 : badTok t i = false := by
        unfold badTok
        have : ¬ (bt t (i : Int) = 126) := by rw [hbt]; exact u8_ne 126 126 (by decide) h1
        simp [this]
      rw [e1, dec_c _ _ h1]
      simp only [Bool.false_eq_true, if_false]
      rw [chk_dec t n d (i + 1) (by omega) (by omega) (by omega)]
      simp
theorem good_dec (t : ByteArray) : goodT t = (dec t.data.toList).isSome := by
  unfold goodT
  rw [chk_dec t t.size t.size 0 (Nat.le_refl _) (by omega) (by omega), List.drop_zero]
theorem un_dec (t : ByteArray) (r : List UInt8) (h : dec t.data.toList = some r) : unT t = ⟨r.toArray⟩ := by
  show (⟨(unL t.data.toList).toArray⟩ : ByteArray) = _
  rw [dec_un _ _ _ (Nat.le_refl _) h]
theorem R_parts : ∀ (ps : List ByteArray) (acc : List ByteArray), R acc (ps.map (·.data.toList)) = if ps.all goodT then (acc ++ ps.map unT, true) else ([], false)
  | [], acc => by simp [R]
  | p :: ps, acc => by
    rw [List.map_cons, R, List.all_cons, good_dec p]
    cases hd : dec p.data.toList with
    | none => simp
    | some r =>
      show R (acc ++ [⟨r.toArray⟩]) (ps.map (·.data.toList)) = _
      rw [R_parts ps]; simp [un_dec p r hd]
theorem parts_data (a : ByteArray) : (parts a).map (·.data.toList) = splitL (a.data.toList.drop 1) := by
  unfold parts
  rw [Lib.splitB_data]
  have e : (a.extract 1 a.size).data.toList = a.data.toList.drop 1 := by
    rw [← Lib.toList_data, Lib.extract_toList, List.take_of_length_le (by simp)]
  rw [e, ← split_eq]
  congr 1
  unfold Lib.countB
  rw [e]
theorem implPtrTokens (a : ByteArray) (hs : a.size ≤ 4194304) : impl_PtrTokens.f a = some (tokF a) := by
  unfold impl_PtrTokens.f tokF
  rw [if_pos hs]
  by_cases h0 : a.size = 0
  · rw [if_pos h0, if_pos h0]
  · rw [if_neg h0, if_neg h0]
    by_cases h1 : bt a 0 = 47
    · rw [if_pos h1, if_pos h1, ← parts_data, R_parts]
      split <;> simp
    · rw [if_neg h1, if_neg h1]
end Go.Proofs.YtmphkhkbegihaaaDoor.Tok
