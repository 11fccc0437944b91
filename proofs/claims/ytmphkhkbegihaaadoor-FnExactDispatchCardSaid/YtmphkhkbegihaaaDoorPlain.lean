/- Plain laws, with no program in sight: replacing and splitting by equations over lists; what a pointer's token escapes to and stands for. -/
import Derived.Test.YtmphkhkbegihaaaDoorOwn
namespace Go.Proofs.YtmphkhkbegihaaaDoor.Plain
open Go Go.RowKit Go.Proofs.YtmphkhkbegihaaaDoor.Own Go.Proofs.YtmphkhkbegihaaaDoorW.PrintWords
set_option linter.unusedVariables false

/-! ### replacing, by equations -/
theorem index_nil {old : List UInt8} (h : old ≠ []) : Lib.index [] old = -1 := by
  cases old with
  | nil => exact absurd rfl h
  | cons a t => rfl
theorem index_hit {s old : List UInt8} (h0 : old ≠ []) (h : old.isPrefixOf s = true) : Lib.index s old = 0 := by
  cases s with
  | nil => cases old with
    | nil => exact absurd rfl h0
    | cons a t => simp at h
  | cons b l => unfold Lib.index; rw [if_pos h]
theorem index_skip {b : UInt8} {l old : List UInt8} (h : old.isPrefixOf (b :: l) = false) : Lib.index (b :: l) old = if Lib.index l old = -1 then -1 else Lib.index l old + 1 := by
  rw [show Lib.index (b :: l) old = (if old.isPrefixOf (b :: l) then 0 else if Lib.index l old == -1 then -1 else Lib.index l old + 1) from rfl, h]
  by_cases hm : Lib.index l old = -1 <;> simp [hm]
theorem replaceK_skip {b : UInt8} {l old new : List UInt8} (h : old.isPrefixOf (b :: l) = false) : ∀ k, Lib.replaceK old new k (b :: l) = b :: Lib.replaceK old new k l
  | 0 => rfl
  | k + 1 => by
    have hg := Lib.index_ge l old
    unfold Lib.replaceK
    rw [index_skip h]
    by_cases hm : Lib.index l old = -1
    · simp [hm]
    · obtain ⟨i, hi⟩ : ∃ i : Nat, Lib.index l old = i := ⟨(Lib.index l old).toNat, by omega⟩
      have e1 : ((i : Int) + 1 == -1) = false := by rw [beq_eq_false_iff_ne]; omega
      have e2 : ((i : Int) == -1) = false := by rw [beq_eq_false_iff_ne]; omega
      have e3 : ((i : Int) + 1).toNat = i + 1 := by omega
      rw [if_neg hm, hi, e1, e2, e3]
      simp [Nat.add_right_comm i 1 old.length]
theorem replaceK_take {s old new : List UInt8} (h0 : old ≠ []) (h : old.isPrefixOf s = true) (k : Nat) : Lib.replaceK old new (k + 1) s = new ++ Lib.replaceK old new k (s.drop old.length) := by
  rw [Lib.replaceK_hit old new k s 0 (index_hit h0 h)]
  simp
theorem countFrom_skip {b : UInt8} {l old : List UInt8} (h : old.isPrefixOf (b :: l) = false) (f : Nat) : Lib.countFrom old (f + 1) (b :: l) = Lib.countFrom old (f + 1) l := by
  have hg := Lib.index_ge l old
  unfold Lib.countFrom
  rw [index_skip h]
  by_cases hm : Lib.index l old = -1
  · simp [hm]
  · obtain ⟨i, hi⟩ : ∃ i : Nat, Lib.index l old = i := ⟨(Lib.index l old).toNat, by omega⟩
    have e1 : ((i : Int) + 1 == -1) = false := by rw [beq_eq_false_iff_ne]; omega
    have e2 : ((i : Int) == -1) = false := by rw [beq_eq_false_iff_ne]; omega
    have e3 : ((i : Int) + 1).toNat = i + 1 := by omega
    rw [if_neg hm, hi, e1, e2, e3]
    simp [Nat.add_right_comm i 1 old.length]
theorem countFrom_take {s old : List UInt8} (h0 : old ≠ []) (h : old.isPrefixOf s = true) (f : Nat) : Lib.countFrom old (f + 1) s = Lib.countFrom old f (s.drop old.length) + 1 := by
  have e : Lib.countFrom old (f + 1) s = if Lib.index s old == -1 then 0 else 1 + Lib.countFrom old f (s.drop ((Lib.index s old).toNat + old.length)) := rfl
  rw [e, index_hit h0 h]
  have e1 : ((0 : Int) == -1) = false := by decide
  rw [e1]
  simp [Nat.add_comm 1]
theorem countFrom_nil {old : List UInt8} (h0 : old ≠ []) (f : Nat) : Lib.countFrom old f [] = 0 := by
  cases f with
  | zero => rfl
  | succ f => unfold Lib.countFrom; rw [index_nil h0]; rfl
theorem prefix_len {s old : List UInt8} (h : old.isPrefixOf s = true) : old.length ≤ s.length := (List.isPrefixOf_iff_prefix.1 h).length_le

/-- What answers to the three equations is ReplaceAll. -/
theorem replace_by {old new : List UInt8} (h0 : old ≠ []) (h1 : old ≠ new) (T : List UInt8 → List UInt8) (t0 : T [] = []) (t1 : ∀ b l, old.isPrefixOf (b :: l) = false → T (b :: l) = b :: T l)
    (t2 : ∀ s, old.isPrefixOf s = true → T s = new ++ T (s.drop old.length)) (s : List UInt8) : Lib.replaceAll s old new = T s := by
  have key : ∀ n (s : List UInt8) f, s.length ≤ n → s.length < f → Lib.replaceK old new (Lib.countFrom old f s) s = T s := by
    intro n
    induction n with
    | zero =>
      intro s f hs hf
      have : s = [] := List.length_eq_zero_iff.1 (by omega)
      subst this
      rw [countFrom_nil h0, t0]; rfl
    | succ n ih =>
      intro s f hs hf
      obtain ⟨f, rfl⟩ : ∃ g, f = g + 1 := ⟨f - 1, by omega⟩
      have hol : 0 < old.length := List.length_pos_iff.2 h0
      by_cases hp : old.isPrefixOf s = true
      · rw [countFrom_take h0 hp, replaceK_take h0 hp, t2 s hp]
        have := prefix_len hp
        rw [ih (s.drop old.length) f (by simp; omega) (by simp; omega)]
      · have hp : old.isPrefixOf s = false := Bool.eq_false_iff.2 hp
        cases s with
        | nil => rw [countFrom_nil h0, t0]; rfl
        | cons b l =>
          rw [countFrom_skip hp, replaceK_skip hp, t1 b l hp, ih l (f + 1) (by simpa using hs) (by simp at hf; omega)]
  have hb : (old == new) = false := beq_eq_false_iff_ne.2 h1
  unfold Lib.replaceAll Lib.replace
  rw [hb, if_neg (by decide)]
  unfold Lib.replaceNum
  rw [if_pos (Or.inl (by decide))]
  exact key s.length s (s.length + 1) (Nat.le_refl _) (Nat.lt_succ_self _)

/-- ReplaceAll answers to its equations. -/
theorem replace_eqs {old new : List UInt8} (h0 : old ≠ []) (h1 : old ≠ new) : ∃ T : List UInt8 → List UInt8, T [] = [] ∧ (∀ b l, old.isPrefixOf (b :: l) = false → T (b :: l) = b :: T l) ∧
    (∀ s, old.isPrefixOf s = true → T s = new ++ T (s.drop old.length)) := by
  let R : Nat → List UInt8 → List UInt8 := fun f s => Lib.replaceK old new (Lib.countFrom old f s) s
  have r0 : ∀ f, R f [] = [] := fun f => by show Lib.replaceK old new (Lib.countFrom old f []) [] = []; rw [countFrom_nil h0]; rfl
  have r1 : ∀ f b l, old.isPrefixOf (b :: l) = false → R (f + 1) (b :: l) = b :: R (f + 1) l := fun f b l hp => by
    show Lib.replaceK old new (Lib.countFrom old (f + 1) (b :: l)) (b :: l) = _
    rw [countFrom_skip hp, replaceK_skip hp]
  have r2 : ∀ f s, old.isPrefixOf s = true → R (f + 1) s = new ++ R f (s.drop old.length) := fun f s hp => by
    show Lib.replaceK old new (Lib.countFrom old (f + 1) s) s = _
    rw [countFrom_take h0 hp, replaceK_take h0 hp]
  have hol : 0 < old.length := List.length_pos_iff.2 h0
  have fuel : ∀ n (s : List UInt8) f g, s.length ≤ n → s.length < f → s.length < g → R f s = R g s := by
    intro n
    induction n with
    | zero =>
      intro s f g hs _ _
      have : s = [] := List.length_eq_zero_iff.1 (by omega)
      subst this
      rw [r0, r0]
    | succ n ih =>
      intro s f g hs hf hg
      obtain ⟨f, rfl⟩ : ∃ g, f = g + 1 := ⟨f - 1, by omega⟩
      obtain ⟨g, rfl⟩ : ∃ f, g = f + 1 := ⟨g - 1, by omega⟩
      by_cases hp : old.isPrefixOf s = true
      · have := prefix_len hp
        rw [r2 f s hp, r2 g s hp, ih (s.drop old.length) f g (by simp; omega) (by simp; omega) (by simp; omega)]
      · have hp : old.isPrefixOf s = false := Bool.eq_false_iff.2 hp
        cases s with
        | nil => rw [r0, r0]
        | cons b l => rw [r1 f b l hp, r1 g b l hp, ih l (f + 1) (g + 1) (by simpa using hs) (by simp at hf; omega) (by simp at hg; omega)]
  refine ⟨fun s => R (s.length + 1) s, r0 _, fun b l hp => ?_, fun s hp => ?_⟩
  · show R (l.length + 1 + 1) (b :: l) = b :: R (l.length + 1) l
    rw [r1 _ _ _ hp, fuel l.length l (l.length + 1 + 1) (l.length + 1) (Nat.le_refl _) (by omega) (by omega)]
  · show R (s.length + 1) s = new ++ R ((s.drop old.length).length + 1) (s.drop old.length)
    have := prefix_len hp
    rw [r2 _ _ hp, fuel (s.drop old.length).length _ s.length _ (Nat.le_refl _) (by simp; omega) (Nat.lt_succ_self _)]
theorem ra_nil {old new : List UInt8} (h0 : old ≠ []) (h1 : old ≠ new) : Lib.replaceAll [] old new = [] := by
  obtain ⟨T, t0, t1, t2⟩ := replace_eqs h0 h1
  rw [replace_by h0 h1 T t0 t1 t2, t0]
theorem ra_skip {old new : List UInt8} (h0 : old ≠ []) (h1 : old ≠ new) (b : UInt8) (l : List UInt8) (h : old.isPrefixOf (b :: l) = false) : Lib.replaceAll (b :: l) old new = b :: Lib.replaceAll l old new := by
  obtain ⟨T, t0, t1, t2⟩ := replace_eqs h0 h1
  rw [replace_by h0 h1 T t0 t1 t2, replace_by h0 h1 T t0 t1 t2, t1 b l h]
theorem ra_take {old new : List UInt8} (h0 : old ≠ []) (h1 : old ≠ new) (s : List UInt8) (h : old.isPrefixOf s = true) : Lib.replaceAll s old new = new ++ Lib.replaceAll (s.drop old.length) old new := by
  obtain ⟨T, t0, t1, t2⟩ := replace_eqs h0 h1
  rw [replace_by h0 h1 T t0 t1 t2, replace_by h0 h1 T t0 t1 t2, t2 s h]

/-! ### a token's text -/
/-! ### what a token stands for -/
def dec : List UInt8 → Option (List UInt8)
  | [] => some []
  | 126 :: 48 :: r => (dec r).map (126 :: ·)
  | 126 :: 49 :: r => (dec r).map (47 :: ·)
  | c :: r => if c = 126 then none else (dec r).map (c :: ·)
theorem dec_nil : dec [] = some [] := by unfold dec; rfl
theorem dec_0 (r : List UInt8) : dec (126 :: 48 :: r) = (dec r).map (126 :: ·) := by rw [dec]
theorem dec_1 (r : List UInt8) : dec (126 :: 49 :: r) = (dec r).map (47 :: ·) := by rw [dec]
theorem dec_c (c : UInt8) (r : List UInt8) (h : c ≠ 126) : dec (c :: r) = (dec r).map (c :: ·) := by
  rw [dec, if_neg h]
  · intro r e _; exact absurd e h
  · intro r e _; exact absurd e h
theorem dec_bad1 : dec [126] = none := by decide
theorem dec_bad (d : UInt8) (r : List UInt8) (h0 : d ≠ 48) (h1 : d ≠ 49) : dec (126 :: d :: r) = none := by
  rw [dec, if_pos rfl]
  · intro r _ e; injection e with e _; exact absurd e h0
  · intro r _ e; injection e with e _; exact absurd e h1
def unL (l : List UInt8) : List UInt8 := Lib.replaceAll (Lib.replaceAll l [126, 49] [47]) [126, 48] [126]
theorem dec_un : ∀ n (l d : List UInt8), l.length ≤ n → dec l = some d → unL l = d
  | 0, l, d, hn, h => by
    have : l = [] := List.length_eq_zero_iff.1 (by omega)
    subst this
    rw [dec_nil] at h
    obtain rfl := Option.some.inj h
    unfold unL
    rw [ra_nil (by decide) (by decide), ra_nil (by decide) (by decide)]
  | n + 1, l, d, hn, h => by
    match l, hn, h with
    | [], _, h =>
      rw [dec_nil] at h
      obtain rfl := Option.some.inj h
      unfold unL
      rw [ra_nil (by decide) (by decide), ra_nil (by decide) (by decide)]
    | c :: r, hn, h =>
      by_cases hc : c = 126
      · subst hc
        match r, hn, h with
        | [], _, h => rw [dec_bad1] at h; exact absurd h (by simp)
        | e :: r, hn, h =>
          by_cases h0 : e = 48
          · subst h0
            rw [dec_0] at h
            obtain ⟨d', h', rfl⟩ := Option.map_eq_some_iff.1 h
            have ih := dec_un n r d' (by simp at hn; omega) h'
            unfold unL at ih ⊢
            rw [ra_skip (by decide) (by decide) 126 (48 :: r) (by simp [List.isPrefixOf]), ra_skip (by decide) (by decide) 48 r (by simp [List.isPrefixOf]), ra_take (by decide) (by decide) (126 :: 48 :: _) (by simp [List.isPrefixOf])]
            show 126 :: Lib.replaceAll (Lib.replaceAll r [126, 49] [47]) [126, 48] [126] = 126 :: d'
            rw [ih]
          · by_cases h1 : e = 49
            · subst h1
              rw [dec_1] at h
              obtain ⟨d', h', rfl⟩ := Option.map_eq_some_iff.1 h
              have ih := dec_un n r d' (by simp at hn; omega) h'
              unfold unL at ih ⊢
              rw [ra_take (by decide) (by decide) (126 :: 49 :: r) (by simp [List.isPrefixOf])]
              show Lib.replaceAll (47 :: Lib.replaceAll r [126, 49] [47]) [126, 48] [126] = 47 :: d'
              rw [ra_skip (by decide) (by decide) 47 _ (by simp [List.isPrefixOf]), ih]
            · rw [dec_bad e r h0 h1] at h; exact absurd h (by simp)
      · rw [dec_c c r hc] at h
        obtain ⟨d', h', rfl⟩ := Option.map_eq_some_iff.1 h
        have ih := dec_un n r d' (by simp at hn; omega) h'
        unfold unL at ih ⊢
        rw [ra_skip (by decide) (by decide) c r (by simp [List.isPrefixOf]; intro e; exact absurd e.symm hc), ra_skip (by decide) (by decide) c _ (by simp [List.isPrefixOf]; intro e; exact absurd e.symm hc), ih]
/-! ### splitting at a byte -/
def splitL : List UInt8 → List (List UInt8)
  | [] => [[]]
  | c :: l => if c = 47 then [] :: splitL l else match splitL l with
    | [] => [[c]]
    | h :: t => (c :: h) :: t
theorem splitL_ne : ∀ l, splitL l ≠ []
  | [] => by simp [splitL]
  | c :: l => by
    unfold splitL
    split
    · simp
    · split <;> simp
theorem splitK_eq : ∀ n (l : List UInt8) f, l.length ≤ n → l.length < f → Lib.splitK [47] 0 (Lib.countFrom [47] f l) l = splitL l
  | 0, l, f, hn, hf => by
    have : l = [] := List.length_eq_zero_iff.1 (by omega)
    subst this
    rw [countFrom_nil (by decide)]
    rfl
  | n + 1, [], f, hn, hf => by rw [countFrom_nil (by decide)]; rfl
  | n + 1, c :: l, f, hn, hf => by
    obtain ⟨f, rfl⟩ : ∃ g, f = g + 1 := ⟨f - 1, by omega⟩
    by_cases h : c = 47
    · subst h
      have hp : [(47 : UInt8)].isPrefixOf (47 :: l) = true := by simp
      rw [countFrom_take (by decide) hp]
      unfold Lib.splitK splitL
      rw [index_hit (by decide) hp, if_pos rfl]
      have e1 : ((0 : Int) == -1) = false := by decide
      rw [e1]
      have ih := splitK_eq n l f (by simpa using hn) (by simp at hf; omega)
      simpa using ih
    · have hp : [(47 : UInt8)].isPrefixOf (c :: l) = false := by simp [List.isPrefixOf]; exact fun e => h e.symm
      have ih := splitK_eq n l (f + 1) (by simpa using hn) (by simp at hf; omega)
      rw [countFrom_skip hp]
      unfold splitL
      rw [if_neg h, ← ih]
      generalize Lib.countFrom [47] (f + 1) l = k
      cases k with
      | zero => rfl
      | succ k =>
        have hg := Lib.index_ge l [47]
        unfold Lib.splitK
        rw [index_skip hp]
        by_cases hm : Lib.index l [47] = -1
        · simp [hm]
        · obtain ⟨i, hi⟩ : ∃ i : Nat, Lib.index l [47] = i := ⟨(Lib.index l [47]).toNat, by omega⟩
          have e1 : ((i : Int) + 1 == -1) = false := by rw [beq_eq_false_iff_ne]; omega
          have e2 : ((i : Int) == -1) = false := by rw [beq_eq_false_iff_ne]; omega
          have e3 : ((i : Int) + 1).toNat = i + 1 := by omega
          rw [if_neg hm, hi, e1, e2, e3]
          simp [Nat.add_right_comm i 1]
theorem split_eq (l : List UInt8) : Lib.splitK [47] 0 (Lib.count l [47]) l = splitL l := splitK_eq l.length l (l.length + 1) (Nat.le_refl _) (Nat.lt_succ_self _)
end Go.Proofs.YtmphkhkbegihaaaDoor.Plain
