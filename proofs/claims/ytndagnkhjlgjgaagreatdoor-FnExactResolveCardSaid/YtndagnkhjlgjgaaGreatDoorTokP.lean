/- Plain laws, with no program in sight: replacing and splitting by equations over lists; what a pointer's token escapes to and stands for. -/
import Derived.Test.YtndagnkhjlgjgaaGreatDoorPtk
namespace Go.Proofs.YtndagnkhjlgjgaaGreatDoor.PtPl
open Go Go.RowKit Ptk YtndagnkhjlgjgaaGreatDoorW.PrintWords
set_option linter.unusedVariables false
theorem index_nil {old : List UInt8} (h : old ≠ []) : Lib.index [] old = -1 := by
 cases old with
 | nil => exact absurd rfl h
 | cons a t => rfl
theorem index_hit {s old : List UInt8} (h0 : old ≠ []) (h : old.isPrefixOf s = true) : Lib.index s old = 0 := by
 cases s with
 | nil => cases old with
  | nil => exact absurd rfl h0
  | cons a t => simp at h
 | cons b l => unfold Lib.index; rw [if_pos h]
theorem index_skip {b : UInt8} {l old : List UInt8} (h : old.isPrefixOf (b :: l) = false) : Lib.index (b :: l) old = if Lib.index l old = -1 then -1 else Lib.index l old + 1 := by
 rw [show Lib.index (b :: l) old = (if old.isPrefixOf (b :: l) then 0 else if Lib.index l old == -1 then -1 else Lib.index l old + 1) from rfl, h]
 by_cases hm : Lib.index l old = -1 <;> simp [hm]
theorem replaceK_skip {b : UInt8} {l old new : List UInt8} (h : old.isPrefixOf (b :: l) = false) : ∀ k, Lib.replaceK old new k (b :: l) = b :: Lib.replaceK old new k l
 | 0 => rfl
 | k + 1 => by
  have hg := Lib.index_ge l old
  unfold Lib.replaceK
  rw [index_skip h]
  by_cases hm : Lib.index l old = -1
  ·simp [hm]
  ·obtain ⟨i, hi⟩ : ∃ i : Nat, Lib.index l old = i := ⟨(Lib.index l old).toNat, by omega⟩
   have e1 : ((i : Int) + 1 == -1) = false := by rw [beq_eq_false_iff_ne]; omega
   have e2 : ((i : Int) == -1) = false := by rw [beq_eq_false_iff_ne]; omega
   have e3 : ((i : Int) + 1).toNat = i + 1 := by omega
   rw [if_neg hm, hi, e1, e2, e3]
   simp [Nat.add_right_comm i 1 old.length]
theorem replaceK_take {s old new : List UInt8} (h0 : old ≠ []) (h : old.isPrefixOf s = true) (k : Nat) : Lib.replaceK old new (k + 1) s = new ++ Lib.replaceK old new k (s.drop old.length) := by
 rw [Lib.replaceK_hit old new k s 0 (index_hit h0 h)]
 simp
theorem countFrom_skip {b : UInt8} {l old : List UInt8} (h : old.isPrefixOf (b :: l) = false) (f : Nat) : Lib.countFrom old (f + 1) (b :: l) = Lib.countFrom old (f + 1) l := by
 have hg := Lib.index_ge l old
 unfold Lib.countFrom
 rw [index_skip h]
 by_cases hm : Lib.index l old = -1
 ·simp [hm]
 ·obtain ⟨i, hi⟩ : ∃ i : Nat, Lib.index l old = i := ⟨(Lib.index l old).toNat, by omega⟩
  have e1 : ((i : Int) + 1 == -1) = false := by rw [beq_eq_false_iff_ne]; omega
  have e2 : ((i : Int) == -1) = false := by rw [beq_eq_false_iff_ne]; omega
  have e3 : ((i : Int) + 1).toNat = i + 1 := by omega
  rw [if_neg hm, hi, e1, e2, e3]
  simp [Nat.add_right_comm i 1 old.length]
theorem countFrom_take {s old : List UInt8} (h0 : old ≠ []) (h : old.isPrefixOf s = true) (f : Nat) : Lib.countFrom old (f + 1) s = Lib.countFrom old f (s.drop old.length) + 1 := by
 have e : Lib.countFrom old (f + 1) s = if Lib.index s old == -1 then 0 else 1 + Lib.countFrom old f (s.drop ((Lib.index s old).toNat + old.length)) := rfl
 rw [e, index_hit h0 h]
 have e1 : ((0 : Int) == -1) = false := by decide
 rw [e1]
 simp [Nat.add_comm 1]
theorem countFrom_nil {old : List UInt8} (h0 : old ≠ []) (f : Nat) : Lib.countFrom old f [] = 0 := by
 cases f with
 | zero => rfl
 | succ f => unfold Lib.countFrom; rw [index_nil h0]; rfl
theorem prefix_len {s old : List UInt8} (h : old.isPrefixOf s = true) : old.length ≤ s.length := (List.isPrefixOf_iff_prefix.1 h).length_le
theorem replace_by {old new : List UInt8} (h0 : old ≠ []) (h1 : old ≠ new) (T : List UInt8 → List UInt8) (t0 : T [] = []) (t1 : ∀ b l, old.isPrefixOf (b :: l) = false → T (b :: l) = b :: T l)
  (t2 : ∀ s, old.isPrefixOf s = true → T s = new ++ T (s.drop old.length)) (s : List UInt8) : Lib.replaceAll s old new = T s := by
 have key : ∀ n (s : List UInt8) f, s.length ≤ n → s.length < f → Lib.replaceK old new (Lib.countFrom old f s) s = T s := by
  intro n
  induction n with
  | zero =>
   intro s f hs hf
   have : s = [] := List.length_eq_zero_iff.1 (by omega)
   subst this
   rw [countFrom_nil h0, t0]; rfl
  | succ n ih =>
   intro s f hs hf
   obtain ⟨f, rfl⟩ : ∃ g, f = g + 1 := ⟨f - 1, by omega⟩
   have hol : 0 < old.length := List.length_pos_iff.2 h0
   by_cases hp : old.isPrefixOf s = true
   ·rw [countFrom_take h0 hp, replaceK_take h0 hp, t2 s hp]
    have := prefix_len hp
    rw [ih (s.drop old.length) f (by simp; omega) (by simp; omega)]
   ·have hp : old.isPrefixOf s = false := Bool.eq_false_iff.2 hp
    cases s with
    | nil => rw [countFrom_nil h0, t0]; rfl
    | cons b l =>
     rw [countFrom_skip hp, replaceK_skip hp, t1 b l hp, ih l (f + 1) (by simpa using hs) (by simp at hf; omega)]
 have hb : (old == new) = false := beq_eq_false_iff_ne.2 h1
 unfold Lib.replaceAll Lib.replace
 rw [hb, if_neg (by decide)]
 unfold Lib.replaceNum
 rw [if_pos (Or.inl (by decide))]
 exact key s.length s (s.length + 1) (Nat.le_refl _) (Nat.lt_succ_self _)
theorem replace_eqs {old new : List UInt8} (h0 : old ≠ []) (h1 : old ≠ new) : ∃ T : List UInt8 → List UInt8, T [] = [] ∧ (∀ b l, old.isPrefixOf (b :: l) = false → T (b :: l) = b :: T l) ∧
  (∀ s, old.isPrefixOf s = true → T s = new ++ T (s.drop old.length)) := by
 let R : Nat → List UInt8 → List UInt8 := fun f s => Lib.replaceK old new (Lib.countFrom old f s) s
 have r0 : ∀ f, R f [] = [] := fun f => by show Lib.replaceK old new (Lib.countFrom old f []) [] = []; rw [countFrom_nil h0]; rfl
 have r1 : ∀ f b l, old.isPrefixOf (b :: l) = false → R (f + 1) (b :: l) = b :: R (f + 1) l := fun f b l hp => by
  show Lib.replaceK old new (Lib.countFrom old (f + 1) (b :: l)) (b :: l) = _
  rw [countFrom_skip hp, replaceK_skip hp]
 have r2 : ∀ f s, old.isPrefixOf s = true → R (f + 1) s = new ++ R f (s.drop old.length) := fun f s hp => by
  show Lib.replaceK old new (Lib.countFrom old (f + 1) s) s = _
  rw [countFrom_take h0 hp, replaceK_take h0 hp]
 have hol : 0 < old.length := List.length_pos_iff.2 h0
 have fuel : ∀ n (s : List UInt8) f g, s.length ≤ n → s.length < f → s.length < g → R f s = R g s := by
  intro n
  induction n with
  | zero =>
   intro s f g hs _ _
   have : s = [] := List.length_eq_zero_iff.1 (by omega)
   subst this
   rw [r0, r0]
  | succ n ih =>
   intro s f g hs hf hg
   obtain ⟨f, rfl⟩ : ∃ g, f = g + 1 := ⟨f - 1, by omega⟩
   obtain ⟨g, rfl⟩ : ∃ f, g = f + 1 := ⟨g - 1, by omega⟩
   by_cases hp : old.isPrefixOf s = true
   ·have := prefix_len hp
    rw [r2 f s hp, r2 g s hp, ih (s.drop old.length) f g (by simp; omega) (by simp; omega) (by simp; omega)]
   ·have hp : old.isPrefixOf s = false := Bool.eq_false_iff.2 hp
    cases s with
    | nil => rw [r0, r0]
    | cons b l => rw [r1 f b l hp, r1 g b l hp, ih l (f + 1) (g + 1) (by simpa using hs) (by simp at hf; omega) (by simp at hg; omega)]
 refine ⟨fun s => R (s.length + 1) s, r0 _, fun b l hp => ?_, fun s hp => ?_⟩
 ·show R (l.length + 1 + 1) (b :: l) = b :: R (l.length + 1) l
  rw [r1 _ _ _ hp, fuel l.length l (l.length + 1 + 1) (l.length + 1) (Nat.le_refl _) (by omega) (by omega)]
 ·show R (s.length + 1) s = new ++ R ((s.drop old.length).length + 1) (s.drop old.length)
  have := prefix_len hp
  rw [r2 _ _ hp, fuel (s.drop old.length).length _ s.length _ (Nat.le_refl _) (by simp; omega) (Nat.lt_succ_self _)]
theorem ra_nil {old new : List UInt8} (h0 : old ≠ []) (h1 : old ≠ new) : Lib.replaceAll [] old new = [] := by
 obtain ⟨T, t0, t1, t2⟩ := replace_eqs h0 h1
 rw [replace_by h0 h1 T t0 t1 t2, t0]
theorem ra_skip {old new : List UInt8} (h0 : old ≠ []) (h1 : old ≠ new) (b : UInt8) (l : List UInt8) (h : old.isPrefixOf (b :: l) = false) : Lib.replaceAll (b :: l) old new = b :: Lib.replaceAll l old new := by
 obtain ⟨T, t0, t1, t2⟩ := replace_eqs h0 h1
 rw [replace_by h0 h1 T t0 t1 t2, replace_by h0 h1 T t0 t1 t2, t1 b l h]
theorem ra_take {old new : List UInt8} (h0 : old ≠ []) (h1 : old ≠ new) (s : List UInt8) (h : old.isPrefixOf s = true) : Lib.replaceAll s old new = new ++ Lib.replaceAll (s.drop old.length) old new := by
 obtain ⟨T, t0, t1, t2⟩ := replace_eqs h0 h1
 rw [replace_by h0 h1 T t0 t1 t2, replace_by h0 h1 T t0 t1 t2, t2 s h]
def dec : List UInt8 → Option (List UInt8)
 | [] => some []
 | 126 :: 48 :: r => (dec r).map (126 :: ·)
 | 126 :: 49 :: r => (dec r).map (47 :: ·)
 | c :: r => if c = 126 then none else (dec r).map (c :: ·)
theorem dec_nil : dec [] = some [] := by unfold dec; rfl
theorem dec_0 (r : List UInt8) : dec (126 :: 48 :: r) = (dec r).map (126 :: ·) := by rw [dec]
theorem dec_1 (r : List UInt8) : dec (126 :: 49 :: r) = (dec r).map (47 :: ·) := by rw [dec]
theorem dec_c (c : UInt8) (r : List UInt8) (h : c ≠ 126) : dec (c :: r) = (dec r).map (c :: ·) := by
 rw [dec, if_neg h]
 ·intro r e _; exact absurd e h
 ·intro r e _; exact absurd e h
theorem dec_bad1 : dec [126] = none := by decide
theorem dec_bad (d : UInt8) (r : List UInt8) (h0 : d ≠ 48) (h1 : d ≠ 49) : dec (126 :: d :: r) = none := by
 rw [dec, if_pos rfl]
 ·intro r _ e; injection e with e _; exact absurd e h0
 ·intro r _ e; injection e with e _; exact absurd e h1
def unL (l : List UInt8) : List UInt8 := Lib.replaceAll (Lib.replaceAll l [126, 49] [47]) [126, 48] [126]
theorem dec_un : ∀ n (l d : List UInt8), l.length ≤ n → dec l = some d → unL l = d
 | 0, l, d, hn, h => by
  have : l = [] := List.length_eq_zero_iff.1 (by omega)
  subst this
  rw [dec_nil] at h
  obtain rfl := Option.some.inj h
  unfold unL
  rw [ra_nil (by decide) (by decide), ra_nil (by decide) (by decide)]
 | n + 1, l, d, hn, h => by
  match l, hn, h with
  | [], _, h =>
   rw [dec_nil] at h
   obtain rfl := Option.some.inj h
   unfold unL
   rw [ra_nil (by decide) (by decide), ra_nil (by decide) (by decide)]
  | c :: r, hn, h =>
   by_cases hc : c = 126
   ·subst hc
    match r, hn, h with
    | [], _, h => rw [dec_bad1] at h; exact absurd h (by simp)
    | e :: r, hn, h =>
     by_cases h0 : e = 48
     ·subst h0
      rw [dec_0] at h
      obtain ⟨d', h', rfl⟩ := Option.map_eq_some_iff.1 h
      have ih := dec_un n r d' (by simp at hn; omega) h'
      unfold unL at ih ⊢
      rw [ra_skip (by decide) (by decide) 126 (48 :: r) (by simp [List.isPrefixOf]), ra_skip (by decide) (by decide) 48 r (by simp [List.isPrefixOf]), ra_take (by decide) (by decide) (126 :: 48 :: _) (by simp [List.isPrefixOf])]
      show 126 :: Lib.replaceAll (Lib.replaceAll r [126, 49] [47]) [126, 48] [126] = 126 :: d'
      rw [ih]
     ·by_cases h1 : e = 49
      ·subst h1
       rw [dec_1] at h
       obtain ⟨d', h', rfl⟩ := Option.map_eq_some_iff.1 h
       have ih := dec_un n r d' (by simp at hn; omega) h'
       unfold unL at ih ⊢
       rw [ra_take (by decide) (by decide) (126 :: 49 :: r) (by simp [List.isPrefixOf])]
       show Lib.replaceAll (47 :: Lib.replaceAll r [126, 49] [47]) [126, 48] [126] = 47 :: d'
       rw [ra_skip (by decide) (by decide) 47 _ (by simp [List.isPrefixOf]), ih]
      ·rw [dec_bad e r h0 h1] at h; exact absurd h (by simp)
   ·rw [dec_c c r hc] at h
    obtain ⟨d', h', rfl⟩ := Option.map_eq_some_iff.1 h
    have ih := dec_un n r d' (by simp at hn; omega) h'
    unfold unL at ih ⊢
    rw [ra_skip (by decide) (by decide) c r (by simp [List.isPrefixOf]; intro e; exact absurd e.symm hc), ra_skip (by decide) (by decide) c _ (by simp [List.isPrefixOf]; intro e; exact absurd e.symm hc), ih]
def splitL : List UInt8 → List (List UInt8)
 | [] => [[]]
 | c :: l => if c = 47 then [] :: splitL l else match splitL l with
  | [] => [[c]]
  | h :: t => (c :: h) :: t
theorem splitL_ne : ∀ l, splitL l ≠ []
 | [] => by simp [splitL]
 | c :: l => by
  unfold splitL
  split
  ·simp
  ·split <;> simp
theorem splitK_eq : ∀ n (l : List UInt8) f, l.length ≤ n → l.length < f → Lib.splitK [47] 0 (Lib.countFrom [47] f l) l = splitL l
 | 0, l, f, hn, hf => by
  have : l = [] := List.length_eq_zero_iff.1 (by omega)
  subst this
  rw [countFrom_nil (by decide)]
  rfl
 | n + 1, [], f, hn, hf => by rw [countFrom_nil (by decide)]; rfl
 | n + 1, c :: l, f, hn, hf => by
  obtain ⟨f, rfl⟩ : ∃ g, f = g + 1 := ⟨f - 1, by omega⟩
  by_cases h : c = 47
  ·subst h
   have hp : [(47 : UInt8)].isPrefixOf (47 :: l) = true := by simp
   rw [countFrom_take (by decide) hp]
   unfold Lib.splitK splitL
   rw [index_hit (by decide) hp, if_pos rfl]
   have e1 : ((0 : Int) == -1) = false := by decide
   rw [e1]
   have ih := splitK_eq n l f (by simpa using hn) (by simp at hf; omega)
   simpa using ih
  ·have hp : [(47 : UInt8)].isPrefixOf (c :: l) = false := by simp [List.isPrefixOf]; exact fun e => h e.symm
   have ih := splitK_eq n l (f + 1) (by simpa using hn) (by simp at hf; omega)
   rw [countFrom_skip hp]
   unfold splitL
   rw [if_neg h, ← ih]
   generalize Lib.countFrom [47] (f + 1) l = k
   cases k with
   | zero => rfl
   | succ k =>
    have hg := Lib.index_ge l [47]
    unfold Lib.splitK
    rw [index_skip hp]
    by_cases hm : Lib.index l [47] = -1
    ·simp [hm]
    ·obtain ⟨i, hi⟩ : ∃ i : Nat, Lib.index l [47] = i := ⟨(Lib.index l [47]).toNat, by omega⟩
     have e1 : ((i : Int) + 1 == -1) = false := by rw [beq_eq_false_iff_ne]; omega
     have e2 : ((i : Int) == -1) = false := by rw [beq_eq_false_iff_ne]; omega
     have e3 : ((i : Int) + 1).toNat = i + 1 := by omega
     rw [if_neg hm, hi, e1, e2, e3]
     simp [Nat.add_right_comm i 1]
theorem split_eq (l : List UInt8) : Lib.splitK [47] 0 (Lib.count l [47]) l = splitL l := splitK_eq l.length l (l.length + 1) (Nat.le_refl _) (Nat.lt_succ_self _)
end Go.Proofs.YtndagnkhjlgjgaaGreatDoor.PtPl
namespace Go.Proofs.YtndagnkhjlgjgaaGreatDoor.Tok
open Go Go.RowKit PJt Ptk PtPl YtndagnkhjlgjgaaGreatDoorW.PrintWords YtndagnkhjlgjgaaGreatDoorW.PrintLast YtndagnkhjlgjgaaGreatDoorW.PrintMore
set_option linter.unusedVariables false
set_option linter.unusedSimpArgs false
theorem w64 {n : Int} (h : -9223372036854775808 ≤ n) (h2 : n ≤ 9223372036854775807) : wrap64 n = n := by unfold wrap64; omega
theorem rd_at (l : List ByteArray) (i : Nat) (h : i < l.length) : rdOf ByteArray.empty l (i : Int) = l[i] := by
 unfold rdOf; simp [h]
def toI (l : List UInt8) : List Int := l.map fun b => (b.toNat : Int)
theorem strOf_toI (l : List UInt8) : strOfNums (toI l) = ⟨l.toArray⟩ := by
 unfold strOfNums toI
 congr 2
 rw [List.map_map]
 conv => rhs; rw [← List.map_id l]
 apply List.map_congr_left
 intro b _
 show UInt8.ofNat ((b.toNat : Int)).toNat = b
 rw [Int.toNat_natCast, UInt8.ofNat_toNat]
theorem u8_ne {b : UInt8} (c : UInt8) (n : Int) (hn : (c.toNat : Int) = n) (h : ¬ b = c) : ¬ (b.toNat : Int) = n := by
 intro e
 exact h (UInt8.toNat_inj.1 (by omega))
theorem bt_cons (t : ByteArray) (i : Nat) (h : i < t.size) : ∃ b : UInt8, t.data.toList.drop i = b :: t.data.toList.drop (i + 1) ∧ bt t (i : Int) = (b.toNat : Int) := by
 have h' : i < t.data.toList.length := by rw [← Lib.size_eq]; exact h
 refine ⟨t.data.toList[i], (List.drop_eq_getElem_cons h'), ?_⟩
 unfold bt
 rw [dif_pos (by simpa using h)]
 rfl
theorem dl_len (t : ByteArray) : t.data.toList.length = t.size := (Lib.size_eq t).symm
theorem l1At_f (t : ByteArray) (i : Nat) (c : Int) : spec_l1At.f t (i : Int) c = some (if i < t.size then bt t i == c else false) := by
 unfold spec_l1At.f PJs.spec_l1At.f
 by_cases h : i < t.size
 ·rw [if_pos (by omega), if_pos (by omega), if_pos h]
 ·rw [if_neg (by omega), if_neg h]
def tokR (acc : List Int) (o : Option (List UInt8)) : ByteArray × Bool := match o with
 | some r => (strOfNums (acc ++ toI r), true)
 | none => (⟨#[]⟩, false)
theorem tokR_map (acc : List Int) (o : Option (List UInt8)) (c : UInt8) : tokR acc (o.map (c :: ·)) = tokR (acc ++ [(c.toNat : Int)]) o := by
 cases o with
 | none => rfl
 | some r => simp [tokR, toI]
theorem tok_loop (t : ByteArray) (hs : t.size ≤ 4194304) : ∀ (n d k i : Nat) (acc : List Int), d ≤ n → t.size - i = d → i ≤ t.size → d < k → acc.length + d ≤ 100000000 →
  spec_l1Token.l0 k t acc (i : Int) = some (tokR acc (dec (t.data.toList.drop i)))
 | n, 0, k, i, acc, hn, hd, hi, hk, ha => by
  obtain ⟨k, rfl⟩ : ∃ j, k = j + 1 := ⟨k - 1, by omega⟩
  rw [spec_l1Token.l0, if_neg (by omega), List.drop_of_length_le (by rw [dl_len]; omega), dec_nil]
  simp [tokR, toI]
 | 0, d + 1, k, i, acc, hn, hd, hi, hk, ha => by omega
 | n + 1, d + 1, k, i, acc, hn, hd, hi, hk, ha => by
  obtain ⟨k, rfl⟩ : ∃ j, k = j + 1 := ⟨k - 1, by omega⟩
  have e2 : wrap64 ((i : Int) + 1) = ((i + 1 : Nat) : Int) := by rw [w64 (by omega) (by omega)]; omega
  have e3 : wrap64 (((i + 1 : Nat) : Int) + 1) = ((i + 2 : Nat) : Int) := by rw [w64 (by omega) (by omega)]; omega
  obtain ⟨b, hb, hbt⟩ := bt_cons t i (by omega)
  rw [spec_l1Token.l0, if_pos (by omega), if_pos (by omega), hbt, hb, e2, l1At_f, l1At_f, e3]
  simp only [Option.bind_some]
  by_cases h1 : b = 126
  ·subst h1
   rw [if_pos (by decide)]
   by_cases hi1 : i + 1 < t.size
   ·obtain ⟨c, hc, hct⟩ := bt_cons t (i + 1) hi1
    rw [if_pos hi1, if_pos hi1, hct, hc]
    by_cases c0 : c = 48
    ·subst c0
     rw [if_pos (by decide), if_pos (by omega), dec_0, tokR_map]
     exact tok_loop t hs n (t.size - (i + 2)) k (i + 2) _ (by omega) (by omega) (by omega) (by omega) (by simp; omega)
    ·rw [if_neg (fun e => u8_ne 48 48 (by decide) c0 (beq_iff_eq.1 e))]
     by_cases c1 : c = 49
     ·subst c1
      rw [if_pos (by decide), if_pos (by omega), dec_1, tokR_map]
      exact tok_loop t hs n (t.size - (i + 2)) k (i + 2) _ (by omega) (by omega) (by omega) (by omega) (by simp; omega)
     ·rw [if_neg (fun e => u8_ne 49 49 (by decide) c1 (beq_iff_eq.1 e)), dec_bad _ _ c0 c1]
      rfl
   ·rw [if_neg hi1, if_neg hi1, if_neg (by decide), if_neg (by decide), List.drop_of_length_le (by rw [dl_len]; omega), dec_bad1]
    rfl
  ·rw [if_neg (u8_ne 126 126 (by decide) h1), if_pos (by omega), dec_c _ _ h1, tokR_map]
   exact tok_loop t hs n d k (i + 1) _ (by omega) (by omega) (by omega) (by omega) (by simp; omega)
theorem tok_f (t : ByteArray) (hs : t.size ≤ 4194304) (k : Nat) (hk : t.size < k) : spec_l1Token.f k t = some (tokR [] (dec t.data.toList)) := by
 unfold spec_l1Token.f
 have := tok_loop t hs t.size t.size k 0 [] (Nat.le_refl _) (by omega) (by omega) hk (by simp; omega)
 rw [show (0 : Int) = ((0 : Nat) : Int) from rfl, this, List.drop_zero]
def R (acc : List ByteArray) : List (List UInt8) → List ByteArray × Bool
 | [] => (acc, true)
 | p :: ps => match dec p with
  | none => ([], false)
  | some r => R (acc ++ [⟨r.toArray⟩]) ps
def tokF (a : ByteArray) : List ByteArray × Bool := if a.size = 0 then ([], true) else if bt a 0 = 47 then R [] (splitL (a.data.toList.drop 1)) else ([], false)
theorem toks_loop (x : ByteArray) (hs : x.size ≤ 4194304) : ∀ (d k s i : Nat) (acc : List ByteArray) (h : List UInt8) (tl : List (List UInt8)), x.size - i = d → i ≤ x.size → s ≤ i → 2 * d + 5 + x.size ≤ k → acc.length + d ≤ 100000000 →
  splitL (x.data.toList.drop i) = h :: tl →
  spec_PtrTokens.l0 k x acc (s : Int) (i : Int) = some (R acc ((((x.data.toList.drop s).take (i - s)) ++ h) :: tl))
 | 0, k, s, i, acc, h, tl, hd, hi, hsi, hk, ha, hsp => by
  obtain ⟨k, rfl⟩ : ∃ j, k = j + 3 := ⟨k - 3, by omega⟩
  have e : i = x.size := by omega
  subst e
  rw [List.drop_of_length_le (by rw [dl_len]; omega)] at hsp
  injection hsp with h1 h2
  subst h1; subst h2
  have e2 : wrap64 ((x.size : Int) + 1) = ((x.size + 1 : Nat) : Int) := by rw [w64 (by omega) (by omega)]; omega
  rw [spec_PtrTokens.l0, if_pos (by omega), if_pos rfl, spec_PtrTokens.j1, if_pos rfl, if_pos (by omega), if_pos (by omega), if_pos (by omega), e2,
   tok_f _ (by rw [ByteArray.size_extract]; omega) (k + 1) (by rw [ByteArray.size_extract]; omega)]
  simp only [Option.bind_some, List.append_nil, Int.toNat_natCast]
  rw [show (x.extract s x.size).data.toList = (x.data.toList.drop s).take (x.size - s) from by rw [← Lib.toList_data, Lib.extract_toList]]
  cases hdec : dec ((x.data.toList.drop s).take (x.size - s)) with
  | none => simp [tokR, R, hdec]
  | some r =>
   simp only [tokR, R, hdec]
   rw [if_pos trivial, if_pos (by omega), spec_PtrTokens.l0, if_neg (by omega), List.nil_append, strOf_toI]
 | d + 1, k, s, i, acc, h, tl, hd, hi, hsi, hk, ha, hsp => by
  obtain ⟨k, rfl⟩ : ∃ j, k = j + 3 := ⟨k - 3, by omega⟩
  have e2 : wrap64 ((i : Int) + 1) = ((i + 1 : Nat) : Int) := by rw [w64 (by omega) (by omega)]; omega
  obtain ⟨b, hb, hbt⟩ := bt_cons x i (by omega)
  have hpre : (x.data.toList.drop s).take (i + 1 - s) = (x.data.toList.drop s).take (i - s) ++ [b] := by
   rw [show i + 1 - s = (i - s) + 1 by omega, List.take_add_one]
   congr 1
   rw [List.getElem?_drop, show s + (i - s) = i by omega]
   have : (x.data.toList.drop i)[0]? = some b := by rw [hb]; rfl
   rw [List.getElem?_drop] at this
   rw [show i + 0 = i from rfl] at this
   rw [this]; rfl
  rw [spec_PtrTokens.l0, if_pos (by omega), if_neg (by omega), if_pos (by omega), if_pos (by omega), hbt, spec_PtrTokens.j1]
  rw [hb] at hsp
  by_cases h1 : b = 47
  ·subst h1
   rw [splitL, if_pos rfl] at hsp
   injection hsp with h1 h2
   subst h1
   rw [if_pos (by decide), if_pos (by omega), if_pos (by omega), if_pos (by omega), e2,
    tok_f _ (by rw [ByteArray.size_extract]; omega) (k + 1) (by rw [ByteArray.size_extract]; omega)]
   simp only [Option.bind_some, List.append_nil, Int.toNat_natCast]
   rw [show (x.extract s i).data.toList = (x.data.toList.drop s).take (i - s) from by rw [← Lib.toList_data, Lib.extract_toList]]
   cases hdec : dec ((x.data.toList.drop s).take (i - s)) with
   | none => simp [tokR, R, hdec]
   | some r =>
    simp only [tokR, R, hdec]
    cases hl : splitL (x.data.toList.drop (i + 1)) with
    | nil => exact absurd hl (splitL_ne _)
    | cons h' tl' =>
     rw [hl] at h2
     subst h2
     rw [if_pos trivial, if_pos (by omega), toks_loop x hs d (k + 1) (i + 1) (i + 1) _ h' tl' (by omega) (by omega) (by omega) (by omega) (by simp; omega) hl, Nat.sub_self, List.take_zero, List.nil_append, List.nil_append, strOf_toI]
  ·rw [splitL, if_neg h1] at hsp
   rw [if_neg (fun e => u8_ne 47 47 (by decide) h1 (beq_iff_eq.1 e)), e2]
   cases hl : splitL (x.data.toList.drop (i + 1)) with
   | nil => exact absurd hl (splitL_ne _)
   | cons h' tl' =>
    rw [hl] at hsp
    injection hsp with h2 h3
    subst h2; subst h3
    rw [toks_loop x hs d (k + 1) s (i + 1) acc h' tl' (by omega) (by omega) (by omega) (by omega) (by omega) hl, hpre, List.append_assoc]
    rfl
theorem specPtrTokens (a : ByteArray) (hs : a.size ≤ 4194304) (k : Nat) (hk : 3 * a.size + 5 ≤ k) : spec_PtrTokens.f k a = some (tokF a) := by
 unfold spec_PtrTokens.f tokF
 simp only [Option.bind_some]
 by_cases h0 : a.size = 0
 ·have : a.toList = [] := by rw [Lib.toList_data]; exact List.length_eq_zero_iff.1 (by rw [dl_len]; exact h0)
  rw [if_pos this, if_pos h0]
 ·have : ¬ a.toList = [] := by
   rw [Lib.toList_data]; intro e; exact h0 (by rw [← dl_len, e]; rfl)
  rw [if_neg this, if_neg h0, if_pos (by omega)]
  by_cases h1 : bt a 0 = 47
  ·rw [if_pos h1, if_pos h1]
   cases hl : splitL (a.data.toList.drop 1) with
   | nil => exact absurd hl (splitL_ne _)
   | cons h tl =>
    have := toks_loop a hs (a.size - 1) k 1 1 [] h tl (by omega) (by omega) (by omega) (by omega) (by simp; omega) hl
    rw [show (1 : Int) = ((1 : Nat) : Int) from rfl, this, Nat.sub_self, List.take_zero, List.nil_append]
  ·rw [if_neg h1, if_neg h1]
theorem chk_dec (t : ByteArray) : ∀ (n d i : Nat), d ≤ n → t.size - i = d → i ≤ t.size → chk t d i = (dec (t.data.toList.drop i)).isSome
 | n, 0, i, hn, hd, hi => by
  rw [List.drop_of_length_le (by rw [dl_len]; omega), dec_nil]; rfl
 | 0, d + 1, i, hn, hd, hi => by omega
 | n + 1, d + 1, i, hn, hd, hi => by
  obtain ⟨b, hb, hbt⟩ := bt_cons t i (by omega)
  rw [chk, hb]
  by_cases h1 : b = 126
  ·subst h1
   by_cases hi1 : i + 1 < t.size
   ·obtain ⟨c, hc, hct⟩ := bt_cons t (i + 1) hi1
    have hct' : bt t ((i : Int) + 1) = (c.toNat : Int) := by rw [← hct]; congr 1
    obtain ⟨d, rfl⟩ : ∃ e, d = e + 1 := ⟨d - 1, by omega⟩
    have hb1 : badTok t (i + 1) = (c == 126 && badTok t (i + 1)) := by
     by_cases hc6 : c = 126
     ·subst hc6; simp
     ·have : ¬ (bt t ((i : Int) + 1) = 126) := by rw [hct']; exact u8_ne 126 126 (by decide) hc6
      unfold badTok
      simp [this, hc6]
    have hc2 : chk t (d + 1) (i + 1) = if badTok t (i + 1) = true then false else chk t d (i + 2) := rfl
    rw [hc, hc2]
    by_cases c0 : c = 48
    ·subst c0
     have e1 : badTok t i = false := by unfold badTok; rw [hct']; simp; intro _; omega
     have e4 : badTok t (i + 1) = false := by rw [hb1]; rfl
     rw [e1, e4, dec_0]
     simp only [Bool.false_eq_true, if_false]
     rw [chk_dec t n d (i + 2) (by omega) (by omega) (by omega)]
     simp
    ·by_cases c1 : c = 49
     ·subst c1
      have e1 : badTok t i = false := by unfold badTok; rw [hct']; simp; intro _; omega
      have e4 : badTok t (i + 1) = false := by rw [hb1]; rfl
      rw [e1, e4, dec_1]
      simp only [Bool.false_eq_true, if_false]
      rw [chk_dec t n d (i + 2) (by omega) (by omega) (by omega)]
      simp
     ·have e1 : badTok t i = true := by
       unfold badTok
       have q0 : ¬ ((c.toNat : Int) = 48) := u8_ne 48 48 (by decide) c0
       have q1 : ¬ ((c.toNat : Int) = 49) := u8_ne 49 49 (by decide) c1
       rw [hct', hbt]
       simp [q0, q1]
      rw [e1, dec_bad _ _ c0 c1]
      rfl
   ·have e1 : badTok t i = true := by
     unfold badTok
     rw [hbt]
     have : (i : Int) + 1 = t.size := by omega
     simp [this]
    rw [e1, List.drop_of_length_le (by rw [dl_len]; omega), dec_bad1]
    rfl
  ·have e1 : badTok t i = false := by
    unfold badTok
    have : ¬ (bt t (i : Int) = 126) := by rw [hbt]; exact u8_ne 126 126 (by decide) h1
    simp [this]
   rw [e1, dec_c _ _ h1]
   simp only [Bool.false_eq_true, if_false]
   rw [chk_dec t n d (i + 1) (by omega) (by omega) (by omega)]
   simp
theorem good_dec (t : ByteArray) : goodT t = (dec t.data.toList).isSome := by
 unfold goodT
 rw [chk_dec t t.size t.size 0 (Nat.le_refl _) (by omega) (by omega), List.drop_zero]
theorem un_dec (t : ByteArray) (r : List UInt8) (h : dec t.data.toList = some r) : unT t = ⟨r.toArray⟩ := by
 show (⟨(unL t.data.toList).toArray⟩ : ByteArray) = _
 rw [dec_un _ _ _ (Nat.le_refl _) h]
theorem R_parts : ∀ (ps : List ByteArray) (acc : List ByteArray), R acc (ps.map (·.data.toList)) = if ps.all goodT then (acc ++ ps.map unT, true) else ([], false)
 | [], acc => by simp [R]
 | p :: ps, acc => by
  rw [List.map_cons, R, List.all_cons, good_dec p]
  cases hd : dec p.data.toList with
  | none => simp
  | some r =>
   show R (acc ++ [⟨r.toArray⟩]) (ps.map (·.data.toList)) = _
   rw [R_parts ps]; simp [un_dec p r hd]
theorem parts_data (a : ByteArray) : (parts a).map (·.data.toList) = splitL (a.data.toList.drop 1) := by
 unfold parts
 rw [Lib.splitB_data]
 have e : (a.extract 1 a.size).data.toList = a.data.toList.drop 1 := by
  rw [← Lib.toList_data, Lib.extract_toList, List.take_of_length_le (by simp)]
 rw [e, ← split_eq]
 congr 1
 unfold Lib.countB
 rw [e]
theorem implPtrTokens (a : ByteArray) (hs : a.size ≤ 4194304) : impl_PtrTokens.f a = some (tokF a) := by
 unfold impl_PtrTokens.f tokF
 rw [if_pos hs]
 by_cases h0 : a.size = 0
 ·rw [if_pos h0, if_pos h0]
 ·rw [if_neg h0, if_neg h0]
  by_cases h1 : bt a 0 = 47
  ·rw [if_pos h1, if_pos h1, ← parts_data, R_parts]
   split <;> simp
  ·rw [if_neg h1, if_neg h1]
theorem splitL_len : ∀ l : List UInt8, (splitL l).length ≤ l.length + 1
 | [] => by simp [splitL]
 | c :: l => by
  have ih := splitL_len l
  unfold splitL
  split
  ·simp; omega
  ·split
   ·simp
   ·rename_i h t e
    rw [e] at ih
    simp at ih ⊢; omega
theorem R_len : ∀ (ps : List (List UInt8)) (acc : List ByteArray), (R acc ps).1.length ≤ acc.length + ps.length
 | [], acc => by simp [R]
 | p :: ps, acc => by
  unfold R
  split
  ·simp
  ·rename_i r _
   have := R_len ps (acc ++ [⟨r.toArray⟩])
   simp at this ⊢; omega
theorem tokF_len (a : ByteArray) : (tokF a).1.length ≤ a.size := by
 unfold tokF
 split
 ·simp
 ·split
  ·have h1 := R_len (splitL (a.data.toList.drop 1)) []
   have h2 := splitL_len (a.data.toList.drop 1)
   rw [List.length_drop, dl_len] at h2
   rw [List.length_nil] at h1
   omega
  ·simp
end Go.Proofs.YtndagnkhjlgjgaaGreatDoor.Tok
