/- The strings of JSON, as both sides read them: plain functions over a text and a place. -/
import Derived.Test.YtndagnkhjlgjgaaGreatDoorWWords
import Derived.Lib.RuneBytes
namespace Go.Proofs.YtndagnkhjlgjgaaGreatDoor.Str
open Go.RowKit YtndagnkhjlgjgaaGreatDoorW.PrintWords
set_option linter.unusedVariables false
def u8L (r : Int) : List Int :=
 if r < 128 then [r] else if r < 2048 then [192 + r / 64, 128 + r % 64] else if r < 65536 then [224 + r / 4096, 128 + r / 64 % 64, 128 + r % 64]
 else [240 + r / 262144, 128 + r / 4096 % 64, 128 + r / 64 % 64, 128 + r % 64]
def btsL (s : ByteArray) (p : Int) : Nat → List Int
 | 0 => []
 | n + 1 => bt s p :: btsL s (p + 1) n
def badR (s : ByteArray) (pos : Nat) : Bool := ((Utf8.decode s pos).1 == 65533) && decide ((Utf8.decode s pos).2 < 2)
def hexD (c : Int) : Int := if 48 ≤ c ∧ c ≤ 57 then c - 48 else if 97 ≤ c ∧ c ≤ 102 then c - 87 else if 65 ≤ c ∧ c ≤ 70 then c - 55 else -1
def unitF (s : ByteArray) (p : Nat) : Option Int :=
 if p + 4 ≤ s.size ∧ 0 ≤ hexD (bt s (p : Int)) ∧ 0 ≤ hexD (bt s ((p : Int) + 1)) ∧ 0 ≤ hexD (bt s ((p : Int) + 2)) ∧ 0 ≤ hexD (bt s ((p : Int) + 3)) then
  some (((hexD (bt s (p : Int)) * 16 + hexD (bt s ((p : Int) + 1))) * 16 + hexD (bt s ((p : Int) + 2))) * 16 + hexD (bt s ((p : Int) + 3)))
 else none
def simpF (c : Int) : Int := if c = 34 then 34 else if c = 92 then 92 else if c = 47 then 47 else if c = 98 then 8 else if c = 102 then 12 else if c = 110 then 10 else if c = 114 then 13 else if c = 116 then 9 else -1
def escF (s : ByteArray) (p : Nat) : Option (List Int × Nat) :=
 if p < s.size then
  if 0 ≤ simpF (bt s (p : Int)) then some ([simpF (bt s (p : Int))], p + 1)
  else if bt s (p : Int) = 117 then
   match unitF s (p + 1) with
   | none => none
   | some v =>
    if 56320 ≤ v ∧ v ≤ 57343 then none
    else if 55296 ≤ v ∧ v ≤ 56319 then
     if p + 7 ≤ s.size ∧ bt s ((p : Int) + 5) = 92 ∧ bt s ((p : Int) + 6) = 117 then
      match unitF s (p + 7) with
      | none => none
      | some u => if u < 56320 ∨ u > 57343 then none else some (u8L (65536 + (v - 55296) * 1024 + (u - 56320)), p + 11)
     else none
    else some (u8L v, p + 5)
  else none
 else none
def pieceF (s : ByteArray) (p : Nat) : Option (List Int × Nat) :=
 if bt s (p : Int) = 92 then escF s (p + 1)
 else if bt s (p : Int) < 32 ∨ bt s (p : Int) = 34 then none
 else if bt s (p : Int) < 128 then some ([bt s (p : Int)], p + 1)
 else if badR s p = true then none
 else some (btsL s (p : Int) (Utf8.decode s p).2, p + (Utf8.decode s p).2)
def strL (s : ByteArray) : Nat → Nat → Option (List Int × Nat)
 | 0, _ => none
 | d + 1, p =>
  if p < s.size then
   if bt s (p : Int) = 34 then some ([], p + 1)
   else match pieceF s p with
    | none => none
    | some (b, q) => (strL s d q).map fun r => (b ++ r.1, r.2)
  else none
def strF (s : ByteArray) (p : Nat) : Option (List Int × Nat) :=
 if p < s.size ∧ bt s (p : Int) = 34 then strL s (s.size - p) (p + 1) else none
theorem hexD_le (c : Int) : hexD c ≤ 15 ∧ -1 ≤ hexD c := by
 unfold hexD
 repeat' split
 all_goals omega
theorem unitF_le {s : ByteArray} {p : Nat} {v : Int} (h : unitF s p = some v) : 0 ≤ v ∧ v ≤ 65535 ∧ p + 4 ≤ s.size := by
 unfold unitF at h
 split at h
 ·rename_i c
  injection h with h
  have := (hexD_le (bt s (p : Int))).1
  have := (hexD_le (bt s ((p : Int) + 1))).1
  have := (hexD_le (bt s ((p : Int) + 2))).1
  have := (hexD_le (bt s ((p : Int) + 3))).1
  omega
 ·cases h
theorem u8L_len (r : Int) : 1 ≤ (u8L r).length ∧ (u8L r).length ≤ 4 := by
 unfold u8L
 repeat' split
 all_goals simp
theorem btsL_len (s : ByteArray) : ∀ (n : Nat) (p : Int), (btsL s p n).length = n
 | 0, _ => rfl
 | n + 1, p => by simp [btsL, btsL_len s n]
theorem simpF_le (c : Int) : -1 ≤ simpF c ∧ simpF c ≤ 92 := by
 unfold simpF
 repeat' split
 all_goals omega
theorem escF_le {s : ByteArray} {p q : Nat} {b : List Int} (h : escF s p = some (b, q)) : p + 1 ≤ q ∧ q ≤ s.size ∧ b.length ≤ 4 := by
 unfold escF at h
 split at h
 ·split at h
  ·injection h with h
   injection h with h1 h2
   subst h1; subst h2
   exact ⟨Nat.le_refl _, by omega, by simp⟩
  ·split at h
   ·split at h
    ·cases h
    ·rename_i v hv
     have hle := unitF_le hv
     split at h
     ·cases h
     ·split at h
      ·split at h
       ·split at h
        ·cases h
        ·rename_i u hu
         have hlu := unitF_le hu
         split at h
         ·cases h
         ·injection h with h
          injection h with h1 h2
          subst h1; subst h2
          exact ⟨by omega, by omega, (u8L_len _).2⟩
       ·cases h
      ·injection h with h
       injection h with h1 h2
       subst h1; subst h2
       exact ⟨by omega, by omega, (u8L_len _).2⟩
   ·cases h
 ·cases h
theorem dec_pos (s : ByteArray) (p : Nat) (h : p < s.size) : 1 ≤ (Utf8.decode s p).2 ∧ p + (Utf8.decode s p).2 ≤ s.size ∧ (Utf8.decode s p).2 ≤ 4 := by
 unfold Utf8.decode
 simp only []
 repeat' split
 all_goals simp_all
 all_goals omega
theorem pieceF_le {s : ByteArray} {p q : Nat} {b : List Int} (hp : p < s.size) (h : pieceF s p = some (b, q)) : p + 1 ≤ q ∧ q ≤ s.size ∧ b.length ≤ 4 := by
 unfold pieceF at h
 split at h
 ·have := escF_le h
  omega
 ·split at h
  ·cases h
  ·split at h
   ·injection h with h
    injection h with h1 h2
    subst h1; subst h2
    exact ⟨Nat.le_refl _, by omega, by simp⟩
   ·split at h
    ·cases h
    ·injection h with h
     injection h with h1 h2
     subst h1; subst h2
     have := dec_pos s p hp
     rw [btsL_len]
     omega
theorem strL_le (s : ByteArray) : ∀ (d p : Nat) (b : List Int) (q : Nat), strL s d p = some (b, q) → p + 1 ≤ q ∧ q ≤ s.size ∧ b.length ≤ 4 * (q - p) := by
 intro d
 induction d with
 | zero => intro p b q h; cases h
 | succ d ih =>
  intro p b q h
  rw [strL] at h
  split at h
  ·rename_i hp
   split at h
   ·injection h with h
    injection h with h1 h2
    subst h1; subst h2
    exact ⟨Nat.le_refl _, by omega, by simp⟩
   ·split at h
    ·cases h
    ·rename_i b1 q1 hq
     have hle := pieceF_le hp hq
     cases h2 : strL s d q1 with
     | none => rw [h2] at h; cases h
     | some r =>
      rw [h2] at h
      injection h with h
      injection h with h3 h4
      subst h3; subst h4
      have := ih q1 r.1 r.2 h2
      rw [List.length_append]
      omega
  ·cases h
end Go.Proofs.YtndagnkhjlgjgaaGreatDoor.Str
namespace Go.Proofs.YtndagnkhjlgjgaaGreatDoor.Tree
open Go.RowKit YtndagnkhjlgjgaaGreatDoorW.PrintWords Str
set_option linter.unusedVariables false
set_option linter.unusedSimpArgs false
inductive T where
 | nul | tru | fls
 | num (x : ByteArray)
 | str (b : ByteArray)
 | arr (l : List T)
 | obj (l : List (ByteArray × T))
instance : Inhabited T := ⟨.nul⟩
def isAt (s : ByteArray) (p : Nat) (c : Int) : Bool := decide (p < s.size) && decide (bt s (p : Int) = c)
def isB (c : Int) : Bool := decide (c = 32) || decide (c = 9) || decide (c = 10) || decide (c = 13)
def isD (c : Int) : Bool := decide (48 ≤ c) && decide (c ≤ 57)
def runN (f : Int → Bool) (s : ByteArray) : Nat → Nat → Nat
 | 0, p => p
 | n + 1, p => if p < s.size then (if f (bt s (p : Int)) = true then runN f s n (p + 1) else p) else p
def runF (f : Int → Bool) (s : ByteArray) (p : Nat) : Nat := runN f s (s.size - p) p
def skip (s : ByteArray) (p : Nat) : Nat := runF isB s p
def digs (s : ByteArray) (p : Nat) : Nat := runF isD s p
theorem runF_at (f : Int → Bool) (s : ByteArray) (p : Nat) : runF f s p = if p < s.size then (if f (bt s (p : Int)) = true then runF f s (p + 1) else p) else p := by
 unfold runF
 by_cases h : p < s.size
 ·rw [if_pos h, show s.size - p = (s.size - (p + 1)) + 1 by omega, runN, if_pos h]
 ·rw [if_neg h, show s.size - p = 0 by omega, runN]
theorem runN_le (f : Int → Bool) (s : ByteArray) : ∀ (n p : Nat), p ≤ runN f s n p ∧ (p ≤ s.size → runN f s n p ≤ s.size)
 | 0, p => ⟨Nat.le_refl _, fun h => h⟩
 | n + 1, p => by
  rw [runN]
  split
  ·split
   ·have := runN_le f s n (p + 1)
    exact ⟨by omega, fun _ => this.2 (by omega)⟩
   ·exact ⟨Nat.le_refl _, fun h => h⟩
  ·exact ⟨Nat.le_refl _, fun h => h⟩
theorem runF_le (f : Int → Bool) (s : ByteArray) (p : Nat) : p ≤ runF f s p ∧ (p ≤ s.size → runF f s p ≤ s.size) := runN_le f s _ p
theorem runF_stop (f : Int → Bool) (s : ByteArray) : ∀ (n p : Nat), s.size - p = n → runF f s p < s.size → f (bt s (runF f s p : Int)) = false
 | 0, p, hn, h => by
  have := (runF_le f s p).1
  omega
 | n + 1, p, hn, h => by
  rw [runF_at] at h ⊢
  by_cases hp : p < s.size
  ·rw [if_pos hp] at h ⊢
   by_cases hf : f (bt s (p : Int)) = true
   ·rw [if_pos hf] at h ⊢
    exact runF_stop f s n (p + 1) (by omega) h
   ·rw [if_neg hf] at h ⊢
    simpa using hf
  ·omega
theorem runF_idem (f : Int → Bool) (s : ByteArray) (p : Nat) : runF f s (runF f s p) = runF f s p := by
 rw [runF_at]
 by_cases h : runF f s p < s.size
 ·rw [if_pos h, runF_stop f s _ p rfl h]
  simp
 ·rw [if_neg h]
def numF (s : ByteArray) (p : Nat) : Option Nat :=
 if isAt s p 45 = true then
  (if p + 1 < s.size ∧ isD (bt s ((p + 1 : Nat) : Int)) = true then some (if bt s ((p + 1 : Nat) : Int) = 48 then p + 2 else digs s (p + 2)) else none)
 else (if p < s.size ∧ isD (bt s (p : Int)) = true then some (if bt s (p : Int) = 48 then p + 1 else digs s (p + 1)) else none)
def isW (s : ByteArray) (p : Nat) (x : ByteArray) : Bool := decide (p + x.size ≤ s.size) && decide (s.extract p (p + x.size) = x)
abbrev wNull : ByteArray := ⟨#[110, 117, 108, 108]⟩
abbrev wTrue : ByteArray := ⟨#[116, 114, 117, 101]⟩
abbrev wFalse : ByteArray := ⟨#[102, 97, 108, 115, 101]⟩
def itemsF (s : ByteArray) (v : Nat → Option (T × Nat)) : Nat → Nat → Option (List T × Nat)
 | 0, _ => none
 | k + 1, q => match v q with
  | none => none
  | some (t, r) =>
   if isAt s (skip s r) 93 = true then some ([t], skip s r + 1)
   else if isAt s (skip s r) 44 = true then (itemsF s v k (skip s (skip s r + 1))).map fun x => (t :: x.1, x.2)
   else none
def membersF (s : ByteArray) (v : Nat → Option (T × Nat)) : Nat → Nat → Option (List (ByteArray × T) × Nat)
 | 0, _ => none
 | k + 1, q => match strF s q with
  | none => none
  | some (b, r1) =>
   if isAt s (skip s r1) 58 = true then
    match v (skip s (skip s r1 + 1)) with
    | none => none
    | some (t, r) =>
     if isAt s (skip s r) 125 = true then some ([(strOfNums b, t)], skip s r + 1)
     else if isAt s (skip s r) 44 = true then (membersF s v k (skip s (skip s r + 1))).map fun x => ((strOfNums b, t) :: x.1, x.2)
     else none
   else none
def val (s : ByteArray) : Nat → Nat → Option (T × Nat)
 | 0, _ => none
 | d + 1, p =>
  if isAt s p 91 = true then
   (if isAt s (skip s (p + 1)) 93 = true then some (.arr [], skip s (p + 1) + 1)
   else (itemsF s (fun q => val s d q) s.size (skip s (p + 1))).map fun x => (.arr x.1, x.2))
  else if isAt s p 123 = true then
   (if isAt s (skip s (p + 1)) 125 = true then some (.obj [], skip s (p + 1) + 1)
   else (membersF s (fun q => val s d q) s.size (skip s (p + 1))).map fun x => (.obj x.1, x.2))
  else if isAt s p 34 = true then (strF s p).map fun x => (.str (strOfNums x.1), x.2)
  else if isW s p wNull = true then some (.nul, p + 4)
  else if isW s p wTrue = true then some (.tru, p + 4)
  else if isW s p wFalse = true then some (.fls, p + 5)
  else (numF s p).map fun q => (.num (s.extract p q), q)
theorem numF_le {s : ByteArray} {p q : Nat} (h : numF s p = some q) : p + 1 ≤ q ∧ q ≤ s.size := by
 unfold numF at h
 split at h
 ·split at h
  ·rename_i h1 h2
   injection h with h
   split at h
   ·omega
   ·have := runF_le isD s (p + 2)
    unfold digs at h
    omega
  ·cases h
 ·split at h
  ·rename_i h1 h2
   injection h with h
   split at h
   ·omega
   ·have := runF_le isD s (p + 1)
    unfold digs at h
    omega
  ·cases h
theorem isAt_lt {s : ByteArray} {p : Nat} {c : Int} (h : isAt s p c = true) : p < s.size ∧ bt s (p : Int) = c := by
 unfold isAt at h
 simpa using h
theorem isW_le {s : ByteArray} {p : Nat} {x : ByteArray} (h : isW s p x = true) : p + x.size ≤ s.size := by
 unfold isW at h
 simp only [Bool.and_eq_true, decide_eq_true_eq] at h
 exact h.1
theorem itemsF_le {s : ByteArray} {v : Nat → Option (T × Nat)} (hv : ∀ q t r, v q = some (t, r) → q + 1 ≤ r ∧ r ≤ s.size) : ∀ (k q : Nat) (l : List T) (r : Nat), itemsF s v k q = some (l, r) → q + 1 ≤ r ∧ r ≤ s.size
 | 0, q, l, r, h => by cases h
 | k + 1, q, l, r, h => by
  rw [itemsF] at h
  cases hq : v q with
  | none => rw [hq] at h; cases h
  | some x =>
   obtain ⟨t, r1⟩ := x
   rw [hq] at h
   have h1 := hv q t r1 hq
   have h2 := runF_le isB s r1
   simp only at h
   by_cases c1 : isAt s (skip s r1) 93 = true
   ·rw [if_pos c1] at h
    have := isAt_lt c1
    injection h with h
    injection h with _ h
    unfold skip at *
    omega
   ·rw [if_neg c1] at h
    by_cases c2 : isAt s (skip s r1) 44 = true
    ·rw [if_pos c2] at h
     have := isAt_lt c2
     cases h3 : itemsF s v k (skip s (skip s r1 + 1)) with
     | none => rw [h3] at h; cases h
     | some y =>
      rw [h3] at h
      injection h with h
      injection h with _ h
      have h4 := itemsF_le hv k _ y.1 y.2 h3
      have h5 := runF_le isB s (skip s r1 + 1)
      unfold skip at *
      omega
    ·rw [if_neg c2] at h; cases h
theorem strF_le {s : ByteArray} {p q : Nat} {b : List Int} (h : strF s p = some (b, q)) : p + 2 ≤ q ∧ q ≤ s.size ∧ b.length ≤ 4 * (q - p) := by
 unfold strF at h
 split at h
 ·have := strL_le s _ _ b q h
  omega
 ·cases h
theorem membersF_le {s : ByteArray} {v : Nat → Option (T × Nat)} (hv : ∀ q t r, v q = some (t, r) → q + 1 ≤ r ∧ r ≤ s.size) : ∀ (k q : Nat) (l : List (ByteArray × T)) (r : Nat), membersF s v k q = some (l, r) → q + 1 ≤ r ∧ r ≤ s.size
 | 0, q, l, r, h => by cases h
 | k + 1, q, l, r, h => by
  rw [membersF] at h
  cases hq : strF s q with
  | none => rw [hq] at h; cases h
  | some x =>
   obtain ⟨b, r1⟩ := x
   rw [hq] at h
   have h1 := strF_le hq
   have h2 := runF_le isB s r1
   simp only at h
   by_cases c0 : isAt s (skip s r1) 58 = true
   ·rw [if_pos c0] at h
    have := isAt_lt c0
    have h6 := runF_le isB s (skip s r1 + 1)
    cases h7 : v (skip s (skip s r1 + 1)) with
    | none => rw [h7] at h; cases h
    | some z =>
     obtain ⟨t, r2⟩ := z
     rw [h7] at h
     have h8 := hv _ t r2 h7
     have h9 := runF_le isB s r2
     simp only at h
     by_cases c1 : isAt s (skip s r2) 125 = true
     ·rw [if_pos c1] at h
      have := isAt_lt c1
      injection h with h
      injection h with _ h
      unfold skip at *
      omega
     ·rw [if_neg c1] at h
      by_cases c2 : isAt s (skip s r2) 44 = true
      ·rw [if_pos c2] at h
       have := isAt_lt c2
       cases h3 : membersF s v k (skip s (skip s r2 + 1)) with
       | none => rw [h3] at h; cases h
       | some y =>
        rw [h3] at h
        injection h with h
        injection h with _ h
        have h4 := membersF_le hv k _ y.1 y.2 h3
        have h5 := runF_le isB s (skip s r2 + 1)
        unfold skip at *
        omega
      ·rw [if_neg c2] at h; cases h
   ·rw [if_neg c0] at h; cases h
theorem val_le (s : ByteArray) : ∀ (d p : Nat) (t : T) (q : Nat), val s d p = some (t, q) → p + 1 ≤ q ∧ q ≤ s.size
 | 0, p, t, q, h => by cases h
 | d + 1, p, t, q, h => by
  have ih := val_le s d
  have hsk := runF_le isB s (p + 1)
  rw [val] at h
  split at h
  ·rename_i h0
   have h0 := isAt_lt h0
   split at h
   ·rename_i h1
    have h1 := isAt_lt h1
    injection h with h
    injection h with _ h
    unfold skip at *
    omega
   ·cases h1 : itemsF s (fun q => val s d q) s.size (skip s (p + 1)) with
    | none => rw [h1] at h; cases h
    | some x =>
     rw [h1] at h
     injection h with h
     injection h with _ h
     have := itemsF_le (v := fun q => val s d q) (fun q t r hh => ih q t r hh) _ _ x.1 x.2 h1
     unfold skip at *
     omega
  ·split at h
   ·rename_i h0
    have h0 := isAt_lt h0
    split at h
    ·rename_i h1
     have h1 := isAt_lt h1
     injection h with h
     injection h with _ h
     unfold skip at *
     omega
    ·cases h1 : membersF s (fun q => val s d q) s.size (skip s (p + 1)) with
     | none => rw [h1] at h; cases h
     | some x =>
      rw [h1] at h
      injection h with h
      injection h with _ h
      have := membersF_le (v := fun q => val s d q) (fun q t r hh => ih q t r hh) _ _ x.1 x.2 h1
      unfold skip at *
      omega
   ·split at h
    ·cases h1 : strF s p with
     | none => rw [h1] at h; cases h
     | some x =>
      rw [h1] at h
      injection h with h
      injection h with _ h
      have := strF_le (b := x.1) (q := x.2) h1
      omega
    ·split at h
     ·rename_i h0
      have := isW_le h0
      injection h with h
      injection h with _ h
      have e : (wNull.size) = 4 := rfl
      omega
     ·split at h
      ·rename_i h0
       have := isW_le h0
       injection h with h
       injection h with _ h
       have e : (wTrue.size) = 4 := rfl
       omega
      ·split at h
       ·rename_i h0
        have := isW_le h0
        injection h with h
        injection h with _ h
        have e : (wFalse.size) = 5 := rfl
        omega
       ·cases h1 : numF s p with
        | none => rw [h1] at h; cases h
        | some x =>
         rw [h1] at h
         injection h with h
         injection h with _ h
         have := numF_le h1
         omega
mutual
def dep : T → Nat
 | .arr l => depL l + 1
 | .obj l => depM l + 1
 | _ => 1
def depL : List T → Nat
 | [] => 0
 | t :: l => max (dep t) (depL l)
def depM : List (ByteArray × T) → Nat
 | [] => 0
 | (_, t) :: l => max (dep t) (depM l)
end
mutual
def cnt : T → Nat
 | .arr l => cntL l + 1
 | .obj l => cntM l + 1
 | _ => 1
def cntL : List T → Nat
 | [] => 0
 | t :: l => cnt t + cntL l
def cntM : List (ByteArray × T) → Nat
 | [] => 0
 | (_, t) :: l => cnt t + cntM l
end
mutual
def big (f : ByteArray → Bool) : T → Bool
 | .num x => f x
 | .arr l => bigL f l
 | .obj l => bigM f l
 | _ => false
def bigL (f : ByteArray → Bool) : List T → Bool
 | [] => false
 | t :: l => big f t || bigL f l
def bigM (f : ByteArray → Bool) : List (ByteArray × T) → Bool
 | [] => false
 | (_, t) :: l => big f t || bigM f l
end
def hasKey (p : List ByteArray) (k : ByteArray) : Bool := p.any fun x => x.data.toList == k.data.toList
mutual
def twice : T → Bool
 | .arr l => twiceL l
 | .obj l => twiceM [] l
 | _ => false
def twiceL : List T → Bool
 | [] => false
 | t :: l => twice t || twiceL l
def twiceM (p : List ByteArray) : List (ByteArray × T) → Bool
 | [] => false
 | (k, t) :: l => twice t || hasKey p k || twiceM (p ++ [k]) l
end
end Go.Proofs.YtndagnkhjlgjgaaGreatDoor.Tree
