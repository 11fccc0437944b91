/- The strings of JSON, as both sides read them: plain functions over a text and a place. -/
import Derived.Test.YtbonodglnilkfaaDoorWWords
import Derived.Lib.RuneBytes
namespace Go.Proofs.YtbonodglnilkfaaDoor.Str
open Go.RowKit Go.Proofs.YtbonodglnilkfaaDoorW.PrintWords
set_option linter.unusedVariables false
def u8L (r : Int) : List Int :=
 if r < 128 then [r] else if r < 2048 then [192 + r / 64, 128 + r % 64] else if r < 65536 then [224 + r / 4096, 128 + r / 64 % 64, 128 + r % 64]
 else [240 + r / 262144, 128 + r / 4096 % 64, 128 + r / 64 % 64, 128 + r % 64]
def btsL (s : ByteArray) (p : Int) : Nat → List Int
 | 0 => []
 | n + 1 => bt s p :: btsL s (p + 1) n
def badR (s : ByteArray) (pos : Nat) : Bool := ((Utf8.decode s pos).1 == 65533) && decide ((Utf8.decode s pos).2 < 2)
def hexD (c : Int) : Int := if 48 ≤ c ∧ c ≤ 57 then c - 48 else if 97 ≤ c ∧ c ≤ 102 then c - 87 else if 65 ≤ c ∧ c ≤ 70 then c - 55 else -1
def unitF (s : ByteArray) (p : Nat) : Option Int :=
 if p + 4 ≤ s.size ∧ 0 ≤ hexD (bt s (p : Int)) ∧ 0 ≤ hexD (bt s ((p : Int) + 1)) ∧ 0 ≤ hexD (bt s ((p : Int) + 2)) ∧ 0 ≤ hexD (bt s ((p : Int) + 3)) then
  some (((hexD (bt s (p : Int)) * 16 + hexD (bt s ((p : Int) + 1))) * 16 + hexD (bt s ((p : Int) + 2))) * 16 + hexD (bt s ((p : Int) + 3)))
 else none
def simpF (c : Int) : Int := if c = 34 then 34 else if c = 92 then 92 else if c = 47 then 47 else if c = 98 then 8 else if c = 102 then 12 else if c = 110 then 10 else if c = 114 then 13 else if c = 116 then 9 else -1
def escF (s : ByteArray) (p : Nat) : Option (List Int × Nat) :=
 if p < s.size then
  if 0 ≤ simpF (bt s (p : Int)) then some ([simpF (bt s (p : Int))], p + 1)
  else if bt s (p : Int) = 117 then
   match unitF s (p + 1) with
   | none => none
   | some v =>
    if 56320 ≤ v ∧ v ≤ 57343 then none
    else if 55296 ≤ v ∧ v ≤ 56319 then
     if p + 7 ≤ s.size ∧ bt s ((p : Int) + 5) = 92 ∧ bt s ((p : Int) + 6) = 117 then
      match unitF s (p + 7) with
      | none => none
      | some u => if u < 56320 ∨ u > 57343 then none else some (u8L (65536 + (v - 55296) * 1024 + (u - 56320)), p + 11)
     else none
    else some (u8L v, p + 5)
  else none
 else none
def pieceF (s : ByteArray) (p : Nat) : Option (List Int × Nat) :=
 if bt s (p : Int) = 92 then escF s (p + 1)
 else if bt s (p : Int) < 32 ∨ bt s (p : Int) = 34 then none
 else if bt s (p : Int) < 128 then some ([bt s (p : Int)], p + 1)
 else if badR s p = true then none
 else some (btsL s (p : Int) (Utf8.decode s p).2, p + (Utf8.decode s p).2)
def strL (s : ByteArray) : Nat → Nat → Option (List Int × Nat)
 | 0, _ => none
 | d + 1, p =>
  if p < s.size then
   if bt s (p : Int) = 34 then some ([], p + 1)
   else match pieceF s p with
    | none => none
    | some (b, q) => (strL s d q).map fun r => (b ++ r.1, r.2)
  else none
def strF (s : ByteArray) (p : Nat) : Option (List Int × Nat) :=
 if p < s.size ∧ bt s (p : Int) = 34 then strL s (s.size - p) (p + 1) else none
theorem hexD_le (c : Int) : hexD c ≤ 15 ∧ -1 ≤ hexD c := by
 unfold hexD
 repeat' split
 all_goals omega
theorem unitF_le {s : ByteArray} {p : Nat} {v : Int} (h : unitF s p = some v) : 0 ≤ v ∧ v ≤ 65535 ∧ p + 4 ≤ s.size := by
 unfold unitF at h
 split at h
 ·rename_i c
  injection h with h
  have := (hexD_le (bt s (p : Int))).1
  have := (hexD_le (bt s ((p : Int) + 1))).1
  have := (hexD_le (bt s ((p : Int) + 2))).1
  have := (hexD_le (bt s ((p : Int) + 3))).1
  omega
 ·cases h
theorem u8L_len (r : Int) : 1 ≤ (u8L r).length ∧ (u8L r).length ≤ 4 := by
 unfold u8L
 repeat' split
 all_goals simp
theorem btsL_len (s : ByteArray) : ∀ (n : Nat) (p : Int), (btsL s p n).length = n
 | 0, _ => rfl
 | n + 1, p => by simp [btsL, btsL_len s n]
theorem simpF_le (c : Int) : -1 ≤ simpF c ∧ simpF c ≤ 92 := by
 unfold simpF
 repeat' split
 all_goals omega
theorem escF_le {s : ByteArray} {p q : Nat} {b : List Int} (h : escF s p = some (b, q)) : p + 1 ≤ q ∧ q ≤ s.size ∧ b.length ≤ 4 := by
 unfold escF at h
 split at h
 ·split at h
  ·injection h with h
   injection h with h1 h2
   subst h1; subst h2
   exact ⟨Nat.le_refl _, by omega, by simp⟩
  ·split at h
   ·split at h
    ·cases h
    ·rename_i v hv
     have hle := unitF_le hv
     split at h
     ·cases h
     ·split at h
      ·split at h
       ·split at h
        ·cases h
        ·rename_i u hu
         have hlu := unitF_le hu
         split at h
         ·cases h
         ·injection h with h
          injection h with h1 h2
          subst h1; subst h2
          exact ⟨by omega, by omega, (u8L_len _).2⟩
       ·cases h
      ·injection h with h
       injection h with h1 h2
       subst h1; subst h2
       exact ⟨by omega, by omega, (u8L_len _).2⟩
   ·cases h
 ·cases h
theorem dec_pos (s : ByteArray) (p : Nat) (h : p < s.size) : 1 ≤ (Utf8.decode s p).2 ∧ p + (Utf8.decode s p).2 ≤ s.size ∧ (Utf8.decode s p).2 ≤ 4 := by
 unfold Utf8.decode
 simp only []
 repeat' split
 all_goals simp_all
 all_goals omega
theorem pieceF_le {s : ByteArray} {p q : Nat} {b : List Int} (hp : p < s.size) (h : pieceF s p = some (b, q)) : p + 1 ≤ q ∧ q ≤ s.size ∧ b.length ≤ 4 := by
 unfold pieceF at h
 split at h
 ·have := escF_le h
  omega
 ·split at h
  ·cases h
  ·split at h
   ·injection h with h
    injection h with h1 h2
    subst h1; subst h2
    exact ⟨Nat.le_refl _, by omega, by simp⟩
   ·split at h
    ·cases h
    ·injection h with h
     injection h with h1 h2
     subst h1; subst h2
     have := dec_pos s p hp
     rw [btsL_len]
     omega
theorem strL_le (s : ByteArray) : ∀ (d p : Nat) (b : List Int) (q : Nat), strL s d p = some (b, q) → p + 1 ≤ q ∧ q ≤ s.size ∧ b.length ≤ 4 * (q - p) := by
 intro d
 induction d with
 | zero => intro p b q h; cases h
 | succ d ih =>
  intro p b q h
  rw [strL] at h
  split at h
  ·rename_i hp
   split at h
   ·injection h with h
    injection h with h1 h2
    subst h1; subst h2
    exact ⟨Nat.le_refl _, by omega, by simp⟩
   ·split at h
    ·cases h
    ·rename_i b1 q1 hq
     have hle := pieceF_le hp hq
     cases h2 : strL s d q1 with
     | none => rw [h2] at h; cases h
     | some r =>
      rw [h2] at h
      injection h with h
      injection h with h3 h4
      subst h3; subst h4
      have := ih q1 r.1 r.2 h2
      rw [List.length_append]
      omega
  ·cases h
end Go.Proofs.YtbonodglnilkfaaDoor.Str
