/- The canonical text of a tree; strings between quotes read back. Plain, no program in sight. -/
import Derived.Test.YtndagnkhjlgjgaaGreatDoorRune
namespace Go.Proofs.YtndagnkhjlgjgaaGreatDoor.Tree
open Go.RowKit YtndagnkhjlgjgaaGreatDoorW.PrintWords Str
set_option linter.unusedVariables false
set_option linter.unusedSimpArgs false
def At (s : ByteArray) : Nat → List Int → Prop
 | p, [] => p ≤ s.size
 | p, c :: l => p < s.size ∧ bt s (p : Int) = c ∧ At s (p + 1) l
theorem At.le {s : ByteArray} : ∀ {l : List Int} {p : Nat}, At s p l → p + l.length ≤ s.size
 | [], p, h => h
 | c :: l, p, h => by
  have := At.le h.2.2
  simp only [List.length_cons]
  omega
theorem At.app {s : ByteArray} : ∀ {a b : List Int} {p : Nat}, At s p (a ++ b) → At s p a ∧ At s (p + a.length) b
 | [], b, p, h => ⟨by have := At.le (l := b) h; show p ≤ s.size; omega, h⟩
 | c :: a, b, p, h => by
  obtain ⟨h1, h2, h3⟩ := h
  obtain ⟨h4, h5⟩ := At.app (a := a) h3
  refine ⟨⟨h1, h2, h4⟩, ?_⟩
  rw [List.length_cons, show p + (a.length + 1) = p + 1 + a.length by omega]
  exact h5
theorem At.mk {s : ByteArray} : ∀ {a b : List Int} {p : Nat}, At s p a → At s (p + a.length) b → At s p (a ++ b)
 | [], b, p, h, k => by simpa using k
 | c :: a, b, p, h, k => by
  obtain ⟨h1, h2, h3⟩ := h
  refine ⟨h1, h2, At.mk h3 ?_⟩
  rw [List.length_cons, show p + (a.length + 1) = p + 1 + a.length by omega] at k
  exact k
theorem bt_str (l : List Int) (h : ∀ x ∈ l, 0 ≤ x ∧ x ≤ 255) (i : Nat) (hi : i < l.length) : bt (strOfNums l) (i : Int) = l[i] := by
 have hz : (strOfNums l).size = l.length := strOfNums_size l
 have hx := h l[i] (List.getElem_mem hi)
 have hlt : i < (strOfNums l).size := by omega
 have : bt (strOfNums l) (i : Int) = (((strOfNums l)[i]'hlt).toNat : Int) := by simp [bt, hlt]
 rw [this]
 have e : (strOfNums l)[i]'hlt = UInt8.ofNat (l[i]).toNat := by
  show (strOfNums l).data[i] = _
  simp [strOfNums]
 rw [e, UInt8.toNat_ofNat']
 omega
theorem At.self_ (l : List Int) (h : ∀ x ∈ l, 0 ≤ x ∧ x ≤ 255) : ∀ (b a : List Int), l = a ++ b → At (strOfNums l) a.length b
 | [], a, e => by
  show a.length ≤ _
  rw [strOfNums_size, e]
  simp
 | c :: b, a, e => by
  have hl : a.length < l.length := by rw [e]; simp
  refine ⟨by rw [strOfNums_size]; exact hl, ?_, ?_⟩
  ·rw [bt_str l h _ hl]
   simp [e]
  ·have := At.self_ l h b (a ++ [c]) (by rw [e]; simp)
   simpa using this
theorem At.self (l : List Int) (h : ∀ x ∈ l, 0 ≤ x ∧ x ≤ 255) : At (strOfNums l) 0 l := At.self_ l h l [] rfl
theorem At.btsL {s : ByteArray} : ∀ {l : List Int} {p : Nat}, At s p l → btsL s (p : Int) l.length = l
 | [], p, h => rfl
 | c :: l, p, h => by
  obtain ⟨h1, h2, h3⟩ := h
  rw [List.length_cons, Str.btsL, h2]
  have := At.btsL h3
  rw [show (((p + 1 : Nat) : Int)) = (p : Int) + 1 by omega] at this
  rw [this]
def byt (b : ByteArray) : List Int := b.data.toList.map fun x => (x.toNat : Int)
theorem byt_str (l : List Int) (h : ∀ x ∈ l, 0 ≤ x ∧ x ≤ 255) : byt (strOfNums l) = l := by
 unfold byt
 rw [strOfNums_data, List.map_map]
 conv => rhs; rw [← List.map_id l]
 refine List.map_congr_left fun x hx => ?_
 have := h x hx
 simp only [Function.comp]
 show ((UInt8.ofNat x.toNat).toNat : Int) = x
 rw [UInt8.toNat_ofNat']
 omega
theorem str_byt (b : ByteArray) : strOfNums (byt b) = b := by
 have : (strOfNums (byt b)).data.toList = b.data.toList := by
  rw [strOfNums_data]
  unfold byt
  rw [List.map_map]
  conv => rhs; rw [← List.map_id b.data.toList]
  refine List.map_congr_left fun x hx => ?_
  simp only [Function.comp, Int.toNat_natCast]
  simp
 apply ByteArray.ext
 exact Array.ext' this
theorem byt_range (b : ByteArray) : ∀ x ∈ byt b, 0 ≤ x ∧ x ≤ 255 := by
 intro x hx
 unfold byt at hx
 obtain ⟨y, _, rfl⟩ := List.mem_map.1 hx
 have := UInt8.toNat_lt y
 omega
theorem byt_len (b : ByteArray) : (byt b).length = b.size := by
 unfold byt
 rw [List.length_map, Array.length_toList]
 rfl
abbrev HEX : ByteArray := ⟨#[48, 49, 50, 51, 52, 53, 54, 55, 56, 57, 97, 98, 99, 100, 101, 102]⟩
def escI (c : Int) : List Int :=
 if c = 34 then [92, 34] else if c = 92 then [92, 92] else if c = 8 then [92, 98] else if c = 9 then [92, 116] else if c = 10 then [92, 110]
 else if c = 12 then [92, 102] else if c = 13 then [92, 114] else if c < 32 then [92, 117, 48, 48, bt HEX (c / 16), bt HEX (c % 16)] else [c]
def quo (b : ByteArray) : List Int := 34 :: ((byt b).flatMap escI ++ [34])
theorem escI_range (c : Int) (h : 0 ≤ c ∧ c ≤ 255) : ∀ x ∈ escI c, 0 ≤ x ∧ x ≤ 255 := by
 unfold escI
 intro x hx
 have b1 := bt_range HEX (c / 16)
 have b2 := bt_range HEX (c % 16)
 repeat' split at hx
 all_goals simp only [List.mem_cons, List.not_mem_nil, or_false] at hx
 all_goals omega
theorem quo_range (b : ByteArray) : ∀ x ∈ quo b, 0 ≤ x ∧ x ≤ 255 := by
 intro x hx
 unfold quo at hx
 simp only [List.mem_cons, List.mem_append, List.not_mem_nil, or_false, List.mem_flatMap] at hx
 rcases hx with rfl | ⟨y, hy, hx⟩ | rfl
 ·omega
 ·exact escI_range y (byt_range b y hy) x hx
 ·omega
inductive VU : List Int → Prop
 | nil : VU []
 | cons {r : Int} {l : List Int} : 0 ≤ r → r ≤ 1114111 → (r < 55296 ∨ 57344 ≤ r) → VU l → VU (u8L r ++ l)
theorem VU.one {r : Int} (h0 : 0 ≤ r) (h1 : r ≤ 1114111) (h2 : r < 55296 ∨ 57344 ≤ r) : VU (u8L r) := by
 have := VU.cons h0 h1 h2 VU.nil
 simpa using this
theorem VU.app {a b : List Int} (ha : VU a) (hb : VU b) : VU (a ++ b) := by
 induction ha with
 | nil => exact hb
 | cons h0 h1 h2 _ ih => rw [List.append_assoc]; exact VU.cons h0 h1 h2 ih
theorem VU.range {a : List Int} (ha : VU a) : ∀ x ∈ a, 0 ≤ x ∧ x ≤ 255 := by
 induction ha with
 | nil => intro x hx; cases hx
 | cons h0 h1 h2 _ ih =>
  intro x hx
  rcases List.mem_append.1 hx with hx | hx
  ·exact u8L_range _ h0 h1 x hx
  ·exact ih x hx
theorem decN_own (n a b c d : Nat) (ha : 128 ≤ a) (ha2 : a ≤ 255) (hn : ¬ ((decN n a b c d).1 = 65533 ∧ (decN n a b c d).2 < 2)) :
  (((decN n a b c d).1 : Int) < 55296 ∨ 57344 ≤ ((decN n a b c d).1 : Int)) ∧ ((decN n a b c d).1 : Int) ≤ 1114111 ∧ 128 ≤ (decN n a b c d).1 ∧
  u8L ((decN n a b c d).1 : Int) = ([a, b, c, d].map fun (x : Nat) => (x : Int)).take (decN n a b c d).2 ∧ (decN n a b c d).2 ≤ n := by
 unfold decN at hn ⊢
 rw [if_neg (by omega)] at hn ⊢
 by_cases c1 : a / 32 = 6 ∧ (1 < n ∧ b / 64 = 2)
 ·rw [if_pos c1] at hn ⊢
  by_cases c2 : a % 32 * 64 + b % 64 ≥ 128
  ·rw [if_pos c2]
   refine ⟨.inl (by show ((a % 32 * 64 + b % 64 : Nat) : Int) < 55296; omega), by show ((a % 32 * 64 + b % 64 : Nat) : Int) ≤ 1114111; omega, c2, ?_, by show 2 ≤ n; omega⟩
   show u8L ((a % 32 * 64 + b % 64 : Nat) : Int) = [(a : Int), (b : Int)]
   rw [u8b (by omega) (by omega)]
   congr 1
   ·omega
   ·congr 1; omega
  ·rw [if_neg c2] at hn
   exact absurd ⟨rfl, by show 1 < 2; omega⟩ hn
 ·rw [if_neg c1] at hn ⊢
  by_cases c3 : a / 16 = 14 ∧ (1 < n ∧ b / 64 = 2) ∧ (2 < n ∧ c / 64 = 2)
  ·rw [if_pos c3] at hn ⊢
   by_cases c2 : a % 16 * 4096 + b % 64 * 64 + c % 64 ≥ 2048 ∧ (a % 16 * 4096 + b % 64 * 64 + c % 64 < 55296 ∨ 57344 ≤ a % 16 * 4096 + b % 64 * 64 + c % 64 ∧ a % 16 * 4096 + b % 64 * 64 + c % 64 ≤ 1114111)
   ·rw [if_pos c2]
    refine ⟨by show ((a % 16 * 4096 + b % 64 * 64 + c % 64 : Nat) : Int) < 55296 ∨ 57344 ≤ ((a % 16 * 4096 + b % 64 * 64 + c % 64 : Nat) : Int); omega, by show ((a % 16 * 4096 + b % 64 * 64 + c % 64 : Nat) : Int) ≤ 1114111; omega, by show 128 ≤ a % 16 * 4096 + b % 64 * 64 + c % 64; omega, ?_, by show 3 ≤ n; omega⟩
    show u8L ((a % 16 * 4096 + b % 64 * 64 + c % 64 : Nat) : Int) = [(a : Int), (b : Int), (c : Int)]
    rw [u8c (by omega) (by omega)]
    congr 1
    ·omega
    ·congr 1
     ·omega
     ·congr 1; omega
   ·rw [if_neg c2] at hn
    exact absurd ⟨rfl, by show 1 < 2; omega⟩ hn
  ·rw [if_neg c3] at hn ⊢
   by_cases c4 : a / 8 = 30 ∧ (1 < n ∧ b / 64 = 2) ∧ (2 < n ∧ c / 64 = 2) ∧ (3 < n ∧ d / 64 = 2)
   ·rw [if_pos c4] at hn ⊢
    by_cases c2 : a % 8 * 262144 + b % 64 * 4096 + c % 64 * 64 + d % 64 ≥ 65536 ∧ (a % 8 * 262144 + b % 64 * 4096 + c % 64 * 64 + d % 64 < 55296 ∨ 57344 ≤ a % 8 * 262144 + b % 64 * 4096 + c % 64 * 64 + d % 64 ∧ a % 8 * 262144 + b % 64 * 4096 + c % 64 * 64 + d % 64 ≤ 1114111)
    ·rw [if_pos c2]
     refine ⟨by show ((a % 8 * 262144 + b % 64 * 4096 + c % 64 * 64 + d % 64 : Nat) : Int) < 55296 ∨ 57344 ≤ ((a % 8 * 262144 + b % 64 * 4096 + c % 64 * 64 + d % 64 : Nat) : Int); omega, by show ((a % 8 * 262144 + b % 64 * 4096 + c % 64 * 64 + d % 64 : Nat) : Int) ≤ 1114111; omega, by show 128 ≤ a % 8 * 262144 + b % 64 * 4096 + c % 64 * 64 + d % 64; omega, ?_, by show 4 ≤ n; omega⟩
     show u8L ((a % 8 * 262144 + b % 64 * 4096 + c % 64 * 64 + d % 64 : Nat) : Int) = [(a : Int), (b : Int), (c : Int), (d : Int)]
     rw [u8d (by omega)]
     congr 1
     ·omega
     ·congr 1
      ·omega
      ·congr 1
       ·omega
       ·congr 1; omega
    ·rw [if_neg c2] at hn
     exact absurd ⟨rfl, by show 1 < 2; omega⟩ hn
   ·rw [if_neg c4] at hn
    exact absurd ⟨rfl, by show 1 < 2; omega⟩ hn
theorem nb_le (s : ByteArray) (i : Nat) : nb s i ≤ 255 := by
 have h1 := nb_bt s i
 have h2 := bt_range s (i : Int)
 omega
theorem btsL_four (s : ByteArray) (p k : Nat) (hk : k ≤ 4) : btsL s (p : Int) k = ([nb s p, nb s (p + 1), nb s (p + 2), nb s (p + 3)].map fun (x : Nat) => (x : Int)).take k := by
 have h0 := nb_bt s p
 have h1 := nb_bt s (p + 1)
 have h2 := nb_bt s (p + 2)
 have h3 := nb_bt s (p + 3)
 have e1 : (((p + 1 : Nat) : Int)) = (p : Int) + 1 := by omega
 have e2 : (((p + 2 : Nat) : Int)) = (p : Int) + 1 + 1 := by omega
 have e3 : (((p + 3 : Nat) : Int)) = (p : Int) + 1 + 1 + 1 := by omega
 rw [e1] at h1
 rw [e2] at h2
 rw [e3] at h3
 match k, hk with
 | 0, _ => rfl
 | 1, _ => simp [btsL, h0]
 | 2, _ => simp [btsL, h0, h1]
 | 3, _ => simp [btsL, h0, h1, h2]
 | 4, _ => simp [btsL, h0, h1, h2, h3]
theorem VU_esc {s : ByteArray} {p q : Nat} {b : List Int} (h : escF s p = some (b, q)) : VU b := by
 unfold escF at h
 split at h
 ·split at h
  ·rename_i h1
   have h2 := simpF_le (bt s (p : Int))
   injection h with h
   injection h with h _
   subst h
   rw [← u8a (show simpF (bt s (p : Int)) < 128 by omega)]
   exact VU.one h1 (by omega) (by omega)
  ·split at h
   ·split at h
    ·cases h
    ·rename_i v hv
     have hle := unitF_le hv
     split at h
     ·cases h
     ·rename_i hn1
      split at h
      ·rename_i hs1
       split at h
       ·split at h
        ·cases h
        ·rename_i u hu
         have hlu := unitF_le hu
         split at h
         ·cases h
         ·rename_i hn2
          injection h with h
          injection h with h _
          subst h
          exact VU.one (by omega) (by omega) (by omega)
       ·cases h
      ·rename_i hn3
       injection h with h
       injection h with h _
       subst h
       exact VU.one (by omega) (by omega) (by omega)
   ·cases h
 ·cases h
theorem VU_piece {s : ByteArray} {p q : Nat} {b : List Int} (hp : p < s.size) (h : pieceF s p = some (b, q)) : VU b := by
 have hr := bt_range s (p : Int)
 unfold pieceF at h
 split at h
 ·exact VU_esc h
 ·split at h
  ·cases h
  ·rename_i h1 h2
   split at h
   ·rename_i h3
    injection h with h
    injection h with h _
    subst h
    rw [← u8a h3]
    exact VU.one (by omega) (by omega) (by omega)
   ·rename_i h3
    split at h
    ·cases h
    ·rename_i h4
     injection h with h
     injection h with h _
     subst h
     have hd := dec_eq s p
     have hb0 := nb_bt s p
     have hown := decN_own (s.size - p) (nb s p) (nb s (p + 1)) (nb s (p + 2)) (nb s (p + 3)) (by omega) (nb_le s p) (by
      intro hh
      apply h4
      unfold badR
      rw [hd]
      simp [hh.1, hh.2])
     have hk := dec_le4 (s.size - p) (nb s p) (nb s (p + 1)) (nb s (p + 2)) (nb s (p + 3))
     rw [← hd] at hown hk
     rw [btsL_four s p _ hk, ← hown.2.2.2.1]
     exact VU.one (by omega) hown.2.1 hown.1
theorem VU_strL (s : ByteArray) : ∀ (d p : Nat) (b : List Int) (q : Nat), strL s d p = some (b, q) → VU b
 | 0, p, b, q, h => by cases h
 | d + 1, p, b, q, h => by
  rw [strL] at h
  split at h
  ·rename_i hp
   split at h
   ·injection h with h
    injection h with h _
    subst h
    exact VU.nil
   ·split at h
    ·cases h
    ·rename_i b1 q1 hq
     cases h2 : strL s d q1 with
     | none => rw [h2] at h; cases h
     | some r =>
      rw [h2] at h
      injection h with h
      injection h with h _
      subst h
      exact VU.app (VU_piece hp hq) (VU_strL s d q1 r.1 r.2 h2)
  ·cases h
theorem VU_strF {s : ByteArray} {p q : Nat} {b : List Int} (h : strF s p = some (b, q)) : VU b := by
 unfold strF at h
 split at h
 ·exact VU_strL s _ _ b q h
 ·cases h
theorem dec2 (r n c d : Nat) (h0 : 128 ≤ r) (h1 : r < 2048) (hn : 2 ≤ n) : decN n (192 + r / 64) (128 + r % 64) c d = (r, 2) := by
 unfold decN
 rw [if_neg (by omega), if_pos (by omega), if_pos (by omega)]
 congr 1
 omega
theorem dec3 (r n d : Nat) (h0 : 2048 ≤ r) (h1 : r < 65536) (hv : r < 55296 ∨ 57344 ≤ r) (hn : 3 ≤ n) : decN n (224 + r / 4096) (128 + r / 64 % 64) (128 + r % 64) d = (r, 3) := by
 unfold decN
 have e : (224 + r / 4096) % 16 * 4096 + (128 + r / 64 % 64) % 64 * 64 + (128 + r % 64) % 64 = r := by omega
 rw [if_neg (by omega), if_neg (by omega), if_pos (by omega), e, if_pos (by omega)]
theorem dec4 (r n : Nat) (h0 : 65536 ≤ r) (h1 : r ≤ 1114111) (hn : 4 ≤ n) : decN n (240 + r / 262144) (128 + r / 4096 % 64) (128 + r / 64 % 64) (128 + r % 64) = (r, 4) := by
 unfold decN
 have e : (240 + r / 262144) % 8 * 262144 + (128 + r / 4096 % 64) % 64 * 4096 + (128 + r / 64 % 64) % 64 * 64 + (128 + r % 64) % 64 = r := by omega
 rw [if_neg (by omega), if_neg (by omega), if_neg (by omega), if_pos (by omega), e, if_pos (by omega)]
theorem At.nb {s : ByteArray} {p : Nat} {c : Int} {l : List Int} (h : At s p (c :: l)) : (nb s p : Int) = c := by
 rw [nb_bt]; exact h.2.1
theorem dec_at (s : ByteArray) (p : Nat) (r : Int) (h0 : 128 ≤ r) (h1 : r ≤ 1114111) (hv : r < 55296 ∨ 57344 ≤ r) (h : At s p (u8L r)) : Utf8.decode s p = (r.toNat, (u8L r).length) := by
 have hle := h.le
 rw [dec_eq]
 obtain ⟨m, rfl⟩ : ∃ m : Nat, r = (m : Int) := ⟨r.toNat, by omega⟩
 rw [Int.toNat_natCast]
 by_cases c1 : (m : Int) < 2048
 ·rw [u8b h0 c1] at h hle ⊢
  simp only [List.length_cons, List.length_nil] at hle ⊢
  have n0 := h.nb
  have n1 := At.nb h.2.2
  have e0 : nb s p = 192 + m / 64 := by omega
  have e1 : nb s (p + 1) = 128 + m % 64 := by omega
  rw [e0, e1, dec2 m _ _ _ (by omega) (by omega) (by omega)]
 ·by_cases c2 : (m : Int) < 65536
  ·rw [u8c (by omega) c2] at h hle ⊢
   simp only [List.length_cons, List.length_nil] at hle ⊢
   have n0 := h.nb
   have n1 := At.nb h.2.2
   have n2 := At.nb h.2.2.2.2
   have e0 : nb s p = 224 + m / 4096 := by omega
   have e1 : nb s (p + 1) = 128 + m / 64 % 64 := by omega
   have e2 : nb s (p + 2) = 128 + m % 64 := by
    have : p + 1 + 1 = p + 2 := by omega
    rw [this] at n2
    omega
   rw [e0, e1, e2, dec3 m _ _ (by omega) (by omega) (by omega) (by omega)]
  ·rw [u8d (by omega)] at h hle ⊢
   simp only [List.length_cons, List.length_nil] at hle ⊢
   have n0 := h.nb
   have n1 := At.nb h.2.2
   have n2 := At.nb h.2.2.2.2
   have n3 := At.nb h.2.2.2.2.2.2
   have t2 : p + 1 + 1 = p + 2 := by omega
   have t3 : p + 1 + 1 + 1 = p + 3 := by omega
   rw [t2] at n2
   rw [t3] at n3
   have e0 : nb s p = 240 + m / 262144 := by omega
   have e1 : nb s (p + 1) = 128 + m / 4096 % 64 := by omega
   have e2 : nb s (p + 2) = 128 + m / 64 % 64 := by omega
   have e3 : nb s (p + 3) = 128 + m % 64 := by omega
   rw [e0, e1, e2, e3, dec4 m _ (by omega) (by omega) (by omega)]
theorem u8L_high (r : Int) (h0 : 128 ≤ r) (h1 : r ≤ 1114111) : ∀ x ∈ u8L r, 128 ≤ x := by
 unfold u8L
 rw [if_neg (by omega)]
 intro x hx
 repeat' split at hx
 all_goals simp only [List.mem_cons, List.not_mem_nil, or_false] at hx
 all_goals omega
theorem flat_id : ∀ (l : List Int), (∀ x ∈ l, 128 ≤ x) → l.flatMap escI = l
 | [], _ => rfl
 | c :: l, h => by
  have hc := h c (by simp)
  have e : escI c = [c] := by
   unfold escI
   rw [if_neg (by omega), if_neg (by omega), if_neg (by omega), if_neg (by omega), if_neg (by omega), if_neg (by omega), if_neg (by omega), if_neg (by omega)]
  rw [List.flatMap_cons, e, flat_id l (fun x hx => h x (by simp [hx]))]
  rfl
theorem hex_tab : ∀ n : Fin 32, hexD (bt HEX ((n.1 : Int) / 16)) = (n.1 : Int) / 16 ∧ hexD (bt HEX ((n.1 : Int) % 16)) = (n.1 : Int) % 16 := by decide +kernel
theorem piece_at (s : ByteArray) (p : Nat) (r : Int) (h0 : 0 ≤ r) (h1 : r ≤ 1114111) (hv : r < 55296 ∨ 57344 ≤ r) (h : At s p ((u8L r).flatMap escI)) :
  pieceF s p = some (u8L r, p + ((u8L r).flatMap escI).length) ∧ p < s.size ∧ bt s (p : Int) ≠ 34 ∧ 0 < ((u8L r).flatMap escI).length := by
 by_cases hl : r < 128
 ·rw [u8a hl] at h ⊢
  rw [List.flatMap_cons, List.flatMap_nil, List.append_nil] at h ⊢
  have simple : ∀ c : Int, escI r = [92, c] → simpF c = r → pieceF s p = some ([r], p + (escI r).length) ∧ p < s.size ∧ bt s (p : Int) ≠ 34 ∧ 0 < (escI r).length := by
   intro c he hs
   rw [he] at h ⊢
   obtain ⟨a1, a2, a3, a4, _⟩ := h
   have a4 : bt s ((p + 1 : Nat) : Int) = c := a4
   refine ⟨?_, a1, by omega, by simp⟩
   unfold pieceF escF
   rw [if_pos a2, if_pos a3, a4, hs, if_pos h0]
   rfl
  by_cases c34 : r = 34
  ·exact simple 34 (by unfold escI; rw [if_pos c34]) (by rw [c34]; rfl)
  by_cases c92 : r = 92
  ·exact simple 92 (by unfold escI; rw [if_neg c34, if_pos c92]) (by rw [c92]; rfl)
  by_cases c8 : r = 8
  ·exact simple 98 (by unfold escI; rw [if_neg c34, if_neg c92, if_pos c8]) (by rw [c8]; rfl)
  by_cases c9 : r = 9
  ·exact simple 116 (by unfold escI; rw [if_neg c34, if_neg c92, if_neg c8, if_pos c9]) (by rw [c9]; rfl)
  by_cases c10 : r = 10
  ·exact simple 110 (by unfold escI; rw [if_neg c34, if_neg c92, if_neg c8, if_neg c9, if_pos c10]) (by rw [c10]; rfl)
  by_cases c12 : r = 12
  ·exact simple 102 (by unfold escI; rw [if_neg c34, if_neg c92, if_neg c8, if_neg c9, if_neg c10, if_pos c12]) (by rw [c12]; rfl)
  by_cases c13 : r = 13
  ·exact simple 114 (by unfold escI; rw [if_neg c34, if_neg c92, if_neg c8, if_neg c9, if_neg c10, if_neg c12, if_pos c13]) (by rw [c13]; rfl)
  by_cases c32 : r < 32
  ·have he : escI r = [92, 117, 48, 48, bt HEX (r / 16), bt HEX (r % 16)] := by
    unfold escI
    rw [if_neg c34, if_neg c92, if_neg c8, if_neg c9, if_neg c10, if_neg c12, if_neg c13, if_pos c32]
   rw [he] at h ⊢
   have hx := hex_tab ⟨r.toNat, by omega⟩
   have hrn : ((r.toNat : Nat) : Int) = r := by omega
   simp only [hrn] at hx
   obtain ⟨a1, a2, a3, a4, a5, a6, a7, a8, a9, a10, a11, a12, a13⟩ := h
   have a4 : bt s ((p + 1 : Nat) : Int) = 117 := a4
   have a6 : bt s ((p + 1 + 1 : Nat) : Int) = 48 := a6
   have a8 : bt s ((p + 1 + 1 : Nat) + 1 : Int) = 48 := a8
   have a10 : bt s ((p + 1 + 1 : Nat) + 2 : Int) = bt HEX (r / 16) := by
    rw [← a10]; congr 1
   have a12 : bt s ((p + 1 + 1 : Nat) + 3 : Int) = bt HEX (r % 16) := by
    rw [← a12]; congr 1
   have hu : unitF s (p + 1 + 1) = some r := by
    unfold unitF
    rw [a6, a8, a10, a12, hx.1, hx.2, if_pos ⟨by omega, by decide, by decide, by omega, by omega⟩]
    have e48 : hexD 48 = 0 := rfl
    rw [e48]
    congr 1
    omega
   refine ⟨?_, a1, by omega, by simp⟩
   unfold pieceF escF
   rw [if_pos a2, if_pos a3, a4, if_neg (by decide), if_pos rfl, hu]
   simp only
   rw [if_neg (by omega), if_neg (by omega), u8a hl]
   rfl
  ·have he : escI r = [r] := by
    unfold escI
    rw [if_neg c34, if_neg c92, if_neg c8, if_neg c9, if_neg c10, if_neg c12, if_neg c13, if_neg c32]
   rw [he] at h ⊢
   obtain ⟨a1, a2, a3⟩ := h
   refine ⟨?_, a1, by omega, by simp⟩
   unfold pieceF
   rw [a2, if_neg c92, if_neg (by omega), if_pos hl]
   rfl
 ·have hh := u8L_high r (by omega) h1
  rw [flat_id _ hh] at h ⊢
  have hd := dec_at s p r (by omega) h1 hv h
  have hlen := u8L_len r
  have hle := h.le
  have hpos : p < s.size := by omega
  obtain ⟨c, l, hcl⟩ : ∃ c l, u8L r = c :: l := by
   cases hu : u8L r with
   | nil => rw [hu] at hlen; simp at hlen
   | cons c l => exact ⟨c, l, rfl⟩
  have hc : bt s (p : Int) = c := by rw [hcl] at h; exact h.2.1
  have hc2 : 128 ≤ c := hh c (by rw [hcl]; simp)
  refine ⟨?_, hpos, by omega, by omega⟩
  have hb : badR s p = false := by
   unfold badR
   rw [hd]
   have : ¬ ((u8L r).length < 2) := by
    unfold u8L
    rw [if_neg hl]
    repeat' split
    all_goals simp
   simp [this]
  unfold pieceF
  rw [if_neg (by omega), if_neg (by omega), if_neg (by omega), hb, if_neg (by simp), hd]
  simp only
  rw [h.btsL]
theorem strL_quo {l : List Int} (hl : VU l) (s : ByteArray) : ∀ (d p : Nat) (e : List Int), At s p (l.flatMap escI ++ 34 :: e) → s.size < p + d → strL s d p = some (l, p + (l.flatMap escI).length + 1) := by
 induction hl with
 | nil =>
  intro d p e h hd
  obtain ⟨d, rfl⟩ : ∃ k, d = k + 1 := ⟨d - 1, by have := At.le h; simp at this; omega⟩
  obtain ⟨a1, a2, _⟩ := h
  rw [strL, if_pos a1, if_pos a2]
  rfl
 | cons h0 h1 h2 hl ih =>
  rename_i r l
  intro d p e h hd
  rw [List.flatMap_append, List.append_assoc] at h
  obtain ⟨a1, a2⟩ := At.app h
  obtain ⟨b1, b2, b3, b4⟩ := piece_at s p r h0 h1 h2 a1
  obtain ⟨d, rfl⟩ : ∃ k, d = k + 1 := ⟨d - 1, by omega⟩
  rw [strL, if_pos b2, if_neg b3, b1]
  simp only
  rw [ih d _ e a2 (by omega), Option.map_some, List.flatMap_append, List.length_append]
  congr 2
  omega
theorem quo_app (b : ByteArray) (e : List Int) : quo b ++ e = 34 :: ((byt b).flatMap escI ++ 34 :: e) := by
 unfold quo
 simp
theorem quo_len (b : ByteArray) : (quo b).length = ((byt b).flatMap escI).length + 2 := by
 unfold quo
 simp
theorem strF_quo (b : ByteArray) (hb : VU (byt b)) (s : ByteArray) (p : Nat) (e : List Int) (h : At s p (quo b ++ e)) : strF s p = some (byt b, p + (quo b).length) := by
 rw [quo_app] at h
 obtain ⟨a1, a2, a3⟩ := h
 unfold strF
 rw [if_pos ⟨a1, a2⟩, strL_quo hb s (s.size - p) (p + 1) e a3 (by omega), quo_len]
 congr 2
 omega
end Go.Proofs.YtndagnkhjlgjgaaGreatDoor.Tree
