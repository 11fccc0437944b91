/- The reference's reading of one piece of a string of JSON: what it computes. -/
import Derived.Test.YtndagnkhjlgjgaaGreatDoorRead4
import Derived.Maps.AppendAt
import Derived.Test.YtndagnkhjlgjgaaGreatDoorTxt
namespace Go.Proofs.YtndagnkhjlgjgaaGreatDoor.Str
open Go.RowKit PJs YtndagnkhjlgjgaaGreatDoorW.PrintWords YtndagnkhjlgjgaaGreatDoorW.PrintLast
set_option linter.unusedVariables false
theorem simple_tab : ∀ n : Fin 256, spec_l1Simple.f 10 (n.1 : Int) = some (simpF (n.1 : Int)) := by decide +kernel
theorem simple_f (c : Int) (h0 : 0 ≤ c) (h1 : c ≤ 255) (k : Nat) (hk : 10 ≤ k) : spec_l1Simple.f k c = some (simpF c) := by
 have h := simple_tab ⟨c.toNat, by omega⟩
 simp only [Int.toNat_of_nonneg h0] at h
 exact at_rounds (fun k => spec_l1Simple.mono c k) hk h
theorem hex_tab : ∀ n : Fin 256, spec_l1Hex.f 1 (n.1 : Int) = some (hexD (n.1 : Int)) := by decide +kernel
theorem hex_f (c : Int) (h0 : 0 ≤ c) (h1 : c ≤ 255) (k : Nat) : spec_l1Hex.f (k + 1) c = some (hexD c) := by
 have h := hex_tab ⟨c.toNat, by omega⟩
 simp only [Int.toNat_of_nonneg h0] at h
 exact at_rounds (fun k => spec_l1Hex.mono c k) (by omega) h
theorem unit_step (s : ByteArray) (p j : Nat) (v : Int) (k : Nat) (hs : s.size ≤ 1048576) (hj : j < 6) (hp : p + 6 ≤ s.size) (h0 : 0 ≤ v) (h1 : v ≤ 65535) :
  spec_l1Unit.l0 (k + 2) s (p : Int) v (j : Int) = if hexD (bt s ((p : Int) + (j : Int))) < 0 then some (-1) else spec_l1Unit.l0 (k + 1) s (p : Int) (v * 16 + hexD (bt s ((p : Int) + (j : Int)))) ((j : Int) + 1) := by
 have hb := bt_range s ((p : Int) + (j : Int))
 simp only [spec_l1Unit.l0]
 have w1 : wrap64 ((p : Int) + (j : Int)) = (p : Int) + (j : Int) := w64 (by omega) (by omega)
 rw [if_pos (show (j : Int) < 6 by omega), w1, if_pos (show 0 ≤ (p : Int) + (j : Int) by omega), if_pos (show (p : Int) + (j : Int) < (s.size : Int) by omega), hex_f _ hb.1 hb.2 k, Option.bind_some]
 have hx := hexD_le (bt s ((p : Int) + (j : Int)))
 generalize hexD (bt s ((p : Int) + (j : Int))) = x at hx
 have w2 : wrap64 (v * 16) = v * 16 := w64 (by omega) (by omega)
 have w3 : wrap64 (v * 16 + x) = v * 16 + x := w64 (by omega) (by omega)
 have w4 : wrap64 ((j : Int) + 1) = (j : Int) + 1 := w64 (by omega) (by omega)
 rw [w2, w3, w4]
theorem unitF_at (s : ByteArray) (p : Nat) : unitF s (p + 2) = if p + 6 ≤ s.size ∧ 0 ≤ hexD (bt s ((p : Int) + 2)) ∧ 0 ≤ hexD (bt s ((p : Int) + 3)) ∧ 0 ≤ hexD (bt s ((p : Int) + 4)) ∧ 0 ≤ hexD (bt s ((p : Int) + 5)) then
  some (((hexD (bt s ((p : Int) + 2)) * 16 + hexD (bt s ((p : Int) + 3))) * 16 + hexD (bt s ((p : Int) + 4))) * 16 + hexD (bt s ((p : Int) + 5)))
 else none := by
 unfold unitF
 have e0 : ((p + 2 : Nat) : Int) = (p : Int) + 2 := by omega
 have e1 : ((p + 2 : Nat) : Int) + 1 = (p : Int) + 3 := by omega
 have e2 : ((p + 2 : Nat) : Int) + 2 = (p : Int) + 4 := by omega
 have e3 : ((p + 2 : Nat) : Int) + 3 = (p : Int) + 5 := by omega
 rw [e1, e2, e3, e0]
def unitI (s : ByteArray) (p : Nat) : Int := if p + 6 ≤ s.size ∧ bt s (p : Int) = 92 ∧ bt s ((p : Int) + 1) = 117 then (unitF s (p + 2)).getD (-1) else -1
theorem unit_f (s : ByteArray) (p : Nat) (hs : s.size ≤ 1048576) (hp : p ≤ s.size) (k : Nat) (hk : 8 ≤ k) : spec_l1Unit.f k s (p : Int) = some (unitI s p) := by
 obtain ⟨k, rfl⟩ : ∃ m, k = m + 8 := ⟨k - 8, by omega⟩
 unfold spec_l1Unit.f unitI
 have w6 : wrap64 ((p : Int) + 6) = (p : Int) + 6 := w64 (by omega) (by omega)
 have w1 : wrap64 ((p : Int) + 1) = (p : Int) + 1 := w64 (by omega) (by omega)
 rw [w6, w1]
 by_cases h6 : (p : Int) + 6 > (s.size : Int)
 ·rw [if_pos h6, if_neg (by omega)]
  simp only [spec_l1Unit.j0, if_true]
 rw [if_neg h6, if_pos (by omega), if_pos (by omega)]
 by_cases h92 : bt s (p : Int) = 92
 ·rw [if_pos h92, if_pos (by omega), if_pos (by omega)]
  by_cases h117 : bt s ((p : Int) + 1) = 117
  ·have e : (bt s ((p : Int) + 1) != 117) = false := by rw [h117]; rfl
   rw [e, if_pos ⟨by omega, h92, h117⟩, unitF_at]
   simp only [spec_l1Unit.j0]
   rw [if_neg (by simp)]
   have l2 := hexD_le (bt s ((p : Int) + 2))
   have l3 := hexD_le (bt s ((p : Int) + 3))
   have l4 := hexD_le (bt s ((p : Int) + 4))
   have l5 := hexD_le (bt s ((p : Int) + 5))
   have s2 := unit_step s p 2 0 (k + 5) hs (by omega) (by omega) (by omega) (by omega)
   rw [show ((2 : Nat) : Int) = 2 from rfl] at s2
   rw [s2]
   by_cases c2 : hexD (bt s ((p : Int) + 2)) < 0
   ·rw [if_pos c2, if_neg (by omega)]
    rfl
   rw [if_neg c2]
   have s3 := unit_step s p 3 (0 * 16 + hexD (bt s ((p : Int) + 2))) (k + 4) hs (by omega) (by omega) (by omega) (by omega)
   rw [show ((3 : Nat) : Int) = 2 + 1 from rfl] at s3
   rw [s3, show (p : Int) + (2 + 1) = (p : Int) + 3 by omega]
   by_cases c3 : hexD (bt s ((p : Int) + 3)) < 0
   ·rw [if_pos c3, if_neg (by omega)]
    rfl
   rw [if_neg c3]
   have s4 := unit_step s p 4 ((0 * 16 + hexD (bt s ((p : Int) + 2))) * 16 + hexD (bt s ((p : Int) + 3))) (k + 3) hs (by omega) (by omega) (by omega) (by omega)
   rw [show ((4 : Nat) : Int) = 2 + 1 + 1 from rfl] at s4
   rw [s4, show (p : Int) + (2 + 1 + 1) = (p : Int) + 4 by omega]
   by_cases c4 : hexD (bt s ((p : Int) + 4)) < 0
   ·rw [if_pos c4, if_neg (by omega)]
    rfl
   rw [if_neg c4]
   have s5 := unit_step s p 5 (((0 * 16 + hexD (bt s ((p : Int) + 2))) * 16 + hexD (bt s ((p : Int) + 3))) * 16 + hexD (bt s ((p : Int) + 4))) (k + 2) hs (by omega) (by omega) (by omega) (by omega)
   rw [show ((5 : Nat) : Int) = 2 + 1 + 1 + 1 from rfl] at s5
   rw [s5, show (p : Int) + (2 + 1 + 1 + 1) = (p : Int) + 5 by omega]
   by_cases c5 : hexD (bt s ((p : Int) + 5)) < 0
   ·rw [if_pos c5, if_neg (by omega)]
    rfl
   rw [if_neg c5, if_pos ⟨by omega, by omega, by omega, by omega, by omega⟩]
   simp only [spec_l1Unit.l0]
   rw [if_neg (by omega), Int.zero_mul, Int.zero_add]
   rfl
  ·have e : (bt s ((p : Int) + 1) != 117) = true := by simpa using h117
   rw [e, if_neg (fun h => h117 h.2.2)]
   simp only [spec_l1Unit.j0, if_true]
 ·rw [if_neg h92, if_neg (fun h => h92 h.2.1)]
  simp only [spec_l1Unit.j0, if_true]
theorem unitI_le (s : ByteArray) (p : Nat) : -1 ≤ unitI s p ∧ unitI s p ≤ 65535 := by
 unfold unitI
 split
 ·cases h : unitF s (p + 2) with
  | none => simp
  | some v => have := unitF_le h; simp; omega
 ·omega
def toR (p : Nat) : Option (List Int × Nat) → ByteArray × Int
 | some (b, q) => (strOfNums b, (q : Int) - p)
 | none => (⟨#[]⟩, 0)
def escU (s : ByteArray) (p : Nat) : Option (List Int × Nat) :=
 if unitI s p < 0 ∨ (56320 ≤ unitI s p ∧ unitI s p < 57344) then none
 else if unitI s p < 55296 ∨ 57344 ≤ unitI s p then some (u8L (unitI s p), p + 6)
 else if unitI s (p + 6) < 56320 ∨ 57344 ≤ unitI s (p + 6) then none
 else some (u8L (65536 + (unitI s p - 55296) * 1024 + (unitI s (p + 6) - 56320)), p + 12)
theorem j0_false (s : ByteArray) (p : Nat) (hs : s.size ≤ 1048576) (hp : p < s.size) (k : Nat) : spec_l1Piece.j0 (k + 12) s (p : Int) false = some (toR p (escU s p)) := by
 have hu := unit_f s p hs (by omega) (k + 11) (by omega)
 have hul := unitI_le s p
 have w6 : wrap64 ((p : Int) + 6) = (p : Int) + 6 := w64 (by omega) (by omega)
 simp only [spec_l1Piece.j0]
 rw [if_neg (by simp), hu, Option.bind_some]
 unfold escU
 by_cases c0 : unitI s p < 0
 ·rw [if_pos c0, if_pos (.inl c0)]
  simp only [spec_l1Piece.j1, if_true]
  rfl
 rw [if_neg c0]
 by_cases c1 : unitI s p ≥ 56320
 ·rw [if_pos c1]
  by_cases c2 : unitI s p < 57344
  ·rw [if_pos (.inr ⟨c1, c2⟩)]
   simp only [spec_l1Piece.j1]
   rw [if_pos (by simpa using c2)]
   rfl
  ·rw [if_neg (by omega), if_pos (by omega)]
   simp only [spec_l1Piece.j1]
   rw [if_neg (by simpa using c2), if_neg (by omega)]
   simp only [spec_l1Piece.j2]
   rw [if_pos (by simp; omega), utf8_f _ (by omega) (by omega), Option.bind_some]
   unfold toR
   simp only [Option.some.injEq, Prod.mk.injEq, true_and]
   omega
 ·rw [if_neg c1, if_neg (by omega)]
  simp only [spec_l1Piece.j1]
  rw [if_neg (by simp)]
  by_cases c3 : unitI s p < 55296
  ·rw [if_pos c3, if_pos (.inl c3)]
   simp only [spec_l1Piece.j2, if_true]
   rw [utf8_f _ (by omega) (by omega), Option.bind_some]
   unfold toR
   simp only [Option.some.injEq, Prod.mk.injEq, true_and]
   omega
  ·rw [if_neg c3, if_neg (by omega)]
   simp only [spec_l1Piece.j2]
   have hp6 : p + 6 ≤ s.size := by
    unfold unitI at c0
    by_cases h : p + 6 ≤ s.size
    ·exact h
    ·rw [if_neg (fun hh => h hh.1)] at c0
     omega
   have hu2 := unit_f s (p + 6) hs hp6 (k + 9) (by omega)
   have hul2 := unitI_le s (p + 6)
   rw [show ((p + 6 : Nat) : Int) = (p : Int) + 6 by omega] at hu2
   rw [if_neg (by simp; omega), w6, hu2, Option.bind_some]
   by_cases c4 : unitI s (p + 6) < 56320
   ·rw [if_pos c4, if_pos (.inl c4)]
    rfl
   rw [if_neg c4]
   by_cases c5 : unitI s (p + 6) ≥ 57344
   ·rw [if_pos c5, if_pos (.inr c5)]
    rfl
   rw [if_neg c5, if_neg (by omega)]
   have a1 : wrap64 (unitI s p - 55296) = unitI s p - 55296 := w64 (by omega) (by omega)
   have a2 : wrap64 ((unitI s p - 55296) * 1024) = (unitI s p - 55296) * 1024 := w64 (by omega) (by omega)
   have a3 : wrap64 (65536 + (unitI s p - 55296) * 1024) = 65536 + (unitI s p - 55296) * 1024 := w64 (by omega) (by omega)
   have a4 : wrap64 (65536 + (unitI s p - 55296) * 1024 + unitI s (p + 6)) = 65536 + (unitI s p - 55296) * 1024 + unitI s (p + 6) := w64 (by omega) (by omega)
   have a5 : wrap64 (65536 + (unitI s p - 55296) * 1024 + unitI s (p + 6) - 56320) = 65536 + (unitI s p - 55296) * 1024 + (unitI s (p + 6) - 56320) := by rw [w64 (by omega) (by omega)]; omega
   rw [a1, a2, a3, a4, a5, utf8_f _ (by omega) (by omega), Option.bind_some]
   unfold toR
   simp only [Option.some.injEq, Prod.mk.injEq, true_and]
   omega
theorem escF_u (s : ByteArray) (p : Nat) (h92 : bt s (p : Int) = 92) (hn : ¬ (p + 1 < s.size ∧ 0 ≤ simpF (bt s ((p : Int) + 1)))) : escF s (p + 1) = escU s p := by
 have e1 : ((p + 1 : Nat) : Int) = (p : Int) + 1 := by omega
 unfold escF escU
 by_cases hp : p + 1 < s.size
 ·rw [if_pos hp, e1, if_neg (fun h => hn ⟨hp, h⟩)]
  by_cases h117 : bt s ((p : Int) + 1) = 117
  ·rw [if_pos h117]
   have hI : unitI s p = (unitF s (p + 2)).getD (-1) := by
    unfold unitI
    by_cases h6 : p + 6 ≤ s.size
    ·rw [if_pos ⟨h6, h92, h117⟩]
    ·rw [if_neg (fun h => h6 h.1), unitF_at, if_neg (fun h => h6 h.1)]
     rfl
   rw [show p + 1 + 1 = p + 2 by omega]
   cases hu : unitF s (p + 2) with
   | none =>
    rw [hu] at hI
    simp only [Option.getD_none] at hI
    rw [if_pos (by omega)]
   | some v =>
    have hv := unitF_le hu
    rw [hu] at hI
    simp only [Option.getD_some] at hI
    rw [hI]
    simp only
    by_cases c1 : 56320 ≤ v ∧ v ≤ 57343
    ·rw [if_pos c1, if_pos (by omega)]
    rw [if_neg c1, if_neg (show ¬ (v < 0 ∨ (56320 ≤ v ∧ v < 57344)) by omega)]
    by_cases c2 : 55296 ≤ v ∧ v ≤ 56319
    ·rw [if_pos c2, if_neg (show ¬ (v < 55296 ∨ 57344 ≤ v) by omega)]
     have f0 : ((p + 6 : Nat) : Int) = (p : Int) + 1 + 5 := by omega
     have f1 : ((p + 6 : Nat) : Int) + 1 = (p : Int) + 1 + 6 := by omega
     have hI2 : unitI s (p + 6) = if p + 1 + 7 ≤ s.size ∧ bt s ((p : Int) + 1 + 5) = 92 ∧ bt s ((p : Int) + 1 + 6) = 117 then (unitF s (p + 1 + 7)).getD (-1) else -1 := by
      unfold unitI
      rw [f1, f0, show p + 6 + 2 = p + 1 + 7 by omega]
      by_cases h : p + 1 + 7 ≤ s.size ∧ bt s ((p : Int) + 1 + 5) = 92 ∧ bt s ((p : Int) + 1 + 6) = 117
      ·rw [if_pos h]
       by_cases h12 : p + 6 + 6 ≤ s.size
       ·rw [if_pos ⟨h12, h.2⟩]
       ·rw [if_neg (fun hh => h12 hh.1)]
        cases hx : unitF s (p + 1 + 7) with
        | none => rfl
        | some x => have := (unitF_le hx).2.2; omega
      ·rw [if_neg h, if_neg (fun hh => h ⟨by omega, hh.2⟩)]
     by_cases c3 : p + 1 + 7 ≤ s.size ∧ bt s ((p : Int) + 1 + 5) = 92 ∧ bt s ((p : Int) + 1 + 6) = 117
     ·rw [if_pos c3] at hI2 ⊢
      cases hx : unitF s (p + 1 + 7) with
      | none =>
       rw [hx] at hI2
       simp only [Option.getD_none] at hI2
       rw [if_pos (by omega)]
      | some x =>
       rw [hx] at hI2
       simp only [Option.getD_some] at hI2
       simp only
       rw [hI2]
       by_cases c4 : x < 56320 ∨ x > 57343
       ·rw [if_pos c4, if_pos (by omega)]
       ·rw [if_neg c4, if_neg (by omega)]
     ·rw [if_neg c3] at hI2 ⊢
      rw [if_pos (by omega)]
    ·rw [if_neg c2, if_pos (show v < 55296 ∨ 57344 ≤ v by omega)]
  ·rw [if_neg h117]
   have hI : unitI s p = -1 := by unfold unitI; rw [if_neg (fun h => h117 h.2.2)]
   rw [if_pos (by omega)]
 ·rw [if_neg hp]
  have hI : unitI s p = -1 := by unfold unitI; rw [if_neg (fun h => hp (by omega))]
  rw [if_pos (by omega)]
theorem ext_empty (s : ByteArray) (p : Nat) : s.extract p p = ⟨#[]⟩ := by
 apply ByteArray.ext
 simp
theorem ext_bts (s : ByteArray) (p n : Nat) (h : p + n ≤ s.size) : s.extract p (p + n) = strOfNums (btsL s (p : Int) n) := by
 apply ByteArray.ext
 apply Array.toList_inj.1
 rw [strOfNums_data]
 rw [← cut_list s n p h]
 simp
theorem piece_f (s : ByteArray) (p : Nat) (hs : s.size ≤ 1048576) (hp : p < s.size) (k : Nat) (hk : 20 ≤ k) : spec_l1Piece.f k s (p : Int) = some (toR p (pieceF s p)) := by
 obtain ⟨k, rfl⟩ : ∃ m, k = m + 12 := ⟨k - 12, by omega⟩
 have hb := bt_range s (p : Int)
 have w1 : wrap64 ((p : Int) + 1) = (p : Int) + 1 := w64 (by omega) (by omega)
 unfold spec_l1Piece.f pieceF
 rw [if_pos (by omega), if_pos (by omega)]
 by_cases h128 : bt s (p : Int) ≥ 128
 ·rw [if_pos h128, rl_dec s p hs hp _ (by omega), Option.bind_some, if_neg (show ¬ bt s (p : Int) = 92 by omega), if_neg (show ¬ (bt s (p : Int) < 32 ∨ bt s (p : Int) = 34) by omega), if_neg (show ¬ bt s (p : Int) < 128 by omega)]
  have hd := dec_pos s p hp
  by_cases hbad : badR s p = true
  ·rw [if_pos hbad, if_pos hbad, show wrap64 ((p : Int) + 0) = (p : Int) by rw [Int.add_zero]; exact w64 (by omega) (by omega), if_pos (by omega), if_pos (by omega)]
   simp only [Int.toNat_natCast, ext_empty]
   rfl
  ·rw [if_neg hbad, if_neg hbad]
   generalize (Utf8.decode s p).2 = n at hd
   have w2 : wrap64 ((p : Int) + (n : Int)) = (p : Int) + (n : Int) := w64 (by omega) (by omega)
   rw [w2, if_pos (by omega), if_pos (by omega), show ((p : Int) + (n : Int)).toNat = p + n by omega, Int.toNat_natCast, ext_bts s p n hd.2.1]
   unfold toR
   simp only [Option.some.injEq, Prod.mk.injEq, true_and]
   omega
 rw [if_neg h128]
 by_cases h92 : bt s (p : Int) = 92
 ·rw [if_pos h92, if_pos h92, w1]
  by_cases h1 : (p : Int) + 1 < (s.size : Int)
  ·have hb1 := bt_range s ((p : Int) + 1)
   rw [if_pos h1, if_pos (by omega), simple_f _ hb1.1 hb1.2 _ (by omega), Option.bind_some]
   by_cases hsm : 0 ≤ simpF (bt s ((p : Int) + 1))
   ·have hle := simpF_le (bt s ((p : Int) + 1))
    rw [show decide (simpF (bt s ((p : Int) + 1)) ≥ 0) = true from decide_eq_true hsm]
    simp only [spec_l1Piece.j0, if_true]
    rw [w1, if_pos (by omega), if_pos h1, simple_f _ hb1.1 hb1.2 _ (by omega), Option.bind_some, show simpF (bt s ((p : Int) + 1)) % 256 = simpF (bt s ((p : Int) + 1)) by omega]
    unfold escF
    rw [if_pos (by omega), show ((p + 1 : Nat) : Int) = (p : Int) + 1 by omega, if_pos hsm]
    unfold toR
    simp only [Option.some.injEq, Prod.mk.injEq, true_and]
    omega
   ·rw [show decide (simpF (bt s ((p : Int) + 1)) ≥ 0) = false from decide_eq_false hsm, j0_false s p hs hp k, escF_u s p h92 (fun h => hsm h.2)]
  ·rw [if_neg h1, j0_false s p hs hp k, escF_u s p h92 (fun h => h1 (by omega))]
 ·rw [if_neg h92, if_neg h92]
  by_cases h32 : bt s (p : Int) < 32
  ·rw [if_pos h32, if_pos (.inl h32)]
   rfl
  rw [if_neg h32]
  by_cases h34 : bt s (p : Int) = 34
  ·rw [if_pos h34, if_pos (.inr h34)]
   rfl
  rw [if_neg h34, if_neg (show ¬ (bt s (p : Int) < 32 ∨ bt s (p : Int) = 34) by omega), if_pos (show bt s (p : Int) < 128 by omega), w1, if_pos (by omega), if_pos (by omega), show ((p : Int) + 1).toNat = p + 1 by omega, Int.toNat_natCast, ext_bts s p 1 (by omega)]
  unfold toR
  simp only [Option.some.injEq, Prod.mk.injEq]
  exact ⟨rfl, by omega⟩
theorem simpF_range (c : Int) (h : 0 ≤ simpF c) : 0 ≤ simpF c ∧ simpF c ≤ 255 := by have := simpF_le c; omega
theorem escF_range {s : ByteArray} {p q : Nat} {b : List Int} (h : escF s p = some (b, q)) : ∀ x ∈ b, 0 ≤ x ∧ x ≤ 255 := by
 unfold escF at h
 split at h
 ·split at h
  ·injection h with h
   injection h with h1 h2
   subst h1
   intro x hx
   rw [List.mem_singleton] at hx
   subst hx
   exact simpF_range _ (by assumption)
  ·split at h
   ·split at h
    ·cases h
    ·rename_i v hv
     have hle := unitF_le hv
     split at h
     ·cases h
     ·split at h
      ·split at h
       ·split at h
        ·cases h
        ·rename_i u hu
         have hlu := unitF_le hu
         split at h
         ·cases h
         ·injection h with h
          injection h with h1 h2
          subst h1
          exact u8L_range _ (by omega) (by omega)
       ·cases h
      ·injection h with h
       injection h with h1 h2
       subst h1
       exact u8L_range _ (by omega) (by omega)
   ·cases h
 ·cases h
theorem pieceF_range {s : ByteArray} {p q : Nat} {b : List Int} (h : pieceF s p = some (b, q)) : ∀ x ∈ b, 0 ≤ x ∧ x ≤ 255 := by
 unfold pieceF at h
 split at h
 ·exact escF_range h
 ·split at h
  ·cases h
  ·split at h
   ·injection h with h
    injection h with h1 h2
    subst h1
    intro x hx
    rw [List.mem_singleton] at hx
    subst hx
    exact bt_range s _
   ·split at h
    ·cases h
    ·injection h with h
     injection h with h1 h2
     subst h1
     exact btsL_range s _ _
end Go.Proofs.YtndagnkhjlgjgaaGreatDoor.Str
namespace Go.Proofs.YtndagnkhjlgjgaaGreatDoor.Read
open Go Go.RowKit PJs YtndagnkhjlgjgaaGreatDoorW.PrintWords Str Tchs Tree
set_option linter.unusedVariables false
set_option linter.unusedSimpArgs false
theorem at_f (s : ByteArray) (p : Nat) (c : Int) : spec_l1At.f s (p : Int) c = some (decide (p < s.size) && (bt s (p : Int) == c)) := by
 unfold spec_l1At.f
 by_cases h : p < s.size
 ·rw [if_pos (by omega), if_pos (by omega)]
  simp [h]
 ·rw [if_neg (by omega)]
  simp [h]
theorem own_below {w w1 : World} {B e size n : Nat} {v : Value} {xs : List Value} (h : w.ownsRow B e size v n xs) (hb : Below w.heap.size w w1) : w1.ownsRow B e size v n xs := own_tch h (Tch.of_below hb (fun _ => False)) (fun _ _ h => h)
theorem nums_news (b : List Int) (hb : ∀ x ∈ b, 0 ≤ x ∧ x ≤ 255) (w : World) (e : TypeId) : ∀ (j : Nat) (u : Value), (nums .u8 b)[j]? = some u → (Lib.bytesWorld w e (strOfNums b)).cell? ((⟨w.heap.size, 0, none⟩ : Addr).add j) = some u := by
 intro j u hu
 have hj : j < b.length := by
  have := (List.getElem?_eq_some_iff.1 hu).1
  simpa [nums] using this
 have hs : (strOfNums b).size = b.length := by
  show (strOfNums b).data.size = _
  rw [← Array.length_toList, strOfNums_data, List.length_map]
 have ha : (⟨w.heap.size, 0, none⟩ : Addr).add j = ⟨w.heap.size, j, none⟩ := by unfold Addr.add; split <;> simp_all
 rw [ha, Lib.bytesWorld_cell w e (strOfNums b) j (by omega), ← hu, strOfNums_data]
 have hx := hb b[j] (List.getElem_mem hj)
 simp only [nums, List.getD_eq_getElem?_getD, List.getElem?_map, List.getElem?_eq_getElem hj, Option.map_some, Option.getD_some]
 rw [UInt8.toNat_ofNat']
 congr 2
 omega
set_option maxRecDepth 100000 in
set_option maxHeartbeats 8000000 in
theorem l1String (s : ByteArray) (p : Nat) (w : World) (hs : s.size ≤ 1048576) (hp : p ≤ 2097152) :
  Calls Tryz.prog 92 #[.string s, .int .i64 (p : Int)] w fun e w' => e = .returned (.tuple #[.string (strOfNums (strXF s p).1), .int .i64 ((strXF s p).2.1 : Int), .bool (strXF s p).2.2]) ∧ Below w.heap.size w w' := by
 go_enter Tryz.func92, Tryz.ntmps92
 go_wp2_with fail
 refine (spec_l1At.calls s (p : Int) 34 _ _ (at_f s p 34)).mono ?_
 rintro e w1 ⟨rfl, ⟨m1, rfl⟩⟩
 by_cases h : p < s.size ∧ bt s (p : Int) = 34
 ·have hd : (decide (p < s.size) && (bt s (p : Int) == 34)) = true := by simp [h.1, h.2]
  have HX := Lib.hid (show strXF s p = strX s (s.size - p) (p + 1) [] by unfold strXF; rw [if_pos h])
  rw [hd]
  go_wp2_with fail
  obtain ⟨B, hB⟩ : ∃ B, B = w.heap.size := ⟨_, rfl⟩
  have HO := Lib.hid (show ((w.drewN m1).alloc (.cells #[] 5)).ownsRow B 5 1 (.slice (some ⟨w.heap.size, 0, none⟩) 0 0) ([] : List Int).length (nums .u8 []) from ⟨rfl, .inr ⟨w.heap.size, 0, #[], rfl, by omega, heap_alloc_new (w.drewN m1) _, Nat.le_refl _, by decide, rfl, rfl⟩⟩)
  have HBL := Lib.hid (show Below w.heap.size w ((w.drewN m1).alloc (.cells #[] 5)) from below_alloc (pw_below_drewN (Below.refl _ _) m1) _)
  generalize ((w.drewN m1).alloc (.cells #[] 5)) = wL at HO HBL ⊢
  have hBz : B ≤ wL.heap.size := by rw [hB]; exact HBL.out.size
  have HBZ := Lib.hid hBz
  have HBW := Lib.hid hB
  clear hd hBz
  rw [← hB] at HO ⊢
  go_loopw [7, 1] (fun v7 v1 wr => ∃ (acc : List Int) (q d : Nat), v1 = .int .i64 (q : Int) ∧ Hid (wr.ownsRow B 5 1 v7 acc.length (nums .u8 acc)) ∧ Hid (p < q ∧ q ≤ s.size ∧ s.size < q + d ∧ acc.length ≤ 4 * q) ∧ Hid (strXF s p = strX s d q acc) ∧ Hid (Below w.heap.size w wr) ∧ Hid (B ≤ wr.heap.size)) (fun _ v1 _ => s.size - (intOf v1).toNat)
  case atStart => exact ⟨[], p + 1, s.size - p, by simp, HO, Lib.hid ⟨by omega, by omega, by omega, by simp⟩, HX, HBL, HBZ⟩
  case round =>
   clear HO HX HBL HBZ
   obtain ⟨acc, q, d, rfl, HO, HI, HX, HBL, HBZ⟩ := hrel
   obtain ⟨A, n, rfl⟩ := own_slice HO.out
   obtain ⟨hpq, hq, hdd, hacc⟩ := HI.out
   have hcv := own_string (P := Tryz.prog) Tryz.underlying44 Tryz.underlying5 Tryz.underlying9 HO.out
   cases d with
   | zero => omega
   | succ d =>
   rw [strX] at HX
   by_cases hqs : q < s.size
   ·rw [if_pos hqs] at HX
    have d1 : decide ((q : Int) < (s.size : Int)) = true := decide_eq_true (by omega)
    have i0 : (0 : Int) ≤ (q : Int) := by omega
    have i1 : (q : Int) < (s.size : Int) := by omega
    have hbt : bt s (q : Int) = ((s[q]'hqs).toNat : Int) := by simp [bt, hqs]
    by_cases c34 : bt s (q : Int) = 34
    ·rw [if_pos c34] at HX
     have d2 : (((s[q]'hqs).toNat : Int) != 34) = false := by rw [← hbt, c34]; rfl
     go_wp2_with fail
     refine bodyPost_ret (v := .tuple #[.string (strOfNums acc), .int .i64 ((q : Int) + 1), .bool true]) (by simp [results, Tryz.results92, go_sem]) rfl ?_
     have hX : strXF s p = (acc, q + 1, true) := HX.out
     rw [hX]
     exact ⟨rfl, HBL.out⟩
    ·rw [if_neg c34] at HX
     have d2 : (((s[q]'hqs).toNat : Int) != 34) = true := by rw [← hbt]; simpa using c34
     go_wp2_with fail
     refine (spec_l1Piece.calls 20 s (q : Int) _ _ _ (piece_f s q hs hqs 20 (Nat.le_refl _))).mono ?_
     rintro e w2 ⟨rfl, hb2⟩
     have HO2 := Lib.hid (own_below HO.out hb2)
     have HBL2 := Lib.hid (below_then HBL.out HBL.out.size hb2)
     have hz2 : B ≤ w2.heap.size := Nat.le_trans HBZ.out hb2.size
     clear hb2 hcv
     cases hx : pieceF s q with
     | none =>
      rw [hx] at HX
      have e2 : (toR q (none : Option (List Int × Nat))) = (⟨#[]⟩, 0) := rfl
      simp only [e2]
      go_wp2_with fail
      refine bodyPost_ret (v := .tuple #[.string ⟨#[]⟩, .int .i64 (q : Int), .bool false]) (by simp [results, Tryz.results92, go_sem]) rfl ?_
      have hX : strXF s p = ([], q, false) := HX.out
      rw [hX]
      exact ⟨rfl, HBL2.out⟩
     | some bq =>
      obtain ⟨b, q2⟩ := bq
      have hle := pieceF_le hqs hx
      have hrg := pieceF_range hx
      rw [hx] at HX
      have e2 : (toR q (some (b, q2))) = (strOfNums b, (q2 : Int) - (q : Int)) := rfl
      simp only [e2]
      have hne : ((q2 : Int) - (q : Int) == 0) = false := by simp; omega
      have hcb := fun W => Lib.run_convert_string_bytes (P := Tryz.prog) W 9 44 5 (strOfNums b) (u := .string) Tryz.underlying9 Tryz.underlying44 Tryz.underlying5
      have hsz : (strOfNums b).size = b.length := by
       show (strOfNums b).data.size = _
       rw [← Array.length_toList, strOfNums_data, List.length_map]
      have HNW := Lib.hid (nums_news b hrg w2 5)
      have HBB := Lib.hid (Lib.bytesWorld_below w2 5 (strOfNums b))
      obtain ⟨i0', hi, hzz⟩ := Option.map_eq_some_iff.1 info5
      simp only [Prod.mk.injEq] at hzz
      obtain ⟨hz0, hz1, hz2'⟩ := hzz
      clear hrg
      go_wp2_with (first | (at_builtin; refine wpList_append_own_at (Lib.bytesWorld w2 5 (strOfNums b)) rfl (.tmp 37) (.tmp 39) 44 rfl B 5 i0' (.int .u8 0) 1 1 Tryz.underlying44 hi hz0 hz1 hz2' rfl (by decide) (.slice A acc.length n) acc.length (nums .u8 acc) rfl (own_below HO2.out HBB.out) ⟨w2.heap.size, 0, none⟩ b.length _ (nums .u8 b) rfl (by simp [nums]) HNW.out (fun u hu => by obtain ⟨x, _, rfl⟩ := List.mem_map.1 hu; rfl) (by simp only [maxLen]; omega) (by omega) (Nat.le_trans hz2 HBB.out.size) ?_; intro v4 w4 hown4 hg4 _ _))
      have hbz : w.heap.size ≤ (Lib.bytesWorld w2 5 (strOfNums b)).heap.size := Nat.le_trans HBL2.out.size HBB.out.size
      have HBL4 := Lib.hid (Below.grown (below_then HBL2.out HBL2.out.size HBB.out) hg4 hbz (fun k hk => by have h1 := own_base HO2.out k hk; have h2 := HBW.out; omega))
      have HO4 := Lib.hid (show w4.ownsRow B 5 1 v4 (acc ++ b).length (nums .u8 (acc ++ b)) by rw [List.length_append]; simpa [nums] using hown4)
      have HZ4 := Lib.hid (Nat.le_trans (Nat.le_trans hz2 HBB.out.size) hg4.size)
      clear hown4 hg4 hbz
      have hX : strXF s p = strX s d q2 (acc ++ b) := HX.out
      rw [HBW.out] at HO4 HZ4
      refine ⟨⟨.int .i64 ((q : Int) + ((q2 : Int) - (q : Int))), _, _, _, v4, ⟨acc ++ b, q2, by congr 1; omega, HO4, d, Lib.hid ⟨by omega, hle.2.1, by omega, by rw [List.length_append]; omega⟩, Lib.hid hX, HBL4, HZ4⟩, rfl, rfl, rfl, rfl, rfl⟩, ?_⟩
      simp [intOf]
      omega
   ·rw [if_neg hqs] at HX
    have d1 : decide ((q : Int) < (s.size : Int)) = false := decide_eq_false (by omega)
    go_wp2_with fail
    refine bodyPost_ret (v := .tuple #[.string (strOfNums acc), .int .i64 ((q : Int) + 1), .bool false]) (by simp [results, Tryz.results92, go_sem]) rfl ?_
    have hX : strXF s p = (acc, q + 1, false) := HX.out
    rw [hX]
    exact ⟨rfl, HBL.out⟩
 ·have hd : (decide (p < s.size) && (bt s (p : Int) == 34)) = false := by
   by_cases h1 : p < s.size
   ·simp only [h1, decide_true, Bool.true_and]
    simpa using fun h2 => h ⟨h1, h2⟩
   ·simp [h1]
  have HX := Lib.hid (show strXF s p = ([], p, false) by unfold strXF; rw [if_neg h])
  rw [hd]
  go_wp2_with fail
  refine bodyPost_ret (v := .tuple #[.string ⟨#[]⟩, .int .i64 (p : Int), .bool false]) (by simp [results, Tryz.results92, go_sem]) rfl ?_
  rw [HX.out]
  exact ⟨rfl, pw_below_drewN (Below.refl _ _) m1⟩
end Go.Proofs.YtndagnkhjlgjgaaGreatDoor.Read
namespace Go.Proofs.YtndagnkhjlgjgaaGreatDoor.Tree
open Go Go.RowKit YtndagnkhjlgjgaaGreatDoorW.PrintWords Str PJs
set_option linter.unusedVariables false
set_option linter.unusedSimpArgs false
theorem q_step (s : ByteArray) (hs : s.size ≤ 100000000) (i : Nat) (hi : i < s.size) (acc : List Int) (hl : acc.length ≤ 1000000000) (k : Nat) :
  spec_l1Quoted.l0 (k + 2) s HEX acc (i : Int) = spec_l1Quoted.l0 k s HEX (acc ++ escI (bt s (i : Int))) ((i + 1 : Nat) : Int) := by
 have hc := bt_range s (i : Int)
 have hw : wrap64 ((i : Int) + 1) = ((i + 1 : Nat) : Int) := by rw [w64 (by omega) (by omega)]; omega
 rw [spec_l1Quoted.l0, if_pos (by omega), if_pos (by omega)]
 generalize bt s (i : Int) = c at hc ⊢
 have e1 : ∀ b : Bool, b = (decide (c = 34) || decide (c = 92)) → spec_l1Quoted.j1 (k + 1) s HEX acc (i : Int) c b = spec_l1Quoted.l0 k s HEX (acc ++ escI c) ((i + 1 : Nat) : Int) := by
  intro b hb
  rw [spec_l1Quoted.j1, hw]
  unfold escI
  by_cases h1 : c = 34
  ·rw [if_pos (by rw [hb]; simp [h1]), if_pos h1, h1, Option.bind_some, if_pos (by simp; omega)]
  by_cases h2 : c = 92
  ·rw [if_pos (by rw [hb]; simp [h2]), if_neg h1, if_pos h2, h2, Option.bind_some, if_pos (by simp; omega)]
  rw [if_neg (by rw [hb]; simp [h1, h2]), if_neg h1, if_neg h2]
  by_cases h3 : c = 8
  ·rw [if_pos h3, if_pos h3, Option.bind_some, if_pos (by simp; omega)]
  by_cases h4 : c = 9
  ·rw [if_neg h3, if_pos h4, if_neg h3, if_pos h4, Option.bind_some, if_pos (by simp; omega)]
  by_cases h5 : c = 10
  ·rw [if_neg h3, if_neg h4, if_pos h5, if_neg h3, if_neg h4, if_pos h5, Option.bind_some, if_pos (by simp; omega)]
  by_cases h6 : c = 12
  ·rw [if_neg h3, if_neg h4, if_neg h5, if_pos h6, if_neg h3, if_neg h4, if_neg h5, if_pos h6, Option.bind_some, if_pos (by simp; omega)]
  by_cases h7 : c = 13
  ·rw [if_neg h3, if_neg h4, if_neg h5, if_neg h6, if_pos h7, if_neg h3, if_neg h4, if_neg h5, if_neg h6, if_pos h7, Option.bind_some, if_pos (by simp; omega)]
  rw [if_neg h3, if_neg h4, if_neg h5, if_neg h6, if_neg h7, if_neg h3, if_neg h4, if_neg h5, if_neg h6, if_neg h7]
  by_cases h8 : c < 32
  ·have e3 : (HEX.size : Int) = 16 := rfl
   have ed : Int.tdiv c 16 = c / 16 := Int.tdiv_eq_ediv_of_nonneg hc.1
   have em : Int.tmod c 16 = c % 16 := Int.tmod_eq_emod_of_nonneg hc.1
   rw [if_pos h8, if_pos h8, ed, em, e3, if_pos (by omega), if_pos (by omega), if_pos (by omega), if_pos (by omega), Option.bind_some, if_pos (by simp; omega), show c / 16 % 256 = c / 16 by omega]
  ·rw [if_neg h8, if_neg h8, if_pos (by omega)]
 by_cases h1 : c = 34
 ·rw [if_pos h1]
  exact e1 true (by simp [h1])
 ·rw [if_neg h1]
  refine e1 _ ?_
  rw [Bool.eq_iff_iff]
  simp [h1]
theorem byt_get (s : ByteArray) (i : Nat) (hi : i < s.size) : (byt s).drop i = bt s (i : Int) :: (byt s).drop (i + 1) := by
 have h : i < (byt s).length := by rw [byt_len]; exact hi
 rw [List.drop_eq_getElem_cons h]
 congr 1
 simp [byt, bt, hi]
 rfl
theorem q_loop (s : ByteArray) (hs : s.size ≤ 100000000) : ∀ (n i : Nat) (acc : List Int) (k : Nat), s.size - i = n → i ≤ s.size → acc.length + 6 * n ≤ 1000000000 → 2 * n + 1 ≤ k →
  spec_l1Quoted.l0 k s HEX acc (i : Int) = some (strOfNums (acc ++ (((byt s).drop i).flatMap escI ++ [34]))) := by
 intro n
 induction n with
 | zero =>
  intro i acc k hn hi hl hk
  obtain ⟨k, rfl⟩ : ∃ j, k = j + 1 := ⟨k - 1, by omega⟩
  rw [spec_l1Quoted.l0, if_neg (by omega), if_pos (by omega), List.drop_of_length_le (by rw [byt_len]; omega)]
  rfl
 | succ n ih =>
  intro i acc k hn hi hl hk
  obtain ⟨k, rfl⟩ : ∃ j, k = j + 2 := ⟨k - 2, by omega⟩
  rw [q_step s hs i (by omega) acc (by omega) k]
  have := escI_len (bt s (i : Int))
  rw [ih (i + 1) (acc ++ escI (bt s (i : Int))) k (by omega) (by omega) (by rw [List.length_append]; omega) (by omega), byt_get s i (by omega), List.flatMap_cons]
  simp only [List.append_assoc]
theorem quoted_f (s : ByteArray) (hs : s.size ≤ 100000000) (k : Nat) (hk : 2 * s.size + 1 ≤ k) : spec_l1Quoted.f k s = some (strOfNums (quo s)) := by
 unfold spec_l1Quoted.f
 rw [show (0 : Int) = ((0 : Nat) : Int) from rfl, q_loop s hs s.size 0 [34] k (by omega) (by omega) (by simp; omega) (by omega)]
 rw [List.drop_zero]
 rfl
end Go.Proofs.YtndagnkhjlgjgaaGreatDoor.Tree
