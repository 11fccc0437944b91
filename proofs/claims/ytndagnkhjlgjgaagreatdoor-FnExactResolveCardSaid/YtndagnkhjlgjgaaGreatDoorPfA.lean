-- Printed
import Derived.Test.YtndagnkhjlgjgaaGreatDoorPJtx4
import Derived.Test.YtndagnkhjlgjgaaGreatDoorPJtx5
import Derived.Test.YtndagnkhjlgjgaaGreatDoorPJtx10
import Derived.Test.YtndagnkhjlgjgaaGreatDoorPJtx11
namespace Go.Proofs.YtndagnkhjlgjgaaGreatDoor.PJt
open Go.RowKit Own Xtra YtndagnkhjlgjgaaGreatDoorW.PrintWords YtndagnkhjlgjgaaGreatDoorW.PrintLast YtndagnkhjlgjgaaGreatDoorW.PrintMore
attribute [local go_sem] max2_int min2_int max_two min_two max_three min_three max_four min_four
set_option linter.unusedVariables false
set_option linter.unusedSimpArgs false
end Go.Proofs.YtndagnkhjlgjgaaGreatDoor.PJt
namespace Go.Proofs.YtndagnkhjlgjgaaGreatDoor.Pf
open Go Go.RowKit YtndagnkhjlgjgaaGreatDoorW.PrintWords Str Tree Read PJt Own
set_option linter.unusedVariables false
set_option linter.unusedSimpArgs false
theorem at_f (s : ByteArray) (p : Nat) (c : Int) : spec_l1At.f s (p : Int) c = some (isAt s p c) := by
 unfold spec_l1At.f PJs.spec_l1At.f isAt
 by_cases h : p < s.size
 ·rw [if_pos (by omega), if_pos (by omega)]
  congr 1
  rw [Bool.eq_iff_iff]
  simp [h]
 ·rw [if_neg (by omega)]
  simp [h]
theorem skip_l (s : ByteArray) (hs : s.size ≤ 100000000) : ∀ (n p k : Nat), s.size - p = n → n + 1 ≤ k → spec_l1Skip.l0 k s (p : Int) = some ((skip s p : Nat) : Int) := by
 intro n
 induction n with
 | zero =>
  intro p k hn hk
  obtain ⟨k, rfl⟩ : ∃ j, k = j + 1 := ⟨k - 1, by omega⟩
  rw [spec_l1Skip.l0, if_neg (by omega)]
  unfold skip
  rw [runF_at, if_neg (by omega)]
 | succ n ih =>
  intro p k hn hk
  obtain ⟨k, rfl⟩ : ∃ j, k = j + 1 := ⟨k - 1, by omega⟩
  have hw : wrap64 ((p : Int) + 1) = ((p + 1 : Nat) : Int) := by rw [w64 (by omega) (by omega)]; omega
  have ih := ih (p + 1) k (by omega) (by omega)
  have e : skip s p = if isB (bt s (p : Int)) = true then skip s (p + 1) else p := by
   conv => lhs; unfold skip; rw [runF_at, if_pos (by omega)]
   rfl
  rw [spec_l1Skip.l0, if_pos (by omega), if_pos (by omega), hw, e]
  generalize bt s (p : Int) = c
  unfold isB
  by_cases h1 : c = 32
  ·rw [if_pos h1, ih, if_pos (by simp [h1])]
  by_cases h2 : c = 9
  ·rw [if_neg h1, if_pos h2, ih, if_pos (by simp [h2])]
  by_cases h3 : c = 10
  ·rw [if_neg h1, if_neg h2, if_pos h3, ih, if_pos (by simp [h3])]
  by_cases h4 : c = 13
  ·rw [if_neg h1, if_neg h2, if_neg h3, if_pos h4, ih, if_pos (by simp [h4])]
  rw [if_neg h1, if_neg h2, if_neg h3, if_neg h4, if_neg (by simp [h1, h2, h3, h4])]
theorem skip_f (s : ByteArray) (hs : s.size ≤ 100000000) (p k : Nat) (hk : s.size + 1 ≤ k) : spec_l1Skip.f k s (p : Int) = some ((skip s p : Nat) : Int) := skip_l s hs _ p k rfl (by omega)
theorem bytes_eq {x y : ByteArray} (h : x.toList = y.toList) : x = y := by
 rw [Lib.toList_data, Lib.toList_data] at h
 exact ByteArray.ext (Array.toList_inj.1 h)
theorem word_f (s : ByteArray) (hs : s.size ≤ 100000000) (p : Nat) (hp : p ≤ 1000000000) (x : ByteArray) (hx : x.size ≤ 1000) : spec_l1Word.f s (p : Int) x = some (isW s p x) := by
 have hw : wrap64 ((p : Int) + (x.size : Int)) = ((p + x.size : Nat) : Int) := by rw [w64 (by omega) (by omega)]; omega
 unfold spec_l1Word.f isW
 rw [hw]
 by_cases h : p + x.size ≤ s.size
 ·rw [if_pos (by omega), if_pos (by omega), if_pos (by omega)]
  congr 1
  rw [Int.toNat_natCast, Int.toNat_natCast, Bool.eq_iff_iff]
  simp only [beq_iff_eq, Bool.and_eq_true, decide_eq_true_eq, h, true_and]
  constructor
  ·intro e
   exact bytes_eq e
  ·intro e; rw [e]
 ·rw [if_neg (by omega)]
  simp [h]
theorem dig_f (c : Int) : spec_l1Digit.f c = some (isD c) := by
 unfold spec_l1Digit.f PJs.spec_l1Digit.f isD
 by_cases h : c ≥ 48
 ·rw [if_pos h]; simp [h]
 ·rw [if_neg h]; simp; omega
section
variable [Inhabited Rec]
def numEnd (s : ByteArray) (f q : Nat) : ByteArray × Int × Bool × Bool × Bool := (fixN (s.extract f q), (q : Int), true, tooB (fixN (s.extract f q)), false)
def noGot : ByteArray × Int × Bool × Bool × Bool := (⟨#[]⟩, 0, false, false, false)
def numR (s : ByteArray) (p : Nat) : ByteArray × Int × Bool × Bool × Bool := match numF s p with
 | none => noGot
 | some q => numEnd s p q
theorem num_end (HB : ∀ x : ByteArray, 0 < x.size → spec_l1TooBig.f x = some (tooB x)) (s : ByteArray) (f q : Nat) (h1 : f < q) (h2 : q ≤ s.size) :
  (if 0 ≤ (f : Int) then (if (f : Int) ≤ (q : Int) then (if (q : Int) ≤ (s.size : Int) then (if (s.extract (f : Int).toNat (q : Int).toNat).toList = ([45, 48] : List UInt8) then ((spec_l1TooBig.f (⟨#[48]⟩ : ByteArray)).bind fun t => (some ((⟨#[48]⟩ : ByteArray), (q : Int), true, t, false))) else ((spec_l1TooBig.f (s.extract (f : Int).toNat (q : Int).toNat)).bind fun t => (some (s.extract (f : Int).toNat (q : Int).toNat, (q : Int), true, t, false)))) else none) else none) else none) = some (numEnd s f q) := by
 rw [if_pos (by omega), if_pos (by omega), if_pos (by omega), Int.toNat_natCast, Int.toNat_natCast]
 unfold numEnd fixN
 by_cases h : (s.extract f q).toList = [45, 48]
 ·have h' := h
  rw [Lib.toList_data] at h'
  rw [if_pos h, if_pos h', HB _ (by decide)]
  rfl
 ·have h' : ¬ (s.extract f q).data.toList = [45, 48] := by rw [← Lib.toList_data]; exact h
  rw [if_neg h, if_neg h', HB _ (by rw [ByteArray.size_extract]; omega)]
  rfl
theorem num_l0 (HB : ∀ x : ByteArray, 0 < x.size → spec_l1TooBig.f x = some (tooB x)) (s : ByteArray) (hs : s.size ≤ 100000000) (f : Nat) : ∀ (n q k : Nat), s.size - q = n → f < q → q ≤ s.size → n + 1 ≤ k → spec_l1Number.l0 k s (q : Int) (f : Int) = some (numEnd s f (digs s q)) := by
 intro n
 induction n with
 | zero =>
  intro q k hn hf hq hk
  obtain ⟨k, rfl⟩ : ∃ j, k = j + 1 := ⟨k - 1, by omega⟩
  rw [spec_l1Number.l0, if_neg (by omega), num_end HB s f q hf hq]
  unfold digs
  rw [runF_at, if_neg (by omega)]
 | succ n ih =>
  intro q k hn hf hq hk
  obtain ⟨k, rfl⟩ : ∃ j, k = j + 1 := ⟨k - 1, by omega⟩
  have hw : wrap64 ((q : Int) + 1) = ((q + 1 : Nat) : Int) := by rw [w64 (by omega) (by omega)]; omega
  have ih := ih (q + 1) k (by omega) (by omega) (by omega) (by omega)
  rw [spec_l1Number.l0, if_pos (by omega), if_pos (by omega), dig_f, Option.bind_some, hw]
  have e : digs s q = if isD (bt s (q : Int)) = true then digs s (q + 1) else q := by
   conv => lhs; unfold digs; rw [runF_at, if_pos (by omega)]
   rfl
  rw [e]
  by_cases h : isD (bt s (q : Int)) = true
  ·rw [if_pos h, if_pos h, ih]
  ·rw [if_neg h, if_neg h, num_end HB s f q hf hq]
theorem num_j0 (HB : ∀ x : ByteArray, 0 < x.size → spec_l1TooBig.f x = some (tooB x)) (s : ByteArray) (hs : s.size ≤ 100000000) (f q k : Nat) (hf : f ≤ q) (hk : s.size + 5 ≤ k) :
  spec_l1Number.j0 k s (q : Int) (f : Int) = some (if q < s.size ∧ isD (bt s (q : Int)) = true then numEnd s f (if bt s (q : Int) = 48 then q + 1 else digs s (q + 1)) else noGot) := by
 obtain ⟨k, rfl⟩ : ∃ j, k = j + 2 := ⟨k - 2, by omega⟩
 rw [spec_l1Number.j0]
 by_cases hq : q < s.size
 ·have hw : wrap64 ((q : Int) + 1) = ((q + 1 : Nat) : Int) := by rw [w64 (by omega) (by omega)]; omega
  rw [if_neg (by omega), if_pos (by omega), if_pos (by omega), dig_f, Option.bind_some, spec_l1Number.j1]
  by_cases h : isD (bt s (q : Int)) = true
  ·rw [show (if q < s.size ∧ isD (bt s (q : Int)) = true then numEnd s f (if bt s (q : Int) = 48 then q + 1 else digs s (q + 1)) else noGot) = numEnd s f (if bt s (q : Int) = 48 then q + 1 else digs s (q + 1)) from if_pos ⟨hq, h⟩, if_neg (by rw [h]; simp), if_pos (by omega), if_pos (by omega)]
   by_cases h0 : bt s (q : Int) = 48
   ·rw [if_pos h0, if_pos h0, hw]
    exact num_end HB s f (q + 1) (by omega) (by omega)
   ·rw [if_neg h0, if_neg h0]
    have e : digs s (q + 1) = digs s q := by
     conv => rhs; unfold digs; rw [runF_at, if_pos hq, if_pos h]
     rfl
    obtain ⟨k, rfl⟩ : ∃ j, k = j + 1 := ⟨k - 1, by omega⟩
    rw [spec_l1Number.l0, if_pos (by omega), if_pos (by omega), dig_f, Option.bind_some, h, if_pos rfl, hw]
    exact num_l0 HB s hs f _ (q + 1) k rfl (by omega) (by omega) (by omega)
  ·rw [if_pos (by simp [h]), if_neg (fun hh => h hh.2)]
   rfl
 ·rw [if_pos (by omega), spec_l1Number.j1, if_pos rfl, if_neg (fun hh => hq hh.1)]
  rfl
theorem num_f (HB : ∀ x : ByteArray, 0 < x.size → spec_l1TooBig.f x = some (tooB x)) (s : ByteArray) (hs : s.size ≤ 100000000) (p k : Nat) (hp : p ≤ s.size) (hk : s.size + 5 ≤ k) : spec_l1Number.f k s (p : Int) = some (numR s p) := by
 unfold spec_l1Number.f numR numF
 rw [at_f, Option.bind_some]
 by_cases h : isAt s p 45 = true
 ·have h1 := isAt_lt h
  have hw : wrap64 ((p : Int) + 1) = ((p + 1 : Nat) : Int) := by rw [w64 (by omega) (by omega)]; omega
  rw [if_pos h, if_pos h, hw, num_j0 HB s hs p (p + 1) k (by omega) hk]
  by_cases h2 : p + 1 < s.size ∧ isD (bt s ((p + 1 : Nat) : Int)) = true
  ·rw [if_pos h2, if_pos h2]
  ·rw [if_neg h2, if_neg h2]
 ·rw [if_neg h, if_neg h, num_j0 HB s hs p p k (by omega) hk]
  by_cases h2 : p < s.size ∧ isD (bt s (p : Int)) = true
  ·rw [if_pos h2, if_pos h2]
  ·rw [if_neg h2, if_neg h2]
end
end Go.Proofs.YtndagnkhjlgjgaaGreatDoor.Pf
namespace Go.Proofs.YtndagnkhjlgjgaaGreatDoor.Pf
open Go Go.RowKit YtndagnkhjlgjgaaGreatDoorW.PrintWords Str Tree Read
set_option linter.unusedVariables false
set_option linter.unusedSimpArgs false
theorem less_before : ∀ (a b : List UInt8), Op.bytesLess a b = bytesBefore a b
 | [], [] => rfl
 | [], _ :: _ => rfl
 | _ :: _, [] => rfl
 | a :: r, b :: s => by
  unfold Op.bytesLess bytesBefore
  rw [less_before r s]
theorem dig_less : ∀ (a b : List UInt8), a.length = b.length → (∀ c ∈ a, digB c) → (∀ c ∈ b, digB c) → ∀ acc acc' : Nat, acc < acc' → vD acc a < vD acc' b := by
 intro a b hl ha hb acc acc' h
 have h1 := vD_lt a acc ha
 have h2 := vD_ge b acc'
 rw [← hl] at h2
 have h3 : (acc + 1) * 10 ^ a.length ≤ acc' * 10 ^ a.length := Nat.mul_le_mul_right _ h
 omega
theorem dig_cmp : ∀ (a b : List UInt8), a.length = b.length → (∀ c ∈ a, digB c) → (∀ c ∈ b, digB c) → ∀ acc : Nat, (bytesBefore a b = true ↔ vD acc a < vD acc b) ∧ (vD acc a = vD acc b → a = b)
 | [], [], _, _, _, acc => by simp [bytesBefore]
 | [], _ :: _, h, _, _, _ => by simp at h
 | _ :: _, [], h, _, _, _ => by simp at h
 | x :: a, y :: b, h, ha, hb, acc => by
  have hx := ha x (by simp)
  have hy := hb y (by simp)
  unfold digB at hx hy
  have hl : a.length = b.length := by simpa using h
  have ha' : ∀ c ∈ a, digB c := fun c hc => ha c (by simp [hc])
  have hb' : ∀ c ∈ b, digB c := fun c hc => hb c (by simp [hc])
  rw [vD_cons, vD_cons]
  unfold bytesBefore
  by_cases e : x = y
  ·subst e
   obtain ⟨i1, i2⟩ := dig_cmp a b hl ha' hb' (acc * 10 + (x.toNat - 48))
   simp [i1]
   exact i2
  ·have hne : x.toNat ≠ y.toNat := fun hh => e (UInt8.toNat_inj.1 hh)
   by_cases hlt : x.toNat < y.toNat
   ·have h1 := dig_less a b hl ha' hb' (acc * 10 + (x.toNat - 48)) (acc * 10 + (y.toNat - 48)) (by omega)
    have h2 : x < y := UInt8.lt_iff_toNat_lt.2 hlt
    refine ⟨?_, fun hh => by omega⟩
    simp [h2, h1]
   ·have h1 := dig_less b a hl.symm hb' ha' (acc * 10 + (y.toNat - 48)) (acc * 10 + (x.toNat - 48)) (by omega)
    have h2 : ¬ x < y := fun hh => hlt (UInt8.lt_iff_toNat_lt.1 hh)
    refine ⟨?_, fun hh => by omega⟩
    simp [h2, e]
    omega
theorem lim7 : vD 0 L7 = 9223372036854775807 := by decide
theorem lim8 : vD 0 L8 = 9223372036854775808 := by decide
theorem limD7 : ∀ c ∈ L7, digB c := by unfold digB; decide
theorem limD8 : ∀ c ∈ L8, digB c := by unfold digB; decide
theorem tooD_num (lim : List UInt8) (hl : lim.length = 19) (hd : ∀ c ∈ lim, digB c) (h18 : 1000000000000000000 ≤ vD 0 lim) (h19 : vD 0 lim < 10000000000000000000) (d : ByteArray) (l : List UInt8) (he : d.data.toList = l) (hn : NumB l) : tooD lim d = decide (vD 0 lim < vD 0 l) := by
 have hz : d.size = l.length := by rw [← he, Array.length_toList]; rfl
 obtain ⟨h1, h2, h3⟩ := hn
 unfold tooD
 by_cases h : d.size = 19
 ·rw [if_pos h, Lib.toList_data, he, less_before]
  obtain ⟨i1, i2⟩ := dig_cmp l lim (by omega) h2 hd 0
  rw [Bool.eq_iff_iff]
  simp only [Bool.and_eq_true, Bool.not_eq_true', Bool.eq_false_iff, ne_eq, i1, beq_iff_eq, decide_eq_true_eq]
  constructor
  ·rintro ⟨g1, g2⟩
   have : vD 0 l ≠ vD 0 lim := fun hh => g2 (i2 hh)
   omega
  ·intro g
   exact ⟨by omega, fun hh => by rw [hh] at g; omega⟩
 ·rw [if_neg h]
  congr 1
  rw [eq_iff_iff]
  constructor
  ·intro g
   have g : 20 ≤ l.length := by omega
   cases l with
   | nil => simp at g
   | cons c r =>
    have hc := h2 c (by simp)
    unfold digB at hc
    have hc0 : c ≠ 48 := fun hh => h3 (by omega) (by rw [hh]; rfl)
    have hc1 : c.toNat ≠ 48 := fun hh => hc0 (UInt8.toNat_inj.1 hh)
    have hv := vD_ge r (0 * 10 + (c.toNat - 48))
    rw [vD_cons]
    simp only [List.length_cons] at g
    have hp : 10 ^ 19 ≤ 10 ^ r.length := Nat.pow_le_pow_right (by omega) (by omega)
    have hm : 1 * 10 ^ r.length ≤ (0 * 10 + (c.toNat - 48)) * 10 ^ r.length := Nat.mul_le_mul_right _ (by omega)
    have e19 : (10 : Nat) ^ 19 = 10000000000000000000 := by decide
    omega
  ·intro g
   apply Classical.byContradiction
   intro hh
   have hv := vD_lt l 0 h2
   have hp : 10 ^ l.length ≤ 10 ^ 18 := Nat.pow_le_pow_right (by omega) (by omega)
   have e18 : (10 : Nat) ^ 18 = 1000000000000000000 := by decide
   omega
theorem bt_head {x : ByteArray} {c : UInt8} {l : List UInt8} (h : x.data.toList = c :: l) : bt x 0 = (c.toNat : Int) := by
 have := bt_getD x 0
 rw [h] at this
 simpa using this
theorem too_big {x : ByteArray} (h : NF x) : tooB (fixN x) = bigB x := by
 obtain ⟨l, hl, he | he⟩ := h
 ·have hne : ¬ (x.data.toList = [45, 48]) := by
   rw [he]
   intro e
   have := hl.2.1 45 (by rw [e]; simp)
   unfold digB at this
   revert this
   decide
  unfold fixN tooB
  rw [if_neg hne]
  have hb : bt x 0 ≠ 45 := by
   cases l with
   | nil => exact absurd rfl hl.1
   | cons c r =>
    rw [bt_head he]
    have := hl.2.1 c (by simp)
    unfold digB at this
    omega
  rw [if_neg hb, tooD_num L7 rfl limD7 (by rw [lim7]; decide) (by rw [lim7]; decide) x l he hl, lim7]
  unfold bigB
  rw [he, int_pos hl]
  by_cases c : vD 0 l ≤ 9223372036854775807
  ·rw [if_pos c]; simp; omega
  ·rw [if_neg c]; simp; omega
 ·by_cases h48 : l = [48]
  ·subst h48
   unfold fixN
   rw [if_pos he]
   unfold bigB
   rw [he]
   decide
  ·unfold fixN
   rw [if_neg (by rw [he]; intro e2; injection e2 with _ e2; exact h48 e2)]
   unfold tooB
   rw [if_pos (by rw [bt_head he]; rfl)]
   have hz : x.size = l.length + 1 := by
    have : x.data.toList.length = (45 :: l).length := by rw [he]
    simpa using this
   have he2 : (x.extract 1 x.size).data.toList = l := by
    have : (x.extract 1 x.size).data.toList = (x.data.toList.drop 1).take (x.size - 1) := by simp
    rw [this, he, hz]
    simp
   rw [tooD_num L8 rfl limD8 (by rw [lim8]; decide) (by rw [lim8]; decide) _ l he2 hl, lim8]
   unfold bigB
   rw [he, int_neg hl]
   by_cases c : vD 0 l ≤ 9223372036854775808
   ·rw [if_pos c]; simp; omega
   ·rw [if_neg c]; simp; omega
end Go.Proofs.YtndagnkhjlgjgaaGreatDoor.Pf
