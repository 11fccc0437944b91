/- A tree as it lies in memory: objects sorted by key, the last member of a key; its canonical text. -/
import Derived.Test.YtbonodglnilkfaaDoorCt
import GoSem.ClaimWide
import Derived.Lib.ParseIntB
import Derived.Lib.ItoaNum
namespace Go.Proofs.YtbonodglnilkfaaDoor.Tree
open Go.RowKit Go.Proofs.YtbonodglnilkfaaDoorW.PrintWords Go.Proofs.YtbonodglnilkfaaDoor.Str
set_option linter.unusedVariables false
set_option linter.unusedSimpArgs false
def keyB {α β : Type} (x : ByteArray × α) (y : ByteArray × β) : Bool := bytesBefore x.1.data.toList y.1.data.toList
def insK {α : Type} (x : ByteArray × α) : List (ByteArray × α) → List (ByteArray × α)
 | [] => [x]
 | y :: r => if keyB x y = true then x :: y :: r else y :: insK x r
def putK {α : Type} (k : ByteArray) (a : α) (l : List (ByteArray × α)) : List (ByteArray × α) := insK (k, a) (l.filter fun p => !(p.1.data.toList == k.data.toList))
def numV (x : ByteArray) : Int := match Lib.parseIntB 64 x.data.toList with
 | .ok v => v
 | .range => Lib.intSat 64 x.data.toList
 | _ => 0
def numT (n : Int) : ByteArray := ⟨(Lib.itoa n).toArray⟩
mutual
def norm : T → T
 | .num x => .num (numT (numV x))
 | .arr l => .arr (normL l)
 | .obj l => .obj (normM [] l)
 | .nul => .nul
 | .tru => .tru
 | .fls => .fls
 | .str b => .str b
def normL : List T → List T
 | [] => []
 | t :: l => norm t :: normL l
def normM (m : List (ByteArray × T)) : List (ByteArray × T) → List (ByteArray × T)
 | [] => m
 | (k, t) :: l => normM (putK k (norm t) m) l
end
mutual
def cts : T → List Int
 | .nul => [110, 117, 108, 108]
 | .tru => [116, 114, 117, 101]
 | .fls => [102, 97, 108, 115, 101]
 | .num x => byt x
 | .str b => quo b
 | .arr l => 91 :: ((ctsL l).drop 1 ++ [93])
 | .obj l => 123 :: ((ctsM l).drop 1 ++ [125])
def ctsL : List T → List Int
 | [] => []
 | t :: l => 44 :: (cts t ++ ctsL l)
def ctsM : List (ByteArray × T) → List Int
 | [] => []
 | (k, t) :: l => 44 :: (quo k ++ 58 :: (cts t ++ ctsM l))
end
mutual
theorem cts_range : ∀ t, ∀ x ∈ cts t, 0 ≤ x ∧ x ≤ 255
 | .nul, x, h => by simp [cts] at h; omega
 | .tru, x, h => by simp [cts] at h; omega
 | .fls, x, h => by simp [cts] at h; omega
 | .num y, x, h => byt_range y x (by simpa [cts] using h)
 | .str b, x, h => quo_range b x (by simpa [cts] using h)
 | .arr l, x, h => by
  rw [cts] at h
  simp only [List.mem_cons, List.mem_append, List.not_mem_nil, or_false] at h
  rcases h with rfl | h | rfl
  ·omega
  ·exact ctsL_range l x (List.mem_of_mem_drop h)
  ·omega
 | .obj l, x, h => by
  rw [cts] at h
  simp only [List.mem_cons, List.mem_append, List.not_mem_nil, or_false] at h
  rcases h with rfl | h | rfl
  ·omega
  ·exact ctsM_range l x (List.mem_of_mem_drop h)
  ·omega
theorem ctsL_range : ∀ l, ∀ x ∈ ctsL l, 0 ≤ x ∧ x ≤ 255
 | [], x, h => by simp [ctsL] at h
 | t :: l, x, h => by
  rw [ctsL] at h
  simp only [List.mem_cons, List.mem_append] at h
  rcases h with rfl | h | h
  ·omega
  ·exact cts_range t x h
  ·exact ctsL_range l x h
theorem ctsM_range : ∀ l, ∀ x ∈ ctsM l, 0 ≤ x ∧ x ≤ 255
 | [], x, h => by simp [ctsM] at h
 | (k, t) :: l, x, h => by
  rw [ctsM] at h
  simp only [List.mem_cons, List.mem_append] at h
  rcases h with rfl | h | rfl | h | h
  ·omega
  ·exact quo_range k x h
  ·omega
  ·exact cts_range t x h
  ·exact ctsM_range l x h
end
def ctx (t : T) : ByteArray := strOfNums (cts t)
theorem byt_ctx (t : T) : byt (ctx t) = cts t := byt_str _ (cts_range t)
mutual
def WF : T → Prop
 | .num x => ∃ n : Int, x = numT n
 | .str b => VU (byt b)
 | .arr l => WFL l
 | .obj l => WFM l ∧ l.Pairwise (fun a b => keyB a b = true)
 | _ => True
def WFL : List T → Prop
 | [] => True
 | t :: l => WF t ∧ WFL l
def WFM : List (ByteArray × T) → Prop
 | [] => True
 | (k, t) :: l => VU (byt k) ∧ WF t ∧ WFM l
end
end Go.Proofs.YtbonodglnilkfaaDoor.Tree
namespace Go.Proofs.YtbonodglnilkfaaDoor.Tree
open Go.RowKit Go.Proofs.YtbonodglnilkfaaDoorW.PrintWords Go.Proofs.YtbonodglnilkfaaDoor.Str
set_option linter.unusedVariables false
set_option linter.unusedSimpArgs false
def vStep (acc : Nat) (c : UInt8) : Nat := acc * 10 + (c.toNat - 48)
def vD (acc : Nat) (l : List UInt8) : Nat := l.foldl vStep acc
theorem vD_nil (acc : Nat) : vD acc [] = acc := rfl
theorem vD_cons (acc : Nat) (c : UInt8) (l : List UInt8) : vD acc (c :: l) = vD (acc * 10 + (c.toNat - 48)) l := by unfold vD; rw [List.foldl_cons, vStep]
def digB (c : UInt8) : Prop := 48 ≤ c.toNat ∧ c.toNat ≤ 57
theorem vD_ge : ∀ (l : List UInt8) (acc : Nat), acc * 10 ^ l.length ≤ vD acc l
 | [], acc => by rw [vD_nil]; simp
 | c :: l, acc => by
  have := vD_ge l (acc * 10 + (c.toNat - 48))
  rw [vD_cons, List.length_cons, Nat.pow_succ]
  refine Nat.le_trans ?_ this
  rw [show acc * (10 ^ l.length * 10) = acc * 10 * 10 ^ l.length by rw [Nat.mul_comm (10 ^ l.length) 10, Nat.mul_assoc]]
  exact Nat.mul_le_mul_right _ (by omega)
theorem vD_lt : ∀ (l : List UInt8) (acc : Nat), (∀ c ∈ l, digB c) → vD acc l < (acc + 1) * 10 ^ l.length
 | [], acc, _ => by rw [vD_nil]; simp
 | c :: l, acc, h => by
  have hc := h c (by simp)
  have := vD_lt l (acc * 10 + (c.toNat - 48)) (fun x hx => h x (by simp [hx]))
  rw [vD_cons, List.length_cons, Nat.pow_succ]
  refine Nat.lt_of_lt_of_le this ?_
  rw [show (acc + 1) * (10 ^ l.length * 10) = (acc + 1) * 10 * 10 ^ l.length by rw [Nat.mul_comm (10 ^ l.length) 10, Nat.mul_assoc]]
  refine Nat.mul_le_mul_right _ ?_
  unfold digB at hc
  omega
theorem vD_self : ∀ (l : List UInt8) (a : Nat), a ≤ vD a l
 | [], a => Nat.le_refl _
 | c :: l, a => by
  have := vD_self l (a * 10 + (c.toNat - 48))
  rw [vD_cons]
  omega
theorem vD_snoc (l : List UInt8) (a : Nat) (c : UInt8) : vD a (l ++ [c]) = vD a l * 10 + (c.toNat - 48) := by
 unfold vD
 rw [List.foldl_append, List.foldl_cons, List.foldl_nil, vStep]
theorem uintM (l : List UInt8) : ∀ (acc : Nat), (∀ c ∈ l, digB c) → acc ≤ 18446744073709551615 → Lib.parseUintM 18446744073709551615 acc l = if vD acc l ≤ 18446744073709551615 then .ok (vD acc l) else .range := by
 induction l with
 | nil => intro acc _ ha; rw [Lib.parseUintM, vD_nil, if_pos ha]
 | cons c l ih =>
  intro acc h ha
  have hc := h c (by simp)
  have hl : ∀ x ∈ l, digB x := fun x hx => h x (by simp [hx])
  have hs := vD_self l (acc * 10 + (c.toNat - 48))
  unfold digB at hc
  rw [Lib.parseUintM, if_pos hc, vD_cons]
  by_cases h1 : 1844674407370955162 ≤ acc
  ·rw [if_pos h1, if_neg (by omega)]
  ·rw [if_neg h1]
   by_cases h2 : 18446744073709551615 < acc * 10 + (c.toNat - 48)
   ·rw [if_pos h2, if_neg (by omega)]
   ·rw [if_neg h2]
    exact ih _ hl (by omega)
theorem dec_digits : ∀ (n : Nat) (l : List UInt8), l.length = n → l ≠ [] → (∀ c ∈ l, digB c) → (2 ≤ l.length → l.head? ≠ some 48) → Lib.decDigits (vD 0 l) = l := by
 intro n
 induction n with
 | zero => intro l hn hne; exact absurd (List.length_eq_zero_iff.1 hn) hne
 | succ n ih =>
  intro l hn hne hd h0
  obtain ⟨r, c, rfl⟩ : ∃ r c, l = r ++ [c] := ⟨l.dropLast, l.getLast hne, (List.dropLast_concat_getLast hne).symm⟩
  have hc := hd c (by simp)
  unfold digB at hc
  have hcn : UInt8.ofNat (48 + (c.toNat - 48)) = c := by
   rw [show 48 + (c.toNat - 48) = c.toNat by omega]
   simp
  cases r with
  | nil =>
   rw [List.nil_append, vD_cons, vD_nil, Lib.decDigits, dif_pos (by omega), show 0 * 10 + (c.toNat - 48) = c.toNat - 48 by omega, hcn]
  | cons a r =>
   have ha := hd a (by simp)
   have hne0 : a ≠ 48 := by
    have := h0 (by simp)
    intro e
    apply this
    rw [e]
    rfl
   have ha1 : 1 ≤ a.toNat - 48 := by
    unfold digB at ha
    have : a.toNat ≠ 48 := fun e => hne0 (by rw [← UInt8.toNat_inj]; exact e)
    omega
   have hpos : 1 ≤ vD 0 (a :: r) := by
    rw [vD_cons]
    have := vD_self r (0 * 10 + (a.toNat - 48))
    omega
   have ih2 := ih (a :: r) (by simp at hn ⊢; omega) (by simp) (fun x hx => hd x (by simp only [List.mem_append]; exact .inl hx)) (fun _ => by simpa using hne0)
   rw [vD_snoc, Lib.decDigits, dif_neg (by omega), show (vD 0 (a :: r) * 10 + (c.toNat - 48)) / 10 = vD 0 (a :: r) by omega, show (vD 0 (a :: r) * 10 + (c.toNat - 48)) % 10 = c.toNat - 48 by omega, ih2, hcn]
def NumB (l : List UInt8) : Prop := l ≠ [] ∧ (∀ c ∈ l, digB c) ∧ (2 ≤ l.length → l.head? ≠ some 48)
theorem int_pos {l : List UInt8} (h : NumB l) : Lib.parseIntB 64 l = if vD 0 l ≤ 9223372036854775807 then .ok (vD 0 l : Int) else .range := by
 obtain ⟨h1, h2, h3⟩ := h
 cases l with
 | nil => exact absurd rfl h1
 | cons c r =>
  have hc := h2 c (by simp)
  unfold digB at hc
  unfold Lib.parseIntB
  simp only
  rw [if_neg (by omega)]
  unfold Lib.parseUintB
  rw [if_neg (by simp), show (2 ^ 64 - 1 : Nat) = 18446744073709551615 by decide, uintM _ 0 h2 (by omega)]
  by_cases hb : vD 0 (c :: r) ≤ 18446744073709551615
  ·rw [if_pos hb]
   simp only
   by_cases h4 : vD 0 (c :: r) ≤ 9223372036854775807
   ·rw [if_neg (by simp; omega), if_neg (by omega), if_pos h4, if_neg (by omega)]
   ·rw [if_pos (by simp; omega), if_neg h4]
  ·rw [if_neg hb, if_neg (by omega)]
theorem int_neg {l : List UInt8} (h : NumB l) : Lib.parseIntB 64 (45 :: l) = if vD 0 l ≤ 9223372036854775808 then .ok (-(vD 0 l : Int)) else .range := by
 obtain ⟨h1, h2, h3⟩ := h
 have e45 : (45 : UInt8).toNat = 45 := rfl
 unfold Lib.parseIntB
 simp only [e45]
 rw [if_pos (.inr trivial)]
 unfold Lib.parseUintB
 rw [if_neg h1, show (2 ^ 64 - 1 : Nat) = 18446744073709551615 by decide, uintM _ 0 h2 (by omega)]
 by_cases hb : vD 0 l ≤ 18446744073709551615
 ·rw [if_pos hb]
  simp only
  by_cases h4 : vD 0 l ≤ 9223372036854775808
  ·rw [if_neg (by simp), if_neg (by simp; omega), if_pos h4, if_pos trivial]
  ·rw [if_neg (by simp), if_pos (by simp; omega), if_neg h4]
 ·rw [if_neg hb, if_neg (by omega)]
theorem itoa_pos {l : List UInt8} (h : NumB l) : Lib.itoa (vD 0 l : Int) = l := by
 unfold Lib.itoa
 rw [if_neg (by omega), Int.toNat_natCast, dec_digits _ l rfl h.1 h.2.1 h.2.2]
theorem itoa_neg {l : List UInt8} (h : NumB l) (h0 : l ≠ [48]) : Lib.itoa (-(vD 0 l : Int)) = 45 :: l := by
 have hp : 1 ≤ vD 0 l := by
  obtain ⟨h1, h2, h3⟩ := h
  cases l with
  | nil => exact absurd rfl h1
  | cons c r =>
   have hc := h2 c (by simp)
   unfold digB at hc
   have hne : c.toNat ≠ 48 := by
    intro e
    have e2 : c = 48 := by rw [← UInt8.toNat_inj]; exact e
    cases r with
    | nil => exact h0 (by rw [e2])
    | cons d r => exact h3 (by simp) (by rw [e2]; rfl)
   rw [vD_cons]
   have := vD_self r (0 * 10 + (c.toNat - 48))
   omega
 unfold Lib.itoa
 rw [if_pos (by omega), Int.natAbs_neg, Int.natAbs_natCast, dec_digits _ l rfl h.1 h.2.1 h.2.2]
end Go.Proofs.YtbonodglnilkfaaDoor.Tree
