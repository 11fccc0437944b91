/- A value's place by its tokens, on the reference's side. Plain laws. -/
import Derived.Test.YtndagnkhjlgjgaaGreatDoorTokP
namespace Go.Proofs.YtndagnkhjlgjgaaGreatDoor.At
open Go Go.RowKit YtndagnkhjlgjgaaGreatDoorW.PrintWords Str Tree Read PJt Own Pf
set_option linter.unusedVariables false
set_option linter.unusedSimpArgs false
def digsL (l : List UInt8) : Bool := l.all fun b => decide (48 ≤ b.toNat ∧ b.toNat ≤ 57)
def ixS (a : Nat) (b : UInt8) : Nat := a * 10 + (b.toNat - 48)
def ixV (acc : Nat) (l : List UInt8) : Nat := l.foldl ixS acc
theorem ixV_nil (acc : Nat) : ixV acc [] = acc := rfl
theorem ixV_cons (acc : Nat) (b : UInt8) (r : List UInt8) : ixV acc (b :: r) = ixV (ixS acc b) r := by
 unfold ixV
 rw [List.foldl_cons]
theorem ixV_snoc (b : UInt8) (l : List UInt8) (acc : Nat) : ixV acc (l ++ [b]) = ixS (ixV acc l) b := by
 unfold ixV
 rw [List.foldl_append, List.foldl_cons, List.foldl_nil]
theorem ixS_eq (a : Nat) (b : UInt8) : ixS a b = a * 10 + (b.toNat - 48) := by unfold ixS; rfl
theorem digs_app {a b : List UInt8} (h : digsL (a ++ b) = true) : digsL a = true ∧ digsL b = true := by
 unfold digsL at h ⊢
 rw [List.all_append, Bool.and_eq_true] at h
 exact h
theorem digs_one {b : UInt8} (h : digsL [b] = true) : 48 ≤ b.toNat ∧ b.toNat ≤ 57 := by
 unfold digsL at h
 simpa using h
theorem dec_small {n : Nat} (h : n < 10) : Lib.decDigits n = [UInt8.ofNat (48 + n)] := by rw [Lib.decDigits, dif_pos h]
theorem dec_big {n : Nat} (h : ¬ n < 10) : Lib.decDigits n = Lib.decDigits (n / 10) ++ [UInt8.ofNat (48 + n % 10)] := by
 conv => lhs; rw [Lib.decDigits, dif_neg h]
theorem ofNat_byte (b : UInt8) {n : Nat} (h : n = b.toNat) : UInt8.ofNat n = b := by subst h; simp
theorem dec_val : ∀ (m : Nat) (l : List UInt8), l.length = m → digsL l = true → 1 ≤ m → ¬ (1 < m ∧ l.head? = some 48) → Lib.decDigits (ixV 0 l) = l := by
 intro m
 induction m with
 | zero => intro l _ _ h; omega
 | succ m ih =>
  intro l hl hd h1 hz
  rcases List.eq_nil_or_concat l with h0 | ⟨L, b, h0⟩
  ·subst h0; simp at hl
  ·rw [List.concat_eq_append] at h0
   subst h0
   have hd2 := digs_app hd
   have hb := digs_one hd2.2
   rw [List.length_append, List.length_singleton] at hl
   rw [ixV_snoc, ixS_eq]
   cases L with
   | nil =>
    have e : (ixV 0 [] * 10 + (b.toNat - 48)) = b.toNat - 48 := by rw [ixV_nil, Nat.zero_mul, Nat.zero_add]
    rw [e, dec_small (by omega), List.nil_append, ofNat_byte b (by omega)]
   | cons c r =>
    have hlen : (c :: r).length = m := by omega
    have hm : 1 ≤ m := by rw [← hlen]; simp
    have hne : ¬ c = 48 := fun e => hz ⟨by omega, by rw [e]; rfl⟩
    have hi := ih (c :: r) hlen hd2.1 hm (fun h => hne (by have := h.2; simpa using this))
    have hpos : ixV 0 (c :: r) ≠ 0 := by
     intro h0
     rw [h0, dec_small (by decide)] at hi
     injection hi with h2 _
     exact hne h2.symm
    have hdiv : (ixV 0 (c :: r) * 10 + (b.toNat - 48)) / 10 = ixV 0 (c :: r) := by omega
    have hmod : (ixV 0 (c :: r) * 10 + (b.toNat - 48)) % 10 = b.toNat - 48 := by omega
    rw [dec_big (by omega), hdiv, hmod, hi, ofNat_byte b (by omega)]
theorem val_dec (n : Nat) : ixV 0 (Lib.decDigits n) = n := by
 induction n using Nat.strongRecOn with
 | _ n ih =>
  by_cases h : n < 10
  ·have e : (UInt8.ofNat (48 + n)).toNat = 48 + n := by rw [UInt8.toNat_ofNat']; omega
   rw [dec_small h, ixV_cons, ixV_nil, ixS_eq, e]
   omega
  ·have e : (UInt8.ofNat (48 + n % 10)).toNat = 48 + n % 10 := by rw [UInt8.toNat_ofNat']; omega
   rw [dec_big h, ixV_snoc, ih (n / 10) (by omega), ixS_eq, e]
   omega
theorem decB_inj {m n : Nat} (h : decB m = decB n) : m = n := by
 have h1 : (decB m).data.toList = (decB n).data.toList := by rw [h]
 have h2 : Lib.decDigits m = Lib.decDigits n := by simpa [decB] using h1
 rw [← val_dec m, ← val_dec n, h2]
def idxF (t : ByteArray) : Option Nat := if 1 ≤ t.size ∧ t.size ≤ 6 ∧ digsL t.data.toList = true ∧ ¬ (1 < t.size ∧ bt t 0 = 48) then some (ixV 0 t.data.toList) else none
theorem size_list (t : ByteArray) : t.data.toList.length = t.size := Array.length_toList
theorem idx_dec {t : ByteArray} {n : Nat} (h : idxF t = some n) : t = decB n := by
 unfold idxF at h
 split at h
 ·rename_i hc
  obtain ⟨h1, h2, h3, h4⟩ := hc
  injection h with h
  have := dec_val t.size t.data.toList (size_list t) h3 h1 (fun hh => h4 ⟨hh.1, by
   obtain ⟨b, hb, hbt⟩ := Tok.bt_cons t 0 (by omega)
   rw [show ((0 : Nat) : Int) = 0 from rfl] at hbt
   rw [hbt]
   have h5 := hh.2
   rw [List.drop_zero] at hb
   rw [hb] at h5
   simp only [List.head?_cons, Option.some.injEq] at h5
   rw [h5]
   rfl⟩)
  rw [h] at this
  unfold decB
  rw [this]
 ·cases h
theorem pow_six (i : Nat) (h : i ≤ 6) : 1 ≤ 10 ^ i ∧ 10 ^ i ≤ 1000000 :=
 ⟨Nat.one_le_pow i 10 (by decide), Nat.le_trans (Nat.pow_le_pow_right (by decide) h) (by decide)⟩
theorem idx_nums (acc b i : Nat) (ha : acc ≤ 1000000000) (hb : 48 ≤ b ∧ b ≤ 57) (hi : i ≤ 6) : wrap64 ((acc : Int) * 10) = (acc : Int) * 10 ∧ ((b : Int) - 48) % 256 = (b : Int) - 48 ∧
  wrap64 ((acc : Int) * 10 + ((b : Int) - 48)) = ((acc * 10 + (b - 48) : Nat) : Int) ∧ wrap64 ((i : Int) + 1) = ((i + 1 : Nat) : Int) := by
 refine ⟨w64 (by omega) (by omega), by omega, ?_, ?_⟩
 ·rw [w64 (by omega) (by omega)]; omega
 ·rw [w64 (by omega) (by omega)]; omega
theorem isD_yes {b : Nat} (h : 48 ≤ b ∧ b ≤ 57) : isD (b : Int) = true := by
 unfold isD
 rw [decide_eq_true (show (48 : Int) ≤ (b : Int) by omega), decide_eq_true (show (b : Int) ≤ 57 by omega)]
 rfl
theorem isD_no {b : Nat} (h : ¬ (48 ≤ b ∧ b ≤ 57)) : isD (b : Int) = false := by
 unfold isD
 rcases Nat.lt_or_ge b 48 with h1 | h1
 ·rw [decide_eq_false (show ¬ (48 : Int) ≤ (b : Int) by omega), Bool.false_and]
 ·rw [decide_eq_false (show ¬ (b : Int) ≤ 57 by omega), Bool.and_false]
theorem digs_cons {b : UInt8} {r : List UInt8} (h : 48 ≤ b.toNat ∧ b.toNat ≤ 57) : digsL (b :: r) = digsL r := by
 unfold digsL
 rw [List.all_cons, decide_eq_true h, Bool.true_and]
theorem digs_bad {b : UInt8} {r : List UInt8} (h : ¬ (48 ≤ b.toNat ∧ b.toNat ≤ 57)) : digsL (b :: r) = false := by
 unfold digsL
 rw [List.all_cons, decide_eq_false h, Bool.false_and]
theorem pow_next {acc i d : Nat} (h : acc < 10 ^ i) (hd : d ≤ 9) : acc * 10 + d < 10 ^ (i + 1) := by
 rw [Nat.pow_succ]
 generalize 10 ^ i = m at h ⊢
 omega
theorem index_l0 (t : ByteArray) (hs : t.size ≤ 6) : ∀ (n i k acc : Nat), t.size - i = n → i ≤ t.size → n + 1 ≤ k → acc < 10 ^ i →
  spec_l1Index.l0 k t (acc : Int) (i : Int) = some (if digsL (t.data.toList.drop i) = true then (ixV acc (t.data.toList.drop i) : Int) else -1) := by
 intro n
 induction n with
 | zero =>
  intro i k acc hi hl hk ha
  obtain ⟨k, rfl⟩ : ∃ j, k = j + 1 := ⟨k - 1, by omega⟩
  rw [spec_l1Index.l0, if_neg (by clear ha; omega), List.drop_of_length_le (by rw [size_list]; clear ha; omega)]
  rfl
 | succ n ih =>
  intro i k acc hi hl hk ha
  have hacc : acc ≤ 1000000000 := by
   have hp := (pow_six i (by clear ha; omega)).2
   exact Nat.le_trans (Nat.le_of_lt ha) (Nat.le_trans hp (by decide))
  have hnx : ∀ d : Nat, d ≤ 9 → acc * 10 + d < 10 ^ (i + 1) := fun d hd => pow_next ha hd
  clear ha
  obtain ⟨k, rfl⟩ : ∃ j, k = j + 1 := ⟨k - 1, by clear hnx; omega⟩
  have hit : i < t.size := by clear hnx; omega
  obtain ⟨b, hb, hbt⟩ := Tok.bt_cons t i hit
  rw [spec_l1Index.l0, if_pos (by clear hnx hb hbt; omega), if_pos (by clear hnx hb hbt; omega), dig_f, Option.bind_some, hb, hbt]
  by_cases hd : 48 ≤ b.toNat ∧ b.toNat ≤ 57
  ·obtain ⟨e1, e2, e3, e4⟩ := idx_nums acc b.toNat i hacc hd (by clear hnx hb hbt; omega)
   rw [isD_yes hd, if_pos rfl, e1, e2, e3, e4, ih (i + 1) k (acc * 10 + (b.toNat - 48)) (by clear hnx hb hbt e1 e2 e3 e4; omega) hit (by clear hnx hb hbt e1 e2 e3 e4; omega) (hnx _ (by clear hnx hb hbt e1 e2 e3 e4; omega)), digs_cons hd, ixV_cons, ixS_eq]
  ·rw [isD_no hd, digs_bad hd, if_neg (by decide), if_neg (by decide)]
theorem index_f (t : ByteArray) (k : Nat) (hk : 10 ≤ k) : spec_l1Index.f k t = some (match idxF t with | some n => (n : Int) | none => -1) := by
 obtain ⟨k, rfl⟩ : ∃ j, k = j + 1 := ⟨k - 1, by omega⟩
 have no : ¬ (1 ≤ t.size ∧ t.size ≤ 6 ∧ digsL t.data.toList = true ∧ ¬ (1 < t.size ∧ bt t 0 = 48)) → spec_l1Index.j0 (k + 1) t true = some (match idxF t with | some n => (n : Int) | none => -1) := by
  intro h
  have : idxF t = none := if_neg h
  rw [this, spec_l1Index.j0, if_pos rfl]
 unfold spec_l1Index.f
 by_cases h1 : t.size < 1
 ·rw [if_pos (by omega), no (by omega)]
 rw [if_neg (by omega)]
 by_cases h2 : 6 < t.size
 ·rw [if_pos (by omega), no (by omega)]
 rw [if_neg (by omega), if_pos (by omega)]
 have yes : ¬ (1 < t.size ∧ bt t 0 = 48) → spec_l1Index.j0 (k + 1) t false = some (match idxF t with | some n => (n : Int) | none => -1) := by
  intro h
  have e := index_l0 t (by omega) t.size 0 k 0 (by omega) (by omega) (by omega) (by decide)
  rw [show ((0 : Nat) : Int) = 0 from rfl, List.drop_zero] at e
  rw [spec_l1Index.j0, if_neg (by decide), e]
  unfold idxF
  by_cases hd : digsL t.data.toList = true
  ·rw [if_pos hd, if_pos ⟨by omega, by omega, hd, h⟩]
  ·rw [if_neg hd, if_neg (fun hh => hd hh.2.2.1)]
 by_cases h3 : bt t 0 = 48
 ·rw [if_pos h3]
  by_cases h4 : 1 < t.size
  ·rw [decide_eq_true (by omega), no (fun h => h.2.2.2 ⟨h4, h3⟩)]
  ·rw [decide_eq_false (by omega), yes (fun h => h4 h.1)]
 ·rw [if_neg h3, yes (fun h => h3 h.2)]
end Go.Proofs.YtndagnkhjlgjgaaGreatDoor.At
namespace Go.Proofs.YtndagnkhjlgjgaaGreatDoor.At
open Go Go.Proofs Go.RowKit YtndagnkhjlgjgaaGreatDoorW.PrintWords Str Tree Read PJt Own Pf
set_option linter.unusedVariables false
set_option linter.unusedSimpArgs false
def childF (u : T) (t : ByteArray) : Int := match u with
 | .arr l => match idxF t with
  | some n => if n < l.length then (n : Int) else -1
  | none => -1
 | u => findP t (prts u) 0
def stepF (u : T) (t : ByteArray) : Option T := if childF u t < 0 then none else (kids u)[(childF u t).toNat]?
def atF (u : T) : List ByteArray → Option T
 | [] => some u
 | t :: ts => match stepF u t with
  | some v => atF v ts
  | none => none
theorem findP_lt (t : ByteArray) : ∀ (ps : List Prt) (i : Nat), findP t ps i = -1 ∨ ((i : Int) ≤ findP t ps i ∧ findP t ps i < (i + ps.length : Int))
 | [], i => .inl rfl
 | p :: r, i => by
  rw [findP]
  split
  ·exact .inr ⟨Int.le_refl _, by rw [List.length_cons]; omega⟩
  ·rcases findP_lt t r (i + 1) with h | h
   ·exact .inl h
   ·exact .inr ⟨by omega, by rw [List.length_cons]; omega⟩
theorem find_arr (n : Nat) : ∀ (l : List T) (m j : Nat), findP (decB n) (prtL m l) j = if m ≤ n ∧ n < m + l.length then ((j + (n - m) : Nat) : Int) else -1
 | [], m, j => by
  rw [prtL, findP, if_neg (by rw [List.length_nil]; omega)]
 | t :: l, m, j => by
  rw [prtL, findP, find_arr n l (m + 1) (j + 1), List.length_cons]
  by_cases h : m = n
  ·subst h
   rw [if_pos rfl, if_pos ⟨Nat.le_refl _, by omega⟩]
   omega
  ·have hne : ¬ ((⟨decB m, ctx t⟩ : Prt).f0.data.toList = (decB n).data.toList) := by
    intro e
    have e2 : (decB m).data.toList = (decB n).data.toList := e
    exact h (decB_inj (ByteArray.ext (Array.ext' e2)))
   rw [if_neg hne]
   by_cases h2 : m + 1 ≤ n ∧ n < m + 1 + l.length
   ·rw [if_pos h2, if_pos ⟨by omega, by omega⟩]
    omega
   ·rw [if_neg h2, if_neg (by omega)]
theorem childF_lt (u : T) (t : ByteArray) : childF u t < 0 ∨ (0 ≤ childF u t ∧ childF u t < ((kids u).length : Int)) := by
 have other : ∀ u : T, findP t (prts u) 0 < 0 ∨ (0 ≤ findP t (prts u) 0 ∧ findP t (prts u) 0 < ((kids u).length : Int)) := by
  intro u
  rcases findP_lt t (prts u) 0 with h | h
  ·exact .inl (by omega)
  ·exact .inr ⟨by omega, by have := prts_len u; omega⟩
 cases u with
 | arr l =>
  unfold childF
  cases hx : idxF t with
  | none => exact .inl (show (-1 : Int) < 0 by decide)
  | some n =>
   by_cases h : n < l.length
   ·simp only [if_pos h]
    exact .inr ⟨by omega, by rw [kids]; omega⟩
   ·simp only [if_neg h]
    exact .inl (by decide)
 | obj l => exact other (.obj l)
 | nul => exact other .nul
 | tru => exact other .tru
 | fls => exact other .fls
 | num x => exact other (.num x)
 | str b => exact other (.str b)
theorem step_kid {u v : T} {t : ByteArray} (h : stepF u t = some v) : v ∈ kids u := by
 unfold stepF at h
 split at h
 ·cases h
 ·exact List.mem_of_getElem? h
def getR : Option T → ByteArray × Bool
 | some v => (ctx v, true)
 | none => (⟨#[]⟩, false)
theorem kid_size {u v : T} (hw : WF u) (h : v ∈ kids u) : WF v ∧ (ctx v).size < (ctx u).size := by
 have h1 := kid_lt u v h hw
 exact ⟨h1.2, by have := ctx_size u; have := ctx_size v; omega⟩
section
variable [Inhabited Rec]
theorem child_f (u : T) (hw : WF u) (hs : (ctx u).size ≤ 900000) (HS : ∀ i : Nat, i ≤ (ctx u).size → spec_l1String.f (ctx u) (i : Int) = some (strOfNums (strXF (ctx u) i).1, ((strXF (ctx u) i).2.1 : Int), (strXF (ctx u) i).2.2))
  (HD : ∀ n : Nat, n ≤ 1000000000 → spec_l1Dec.f (n : Int) = some (decB n)) (t : ByteArray) (k : Nat) (hk : 10000000 ≤ k) : spec_l1Child.f k (ctx u) t = some (childF u t) := by
 have hz := ctx_size u
 have hp := cts_pos u hw
 have hat := ctx_at u
 obtain ⟨k, rfl⟩ : ∃ j, k = j + 1 := ⟨k - 1, by omega⟩
 have hpl : (prts u).length ≤ 1000000 := by
  have h1 := prts_len u
  have h2 : (kids u).length ≤ (cts u).length := by
   cases u with
   | arr l => rw [WF] at hw; rw [kids, cts]; have := ctsL_len l hw; simp only [List.length_cons, List.length_append, List.length_drop, List.length_nil]; omega
   | obj l => rw [WF] at hw; rw [kids, cts, List.length_map]; have := ctsM_len l hw.1; simp only [List.length_cons, List.length_append, List.length_drop, List.length_nil]; omega
   | nul => simp [kids]
   | tru => simp [kids]
   | fls => simp [kids]
   | num x => simp [kids]
   | str b => simp [kids]
  omega
 have hpf := parts_f u hw hs HS HD k (by omega)
 have hff := find_f (prts u) (by omega) t k (by omega)
 have run : spec_l1Child.j0 (k + 1) (ctx u) t false = some (findP t (prts u) 0) := by
  rw [spec_l1Child.j0, if_neg (by decide), hpf, Option.bind_some, hff]
  rfl
 unfold spec_l1Child.f
 rw [if_pos (by omega)]
 have other : bt (ctx u) 0 ≠ 91 → childF u t = findP t (prts u) 0 → (if bt (ctx u) 0 = 91 then (spec_l1Index.f (k + 1) t).bind fun bC => spec_l1Child.j0 (k + 1) (ctx u) t (decide (bC < 0)) else spec_l1Child.j0 (k + 1) (ctx u) t false) = some (childF u t) := by
  intro h1 h2
  rw [if_neg h1, run, h2]
 cases u with
 | arr l =>
  rw [cts] at hat
  have h1 : bt (ctx (.arr l)) 0 = 91 := hat.2.1
  rw [if_pos h1, index_f t (k + 1) (by omega), Option.bind_some]
  unfold childF
  cases hx : idxF t with
  | none =>
   show spec_l1Child.j0 (k + 1) (ctx (.arr l)) t (decide ((-1 : Int) < 0)) = some (-1)
   rw [decide_eq_true (by decide), spec_l1Child.j0, if_pos rfl]
  | some n =>
   show spec_l1Child.j0 (k + 1) (ctx (.arr l)) t (decide (((n : Nat) : Int) < 0)) = some (if n < l.length then (n : Int) else -1)
   rw [decide_eq_false (by omega), run, idx_dec hx]
   show some (findP (decB n) (prtL 0 l) 0) = _
   rw [find_arr n l 0 0]
   by_cases h : n < l.length
   ·rw [if_pos ⟨Nat.zero_le _, by omega⟩, if_pos h]
    simp
   ·rw [if_neg (by omega), if_neg h]
 | obj l =>
  rw [cts] at hat
  exact other (by have : bt (ctx (.obj l)) 0 = 123 := hat.2.1; rw [this]; decide) rfl
 | nul => rw [cts] at hat; exact other (by rw [at0 hat]; decide) rfl
 | tru => rw [cts] at hat; exact other (by rw [at0 hat]; decide) rfl
 | fls => rw [cts] at hat; exact other (by rw [at0 hat]; decide) rfl
 | str b =>
  rw [cts] at hat
  have hat : At (ctx (.str b)) 0 (34 :: ((byt b).flatMap escI ++ [34])) := hat
  exact other (by rw [at0 hat]; decide) rfl
 | num x =>
  rw [WF] at hw
  obtain ⟨n, rfl⟩ := hw
  rw [cts] at hat
  have hne := numT_ne n
  cases hb : byt (numT n) with
  | nil => exact absurd hb hne
  | cons a r =>
   rw [hb] at hat
   have hpn := numT_bytes n a (by rw [hb]; exact List.mem_cons_self)
   exact other (by rw [at0 hat]; rcases hpn with h | h <;> omega) rfl
theorem get_l0 (HS : ∀ (s : ByteArray), s.size ≤ 900000 → ∀ i : Nat, i ≤ s.size → spec_l1String.f s (i : Int) = some (strOfNums (strXF s i).1, ((strXF s i).2.1 : Int), (strXF s i).2.2))
  (HD : ∀ n : Nat, n ≤ 1000000000 → spec_l1Dec.f (n : Int) = some (decB n)) (ts : List ByteArray) (hl : ts.length ≤ 10000000) : ∀ (n j k : Nat) (u : T), ts.length - j = n → j ≤ ts.length → n + 10000002 ≤ k → WF u → (ctx u).size ≤ 900000 →
  spec_l1Get.l0 k (ctx u) ts (j : Int) = some (getR (atF u (ts.drop j))) := by
 intro n
 induction n with
 | zero =>
  intro j k u hn hj hk hw hs
  obtain ⟨k, rfl⟩ : ∃ i, k = i + 1 := ⟨k - 1, by omega⟩
  rw [spec_l1Get.l0, if_neg (by omega), List.drop_of_length_le (by omega)]
  rfl
 | succ n ih =>
  intro j k u hn hj hk hw hs
  obtain ⟨k, rfl⟩ : ∃ i, k = i + 1 := ⟨k - 1, by omega⟩
  have hjl : j < ts.length := by omega
  have ew : wrap64 ((j : Int) + 1) = ((j + 1 : Nat) : Int) := by rw [w64 (by omega) (by omega)]; omega
  rw [spec_l1Get.l0, if_pos (by omega), if_pos (by omega), Tok.rd_at ts j hjl, child_f u hw hs (HS _ hs) HD ts[j] k (by omega), Option.bind_some, List.drop_eq_getElem_cons hjl, atF]
  have hc := childF_lt u ts[j]
  unfold stepF
  by_cases h0 : childF u ts[j] < 0
  ·rw [if_pos h0, if_pos h0]
   rfl
  ·obtain ⟨h1, h2⟩ := hc.resolve_left h0
   have hpl := prts_len u
   obtain ⟨i, hi⟩ : ∃ i : Nat, childF u ts[j] = (i : Int) := ⟨(childF u ts[j]).toNat, by omega⟩
   rw [hi] at h2 ⊢
   have hik : i < (kids u).length := by omega
   rw [if_neg (by omega), if_neg (by omega), parts_f u hw hs (HS _ hs) HD k (by omega), Option.bind_some, if_pos (by omega), if_pos (by omega), prts_at u i hik, ew, Int.toNat_natCast, List.getElem?_eq_getElem hik]
   have hk2 := kid_size hw (List.getElem_mem hik)
   exact ih (j + 1) k _ (by omega) (by omega) (by omega) hk2.1 (by omega)
end
end Go.Proofs.YtndagnkhjlgjgaaGreatDoor.At
namespace Go.Proofs.YtndagnkhjlgjgaaGreatDoor.Pf
open Go Go.RowKit YtndagnkhjlgjgaaGreatDoorW.PrintWords Str Tree Read PJt Own Tchs
set_option linter.unusedVariables false
set_option linter.unusedSimpArgs false
abbrev QE : ByteArray := ⟨#[34, 92, 98, 116, 110, 102, 114]⟩
def ixq (c : Int) : Int := Lib.indexByte [34, 92, 8, 9, 10, 12, 13] c.toNat.toUInt8
theorem ixq_tab : ∀ n : Fin 256, (ixq (n.1 : Int) ≥ 0 → 0 ≤ ixq (n.1 : Int) ∧ ixq (n.1 : Int) < 7 ∧ escI (n.1 : Int) = [92, bt QE (ixq (n.1 : Int))]) ∧
  (¬ ixq (n.1 : Int) ≥ 0 → (n.1 : Int) < 32 → Go.bits .and .u8 (n.1 : Int) 15 = (n.1 : Int) % 16 ∧ escI (n.1 : Int) = [92, 117, 48, 48, bt HEX ((n.1 : Int) / 16), bt HEX ((n.1 : Int) % 16)]) ∧
  (¬ ixq (n.1 : Int) ≥ 0 → ¬ (n.1 : Int) < 32 → escI (n.1 : Int) = [(n.1 : Int)]) := by decide +kernel
theorem ixq_at (c : Int) (h0 : 0 ≤ c) (h1 : c ≤ 255) : (ixq c ≥ 0 → 0 ≤ ixq c ∧ ixq c < 7 ∧ escI c = [92, bt QE (ixq c)]) ∧
  (¬ ixq c ≥ 0 → c < 32 → Go.bits .and .u8 c 15 = c % 16 ∧ escI c = [92, 117, 48, 48, bt HEX (c / 16), bt HEX (c % 16)]) ∧ (¬ ixq c ≥ 0 → ¬ c < 32 → escI c = [c]) := by
 have h := ixq_tab ⟨c.toNat, by omega⟩
 simpa [Int.toNat_of_nonneg h0] using h
theorem qi_step (s : ByteArray) (hs : s.size ≤ 100000000) (i : Nat) (hi : i < s.size) (acc : List Int) (hl : acc.length ≤ 1000000000) (k : Nat) :
  impl_quoted.l0 (k + 1) acc s (s.size : Int) (i : Int) = impl_quoted.l0 k (acc ++ escI (bt s (i : Int))) s (s.size : Int) ((i + 1 : Nat) : Int) := by
 have hc := bt_range s (i : Int)
 have HW := Lib.hid (show wrap64 ((i : Int) + 1) = ((i + 1 : Nat) : Int) by rw [w64 (by omega) (by omega)]; omega)
 rw [impl_quoted.l0, if_pos (by omega), if_pos (by omega), if_pos (by omega), show strings_IndexByte.f (⟨#[34, 92, 8, 9, 10, 12, 13]⟩ : ByteArray) (bt s (i : Int)) = some (ixq (bt s (i : Int))) from rfl, Option.bind_some, HW.out]
 generalize bt s (i : Int) = c at hc ⊢
 obtain ⟨h1, h2, h3⟩ := ixq_at c hc.1 hc.2
 by_cases c1 : ixq c ≥ 0
 ·obtain ⟨g1, g2, g3⟩ := h1 c1
  rw [if_pos c1, if_pos g1, if_pos g2, Option.bind_some, g3, if_pos (by simp; omega)]
 ·by_cases c2 : c < 32
  ·obtain ⟨g1, g2⟩ := h2 c1 c2
   have eb : bytesOf (⟨#[92, 117, 48, 48]⟩ : ByteArray) = [92, 117, 48, 48] := rfl
   rw [if_neg c1, if_pos c2, if_pos (by omega), Option.bind_some, if_pos (by omega), if_pos (by omega), g1, if_pos (by omega), if_pos (by omega), Option.bind_some, g2, eb, if_pos (by simp; omega)]
   simp
  ·rw [if_neg c1, if_neg c2, if_pos (by omega), h3 c1 c2]
theorem qi_loop (s : ByteArray) (hs : s.size ≤ 100000000) : ∀ (n i : Nat) (acc : List Int) (k : Nat), s.size - i = n → i ≤ s.size → acc.length + 6 * n ≤ 1000000000 → n + 1 ≤ k →
  impl_quoted.l0 k acc s (s.size : Int) (i : Int) = some (acc ++ (((byt s).drop i).flatMap escI ++ [34])) := by
 intro n
 induction n with
 | zero =>
  intro i acc k hn hi hl hk
  obtain ⟨k, rfl⟩ : ∃ j, k = j + 1 := ⟨k - 1, by omega⟩
  rw [impl_quoted.l0, if_neg (by omega), if_pos (by omega), List.drop_of_length_le (by rw [byt_len]; omega)]
  rfl
 | succ n ih =>
  intro i acc k hn hi hl hk
  obtain ⟨k, rfl⟩ : ∃ j, k = j + 1 := ⟨k - 1, by omega⟩
  rw [qi_step s hs i (by omega) acc (by omega) k]
  have := escI_len (bt s (i : Int))
  rw [ih (i + 1) (acc ++ escI (bt s (i : Int))) k (by omega) (by omega) (by rw [List.length_append]; omega) (by omega), byt_get s i (by omega), List.flatMap_cons]
  simp only [List.append_assoc]
theorem quoted_i (s : ByteArray) (hs : s.size ≤ 10000000) (acc : List Int) (hl : acc.length ≤ 100000000) (k : Nat) (hk : s.size + 1 ≤ k) : impl_quoted.f k acc s = some (acc ++ quo s) := by
 unfold impl_quoted.f
 rw [if_pos (by omega), show (0 : Int) = ((0 : Nat) : Int) from rfl, qi_loop s (by omega) s.size 0 (acc ++ [34]) k (by omega) (by omega) (by rw [List.length_append]; simp; omega) (by omega), List.drop_zero]
 unfold quo
 simp
def Wr (w0 w : World) (acc x : List Int) (e : Ending) (w' : World) : Prop :=
 ∃ v', e = .returned v' ∧ w'.ownsRow w0.heap.size 5 1 v' (acc ++ x).length (nums .u8 (acc ++ x)) ∧ Below w0.heap.size w0 w' ∧ Lib.OthersKept 5 none w w'
theorem kept_others {w w' : World} {base : Nat} {v : Value} {n : Nat} {xs : List Value} (hown : w.ownsRow base 5 1 v n xs) (hm : ∀ k, k < w.heap.size → some k ≠ v.ownBlock → w'.heap[k]? = w.heap[k]?) : Lib.OthersKept 5 none w w' := by
 intro k o ho _ hne
 have hk := (Array.getElem?_eq_some_iff.1 ho).1
 rw [hm k hk (fun e => by
  obtain ⟨cells, hc⟩ := own_typed hown k e.symm
  rw [ho] at hc
  injection hc with hc
  exact hne _ _ hc), ho]
theorem grown_others {w w' : World} {base : Nat} {v : Value} {n : Nat} {xs : List Value} (hown : w.ownsRow base 5 1 v n xs) (hg : w.grownBy w' v.ownBlock) : Lib.OthersKept 5 none w w' :=
 kept_others hown (fun k hk hne => hg.block k hk hne)
theorem below_others {w w' : World} (hb : Below w.heap.size w w') : Lib.OthersKept 5 none w w' := by
 intro k o ho _ _
 rw [hb.block k (Array.getElem?_eq_some_iff.1 ho).1, ho]
theorem quotedW (w0 w : World) (hB : Below w0.heap.size w0 w) (v : Value) (acc : List Int) (s : ByteArray) (hown : w.ownsRow w0.heap.size 5 1 v acc.length (nums .u8 acc)) (hl : acc.length ≤ 100000000) (hs : s.size ≤ 10000000) :
  Calls Tryz.prog 110 #[v, .string s] w fun e w' => Wr w0 w acc (quo s) e w' := by
 refine (impl_quoted.calls (s.size + 1) (fun k => v.ownBlock = some k) v acc s (acc ++ quo s) w0 w hB (Kd.R_of_own hown (fun k hk => hk)) (quoted_i s hs acc hl _ (Nat.le_refl _))).mono ?_
 rintro e w' ⟨v', rfl, hr, hb, hk⟩
 exact ⟨v', rfl, Kd.own_of_R hr, hb, kept_others hown (fun k hk1 hne => hk.2 k hk1 (fun e => hne e.symm))⟩
end Go.Proofs.YtndagnkhjlgjgaaGreatDoor.Pf
