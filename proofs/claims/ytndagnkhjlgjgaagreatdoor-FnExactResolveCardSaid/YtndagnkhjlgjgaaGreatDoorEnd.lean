/- A tree as it lies in memory: objects sorted by key, the last member of a key; its canonical text. -/
import Derived.Test.YtndagnkhjlgjgaaGreatDoorCt
import GoSem.ClaimWide
import Derived.Lib.ParseIntB
import Derived.Lib.ItoaNum
namespace Go.Proofs.YtndagnkhjlgjgaaGreatDoor.Tree
open Go.RowKit YtndagnkhjlgjgaaGreatDoorW.PrintWords Str
set_option linter.unusedVariables false
set_option linter.unusedSimpArgs false
def keyB {α β : Type} (x : ByteArray × α) (y : ByteArray × β) : Bool := bytesBefore x.1.data.toList y.1.data.toList
def insK {α : Type} (x : ByteArray × α) : List (ByteArray × α) → List (ByteArray × α)
 | [] => [x]
 | y :: r => if keyB x y = true then x :: y :: r else y :: insK x r
def putK {α : Type} (k : ByteArray) (a : α) (l : List (ByteArray × α)) : List (ByteArray × α) := insK (k, a) (l.filter fun p => !(p.1.data.toList == k.data.toList))
def numV (x : ByteArray) : Int := match Lib.parseIntB 64 x.data.toList with
 | .ok v => v
 | .range => Lib.intSat 64 x.data.toList
 | _ => 0
def numT (n : Int) : ByteArray := ⟨(Lib.itoa n).toArray⟩
mutual
def norm : T → T
 | .num x => .num (numT (numV x))
 | .arr l => .arr (normL l)
 | .obj l => .obj (normM [] l)
 | .nul => .nul
 | .tru => .tru
 | .fls => .fls
 | .str b => .str b
def normL : List T → List T
 | [] => []
 | t :: l => norm t :: normL l
def normM (m : List (ByteArray × T)) : List (ByteArray × T) → List (ByteArray × T)
 | [] => m
 | (k, t) :: l => normM (putK k (norm t) m) l
end
mutual
def cts : T → List Int
 | .nul => [110, 117, 108, 108]
 | .tru => [116, 114, 117, 101]
 | .fls => [102, 97, 108, 115, 101]
 | .num x => byt x
 | .str b => quo b
 | .arr l => 91 :: ((ctsL l).drop 1 ++ [93])
 | .obj l => 123 :: ((ctsM l).drop 1 ++ [125])
def ctsL : List T → List Int
 | [] => []
 | t :: l => 44 :: (cts t ++ ctsL l)
def ctsM : List (ByteArray × T) → List Int
 | [] => []
 | (k, t) :: l => 44 :: (quo k ++ 58 :: (cts t ++ ctsM l))
end
mutual
theorem cts_range : ∀ t, ∀ x ∈ cts t, 0 ≤ x ∧ x ≤ 255
 | .nul, x, h => by simp [cts] at h; omega
 | .tru, x, h => by simp [cts] at h; omega
 | .fls, x, h => by simp [cts] at h; omega
 | .num y, x, h => byt_range y x (by simpa [cts] using h)
 | .str b, x, h => quo_range b x (by simpa [cts] using h)
 | .arr l, x, h => by
  rw [cts] at h
  simp only [List.mem_cons, List.mem_append, List.not_mem_nil, or_false] at h
  rcases h with rfl | h | rfl
  ·omega
  ·exact ctsL_range l x (List.mem_of_mem_drop h)
  ·omega
 | .obj l, x, h => by
  rw [cts] at h
  simp only [List.mem_cons, List.mem_append, List.not_mem_nil, or_false] at h
  rcases h with rfl | h | rfl
  ·omega
  ·exact ctsM_range l x (List.mem_of_mem_drop h)
  ·omega
theorem ctsL_range : ∀ l, ∀ x ∈ ctsL l, 0 ≤ x ∧ x ≤ 255
 | [], x, h => by simp [ctsL] at h
 | t :: l, x, h => by
  rw [ctsL] at h
  simp only [List.mem_cons, List.mem_append] at h
  rcases h with rfl | h | h
  ·omega
  ·exact cts_range t x h
  ·exact ctsL_range l x h
theorem ctsM_range : ∀ l, ∀ x ∈ ctsM l, 0 ≤ x ∧ x ≤ 255
 | [], x, h => by simp [ctsM] at h
 | (k, t) :: l, x, h => by
  rw [ctsM] at h
  simp only [List.mem_cons, List.mem_append] at h
  rcases h with rfl | h | rfl | h | h
  ·omega
  ·exact quo_range k x h
  ·omega
  ·exact cts_range t x h
  ·exact ctsM_range l x h
end
def ctx (t : T) : ByteArray := strOfNums (cts t)
theorem byt_ctx (t : T) : byt (ctx t) = cts t := byt_str _ (cts_range t)
mutual
def WF : T → Prop
 | .num x => ∃ n : Int, x = numT n
 | .str b => VU (byt b)
 | .arr l => WFL l
 | .obj l => WFM l ∧ l.Pairwise (fun a b => keyB a b = true)
 | _ => True
def WFL : List T → Prop
 | [] => True
 | t :: l => WF t ∧ WFL l
def WFM : List (ByteArray × T) → Prop
 | [] => True
 | (k, t) :: l => VU (byt k) ∧ WF t ∧ WFM l
end
def strX (s : ByteArray) : Nat → Nat → List Int → List Int × Nat × Bool
 | 0, p, _ => ([], p, false)
 | d + 1, p, acc =>
  if p < s.size then
   if bt s (p : Int) = 34 then (acc, p + 1, true)
   else match pieceF s p with
    | none => ([], p, false)
    | some (b, q) => strX s d q (acc ++ b)
  else (acc, p + 1, false)
def strXF (s : ByteArray) (p : Nat) : List Int × Nat × Bool := if p < s.size ∧ bt s (p : Int) = 34 then strX s (s.size - p) (p + 1) [] else ([], p, false)
theorem strX_strL (s : ByteArray) : ∀ (d p : Nat) (acc : List Int), s.size < p + d → (strL s d p).map (fun r => (acc ++ r.1, r.2)) = if (strX s d p acc).2.2 = true then some ((strX s d p acc).1, (strX s d p acc).2.1) else none := by
 intro d
 induction d with
 | zero => intro p acc h; rfl
 | succ d ih =>
  intro p acc h
  rw [strL, strX]
  by_cases hp : p < s.size
  ·rw [if_pos hp, if_pos hp]
   by_cases hq : bt s (p : Int) = 34
   ·rw [if_pos hq, if_pos hq]
    simp
   ·rw [if_neg hq, if_neg hq]
    cases hx : pieceF s p with
    | none => simp
    | some bq =>
     obtain ⟨b, q⟩ := bq
     have hle := pieceF_le hp hx
     have h2 := ih q (acc ++ b) (by omega)
     simp only
     rw [← h2]
     cases strL s d q <;> simp
  ·rw [if_neg hp, if_neg hp]
   simp
theorem strXF_strF (s : ByteArray) (p : Nat) : strF s p = if (strXF s p).2.2 = true then some ((strXF s p).1, (strXF s p).2.1) else none := by
 unfold strF strXF
 by_cases h : p < s.size ∧ bt s (p : Int) = 34
 ·rw [if_pos h, if_pos h]
  have h2 := strX_strL s (s.size - p) (p + 1) [] (by omega)
  rw [← h2]
  cases strL s (s.size - p) (p + 1) <;> simp
 ·rw [if_neg h, if_neg h]
  simp
theorem strX_le (s : ByteArray) : ∀ (d p : Nat) (acc : List Int), p ≤ s.size → p ≤ (strX s d p acc).2.1 ∧ (strX s d p acc).2.1 ≤ s.size + 1 := by
 intro d
 induction d with
 | zero => intro p acc h; rw [strX]; exact ⟨Nat.le_refl _, by show p ≤ _; omega⟩
 | succ d ih =>
  intro p acc h
  rw [strX]
  by_cases hp : p < s.size
  ·rw [if_pos hp]
   by_cases hq : bt s (p : Int) = 34
   ·rw [if_pos hq]; exact ⟨Nat.le_succ _, by show p + 1 ≤ _; omega⟩
   ·rw [if_neg hq]
    cases hx : pieceF s p with
    | none => exact ⟨Nat.le_refl _, by show p ≤ _; omega⟩
    | some bq =>
     obtain ⟨b, q⟩ := bq
     have h1 := pieceF_le hp hx
     have h2 := ih q (acc ++ b) h1.2.1
     exact ⟨Nat.le_trans (show p ≤ q by omega) h2.1, h2.2⟩
  ·rw [if_neg hp]; exact ⟨Nat.le_succ _, by show p + 1 ≤ _; omega⟩
theorem strXF_gt (s : ByteArray) (p : Nat) (h : p < s.size ∧ bt s (p : Int) = 34) : p + 1 ≤ (strXF s p).2.1 := by
 unfold strXF
 rw [if_pos h]
 exact (strX_le s _ _ _ (by omega)).1
theorem strXF_quo (b : ByteArray) (hb : VU (byt b)) (s : ByteArray) (p : Nat) (e : List Int) (h : At s p (quo b ++ e)) : strXF s p = (byt b, p + (quo b).length, true) := by
 have h1 := strF_quo b hb s p e h
 rw [strXF_strF] at h1
 generalize strXF s p = x at h1
 obtain ⟨x1, x2, x3⟩ := x
 cases x3 with
 | false => simp at h1
 | true =>
  simp only [if_true, Option.some.injEq, Prod.mk.injEq] at h1
  rw [h1.1, h1.2]
def isT (s : ByteArray) (i : Nat) : Bool := decide (i = s.size) || decide (bt s (i : Int) = 44) || decide (bt s (i : Int) = 93) || decide (bt s (i : Int) = 125)
def nxt (s : ByteArray) (i : Nat) : Nat := if bt s (i : Int) = 34 then (strXF s i).2.1 else i + 1
def opn (c : Int) (o : Int) : Int := (if c = 91 ∨ c = 123 then o + 1 else o) - (if c = 93 ∨ c = 125 then 1 else 0)
def endF (s : ByteArray) : Nat → Nat → Int → Nat
 | 0, i, _ => i
 | k + 1, i, o =>
  if i < s.size then
   if opn (bt s (i : Int)) o = 0 ∧ isT s (nxt s i) = true then nxt s i
   else endF s k (nxt s i) (opn (bt s (i : Int)) o)
  else i
theorem nxt_gt (s : ByteArray) (i : Nat) (h : i < s.size) : i + 1 ≤ nxt s i := by
 unfold nxt
 by_cases c : bt s (i : Int) = 34
 ·rw [if_pos c]; exact strXF_gt s i ⟨h, c⟩
 ·rw [if_neg c]; exact Nat.le_refl _
theorem endF_more (s : ByteArray) : ∀ (j k i : Nat) (o : Int), s.size < i + j → s.size < i + k → endF s j i o = endF s k i o := by
 intro j
 induction j with
 | zero =>
  intro k i o h1 h2
  cases k with
  | zero => rfl
  | succ k => rw [endF, endF, if_neg (by omega)]
 | succ j ih =>
  intro k i o h1 h2
  cases k with
  | zero => rw [endF, endF, if_neg (by omega)]
  | succ k =>
   rw [endF, endF]
   by_cases hi : i < s.size
   ·rw [if_pos hi, if_pos hi]
    split
    ·rfl
    ·have := nxt_gt s i hi
     exact ih k _ _ (by omega) (by omega)
   ·rw [if_neg hi, if_neg hi]
def endG (s : ByteArray) (i : Nat) (o : Int) : Nat := endF s (s.size + 1 - i) i o
theorem endG_at (s : ByteArray) (i : Nat) (o : Int) (h : i < s.size) : endG s i o = if opn (bt s (i : Int)) o = 0 ∧ isT s (nxt s i) = true then nxt s i else endG s (nxt s i) (opn (bt s (i : Int)) o) := by
 unfold endG
 rw [show s.size + 1 - i = (s.size - i) + 1 by omega, endF, if_pos h]
 split
 ·rfl
 ·have := nxt_gt s i h
  by_cases h2 : nxt s i ≤ s.size
  ·exact endF_more s _ _ _ _ (by omega) (by omega)
  ·rw [show s.size + 1 - nxt s i = 0 by omega]
   obtain ⟨k, hk⟩ : ∃ k, s.size - i = k := ⟨_, rfl⟩
   rw [hk]
   cases k with
   | zero => rfl
   | succ k => rw [endF, endF, if_neg (by omega)]
def plainB (c : Int) : Prop := c ≠ 34 ∧ c ≠ 91 ∧ c ≠ 123 ∧ c ≠ 93 ∧ c ≠ 125
theorem opn_plain {c : Int} (h : plainB c) (o : Int) : opn c o = o := by
 unfold opn
 obtain ⟨h1, h2, h3, h4, h5⟩ := h
 rw [if_neg (by omega), if_neg (by omega)]
 omega
theorem end_plain (s : ByteArray) (o : Int) (ho : o ≠ 0) : ∀ (l : List Int) (i : Nat) (e : List Int), (∀ c ∈ l, plainB c) → At s i (l ++ e) → endG s i o = endG s (i + l.length) o
 | [], i, e, _, _ => rfl
 | c :: l, i, e, hl, h => by
  obtain ⟨h1, h2, h3⟩ := h
  have hc := hl c (by simp)
  rw [endG_at s i o h1, h2, opn_plain hc, if_neg (fun hh => ho hh.1)]
  have hn : nxt s i = i + 1 := by unfold nxt; rw [h2, if_neg hc.1]
  rw [hn, end_plain s o ho l (i + 1) e (fun x hx => hl x (by simp [hx])) h3, List.length_cons]
  congr 1
  omega
theorem end_quo (s : ByteArray) (o : Int) (ho : o ≠ 0) (b : ByteArray) (hb : VU (byt b)) (i : Nat) (e : List Int) (h : At s i (quo b ++ e)) : endG s i o = endG s (i + (quo b).length) o := by
 have hx := strXF_quo b hb s i e h
 have h0 := h
 rw [quo_app] at h0
 obtain ⟨h1, h2, _⟩ := h0
 have hn : nxt s i = i + (quo b).length := by unfold nxt; rw [h2, if_pos rfl, hx]
 rw [endG_at s i o h1, h2, show opn 34 o = o by unfold opn; rw [if_neg (by omega), if_neg (by omega)]; omega, if_neg (fun hh => ho hh.1), hn]
theorem end_open (s : ByteArray) (o : Int) (ho : o + 1 ≠ 0) (c : Int) (hc : c = 91 ∨ c = 123) (i : Nat) (h1 : i < s.size) (h2 : bt s (i : Int) = c) : endG s i o = endG s (i + 1) (o + 1) := by
 have ho2 : opn c o = o + 1 := by unfold opn; rw [if_pos hc, if_neg (by omega)]; omega
 have hn : nxt s i = i + 1 := by unfold nxt; rw [h2, if_neg (by omega)]
 rw [endG_at s i o h1, h2, ho2, if_neg (fun hh => ho hh.1), hn]
theorem end_close (s : ByteArray) (o : Int) (ho : o ≠ 0) (c : Int) (hc : c = 93 ∨ c = 125) (i : Nat) (h1 : i < s.size) (h2 : bt s (i : Int) = c) : endG s i (o + 1) = endG s (i + 1) o := by
 have ho2 : opn c (o + 1) = o := by unfold opn; rw [if_neg (by omega), if_pos hc]; omega
 have hn : nxt s i = i + 1 := by unfold nxt; rw [h2, if_neg (by omega)]
 rw [endG_at s i _ h1, h2, ho2, if_neg (fun hh => ho hh.1), hn]
theorem plain_44 : plainB 44 := ⟨by decide, by decide, by decide, by decide, by decide⟩
theorem plain_58 : plainB 58 := ⟨by decide, by decide, by decide, by decide, by decide⟩
theorem dig_range : ∀ (n : Nat), ∀ c ∈ Lib.decDigits n, 48 ≤ c.toNat ∧ c.toNat ≤ 57 := by
 intro n
 induction n using Nat.strongRecOn with
 | _ n ih =>
  intro c hc
  rw [Lib.decDigits] at hc
  split at hc
  ·rename_i h
   simp only [List.mem_cons, List.not_mem_nil, or_false] at hc
   subst hc
   rw [UInt8.toNat_ofNat']
   omega
  ·rename_i h
   rcases List.mem_append.1 hc with hc | hc
   ·exact ih (n / 10) (by omega) c hc
   ·simp only [List.mem_cons, List.not_mem_nil, or_false] at hc
    subst hc
    rw [UInt8.toNat_ofNat']
    omega
theorem numT_bytes (n : Int) : ∀ c ∈ byt (numT n), c = 45 ∨ (48 ≤ c ∧ c ≤ 57) := by
 intro c hc
 unfold byt numT Lib.itoa at hc
 obtain ⟨x, hx, rfl⟩ := List.mem_map.1 hc
 have hx : x ∈ (if n < 0 then (45 : UInt8) :: Lib.decDigits n.natAbs else Lib.decDigits n.toNat) := by simpa using hx
 split at hx
 ·rcases List.mem_cons.1 hx with rfl | hx
  ·exact .inl rfl
  ·have := dig_range _ x hx
   exact .inr (by omega)
 ·have := dig_range _ x hx
  exact .inr (by omega)
theorem decDigits_ne (n : Nat) : Lib.decDigits n ≠ [] := by
 rw [Lib.decDigits]
 split <;> simp
theorem numT_ne (n : Int) : byt (numT n) ≠ [] := by
 unfold byt numT Lib.itoa
 split
 ·simp
 ·simpa using decDigits_ne _
theorem numT_plain (n : Int) : ∀ c ∈ byt (numT n), plainB c := by
 intro c hc
 rcases numT_bytes n c hc with rfl | h
 ·exact ⟨by decide, by decide, by decide, by decide, by decide⟩
 ·exact ⟨by omega, by omega, by omega, by omega, by omega⟩
theorem ctsL_drop (t : T) (l : List T) : (ctsL (t :: l)).drop 1 = cts t ++ ctsL l := by rw [ctsL]; rfl
theorem ctsM_drop (k : ByteArray) (t : T) (l : List (ByteArray × T)) : (ctsM ((k, t) :: l)).drop 1 = quo k ++ 58 :: (cts t ++ ctsM l) := by rw [ctsM]; rfl
mutual
theorem end_in (s : ByteArray) : ∀ (t : T), WF t → ∀ (o : Int), 1 ≤ o → ∀ (i : Nat) (e : List Int), At s i (cts t ++ e) → endG s i o = endG s (i + (cts t).length) o
 | .nul, _, o, ho, i, e, h => by
  rw [cts] at h ⊢
  exact end_plain s o (by omega) _ i e (by intro c hc; simp at hc; unfold plainB; omega) h
 | .tru, _, o, ho, i, e, h => by
  rw [cts] at h ⊢
  exact end_plain s o (by omega) _ i e (by intro c hc; simp at hc; unfold plainB; omega) h
 | .fls, _, o, ho, i, e, h => by
  rw [cts] at h ⊢
  exact end_plain s o (by omega) _ i e (by intro c hc; simp at hc; unfold plainB; omega) h
 | .num x, hw, o, ho, i, e, h => by
  rw [cts] at h ⊢
  rw [WF] at hw
  obtain ⟨n, rfl⟩ := hw
  exact end_plain s o (by omega) _ i e (numT_plain n) h
 | .str b, hw, o, ho, i, e, h => by
  rw [cts] at h ⊢
  rw [WF] at hw
  exact end_quo s o (by omega) b hw i e h
 | .arr l, hw, o, ho, i, e, h => by
  rw [cts] at h ⊢
  rw [WF] at hw
  obtain ⟨h1, h2, h3⟩ := h
  rw [end_open s o (by omega) 91 (.inl rfl) i h1 h2]
  match l, hw, h3 with
  | [], _, h3 =>
   simp only [ctsL, List.drop_nil, List.nil_append, List.cons_append] at h3
   rw [end_close s o (by omega) 93 (.inl rfl) (i + 1) h3.1 h3.2.1]
   simp [ctsL]
  | t :: l, hw, h3 =>
   rw [WFL] at hw
   replace h3 : At s (i + 1) (cts t ++ (ctsL l ++ (93 :: e))) := by
    rw [ctsL_drop] at h3
    simpa [List.append_assoc] using h3
   rw [ctsL_drop, end_in s t hw.1 (o + 1) (by omega) (i + 1) _ h3]
   have h4 := (At.app h3).2
   rw [end_inL s l hw.2 (o + 1) (by omega) _ _ h4]
   have h5 := (At.app h4).2
   rw [end_close s o (by omega) 93 (.inl rfl) _ h5.1 h5.2.1]
   congr 1
   simp only [List.length_cons, List.length_append, List.length_nil]
   omega
 | .obj l, hw, o, ho, i, e, h => by
  rw [cts] at h ⊢
  rw [WF] at hw
  obtain ⟨hw, _⟩ := hw
  obtain ⟨h1, h2, h3⟩ := h
  rw [end_open s o (by omega) 123 (.inr rfl) i h1 h2]
  match l, hw, h3 with
  | [], _, h3 =>
   simp only [ctsM, List.drop_nil, List.nil_append, List.cons_append] at h3
   rw [end_close s o (by omega) 125 (.inr rfl) (i + 1) h3.1 h3.2.1]
   simp [ctsM]
  | (k, t) :: l, hw, h3 =>
   rw [WFM] at hw
   obtain ⟨hk, ht, hl⟩ := hw
   replace h3 : At s (i + 1) (quo k ++ (58 :: (cts t ++ (ctsM l ++ (125 :: e))))) := by
    rw [ctsM_drop] at h3
    simpa [List.append_assoc] using h3
   rw [ctsM_drop]
   rw [end_quo s (o + 1) (by omega) k hk (i + 1) _ h3]
   have h4 := (At.app h3).2
   rw [end_plain s (o + 1) (by omega) [58] _ _ (by intro c hc; simp at hc; subst hc; exact plain_58) (by exact h4)]
   have h5 := h4.2.2
   simp only [List.length_cons, List.length_nil]
   rw [Nat.zero_add, end_in s t ht (o + 1) (by omega) _ _ h5]
   have h6 := (At.app h5).2
   rw [end_inM s l hl (o + 1) (by omega) _ _ h6]
   have h7 := (At.app h6).2
   rw [end_close s o (by omega) 125 (.inr rfl) _ h7.1 h7.2.1]
   congr 1
   simp only [List.length_cons, List.length_append, List.length_nil]
   omega
theorem end_inL (s : ByteArray) : ∀ (l : List T), WFL l → ∀ (o : Int), 1 ≤ o → ∀ (i : Nat) (e : List Int), At s i (ctsL l ++ e) → endG s i o = endG s (i + (ctsL l).length) o
 | [], _, o, ho, i, e, h => by simp [ctsL]
 | t :: l, hw, o, ho, i, e, h => by
  rw [WFL] at hw
  rw [ctsL] at h ⊢
  simp only [List.append_assoc, List.cons_append] at h
  rw [end_plain s o (by omega) [44] i _ (by intro c hc; simp at hc; subst hc; exact plain_44) (by exact h)]
  have h5 := h.2.2
  simp only [List.length_cons, List.length_nil]
  rw [Nat.zero_add, end_in s t hw.1 o ho _ _ h5]
  have h6 := (At.app h5).2
  rw [end_inL s l hw.2 o ho _ _ h6]
  congr 1
  simp only [List.length_append]
  omega
theorem end_inM (s : ByteArray) : ∀ (l : List (ByteArray × T)), WFM l → ∀ (o : Int), 1 ≤ o → ∀ (i : Nat) (e : List Int), At s i (ctsM l ++ e) → endG s i o = endG s (i + (ctsM l).length) o
 | [], _, o, ho, i, e, h => by simp [ctsM]
 | (k, t) :: l, hw, o, ho, i, e, h => by
  rw [WFM] at hw
  obtain ⟨hk, ht, hl⟩ := hw
  rw [ctsM] at h ⊢
  simp only [List.append_assoc, List.cons_append] at h
  rw [end_plain s o (by omega) [44] i _ (by intro c hc; simp at hc; subst hc; exact plain_44) (by exact h)]
  have h3 := h.2.2
  simp only [List.length_cons, List.length_nil]
  rw [Nat.zero_add, end_quo s o (by omega) k hk _ _ h3]
  have h4 := (At.app h3).2
  rw [end_plain s o (by omega) [58] _ _ (by intro c hc; simp at hc; subst hc; exact plain_58) (by exact h4)]
  have h5 := h4.2.2
  simp only [List.length_cons, List.length_nil]
  rw [Nat.zero_add, end_in s t ht o ho _ _ h5]
  have h6 := (At.app h5).2
  rw [end_inM s l hl o ho _ _ h6]
  congr 1
  simp only [List.length_append, List.length_cons]
  omega
end
theorem end_plain0 (s : ByteArray) : ∀ (l : List Int) (i : Nat) (e : List Int), l ≠ [] → (∀ c ∈ l, plainB c ∧ c ≠ 44) → At s i (l ++ e) → isT s (i + l.length) = true → endG s i 0 = i + l.length
 | [], i, e, hne, _, _, _ => absurd rfl hne
 | [c], i, e, hne, hl, h, ht => by
  obtain ⟨h1, h2, h3⟩ := h
  have hc := hl c (by simp)
  have hn : nxt s i = i + 1 := by unfold nxt; rw [h2, if_neg hc.1.1]
  rw [endG_at s i 0 h1, h2, opn_plain hc.1, hn]
  rw [if_pos ⟨rfl, ht⟩]
  rfl
 | c :: d :: l, i, e, hne, hl, h, ht => by
  obtain ⟨h1, h2, h3⟩ := h
  have hc := hl c (by simp)
  have hd := hl d (by simp)
  have hn : nxt s i = i + 1 := by unfold nxt; rw [h2, if_neg hc.1.1]
  have h3' := h3
  obtain ⟨g1, g2, g3⟩ := h3
  have hno : isT s (i + 1) = false := by
   unfold isT
   rw [g2]
   have a1 : i + 1 ≠ s.size := by omega
   have := hd.2
   obtain ⟨b1, b2, b3, b4, b5⟩ := hd.1
   simp [a1, hd.2, b4, b5]
  rw [endG_at s i 0 h1, h2, opn_plain hc.1, hn, if_neg (by rw [hno]; simp), end_plain0 s (d :: l) (i + 1) e (by simp) (fun x hx => hl x (by simp only [List.mem_cons] at hx ⊢; exact .inr hx)) h3' (by rw [← ht]; congr 1; simp only [List.length_cons]; omega)]
  simp only [List.length_cons]
  omega
theorem end_out (s : ByteArray) (t : T) (hw : WF t) (i : Nat) (e : List Int) (h : At s i (cts t ++ e)) (ht : isT s (i + (cts t).length) = true) : endG s i 0 = i + (cts t).length := by
 match t, hw, h, ht with
 | .nul, _, h, ht =>
  rw [cts] at h ht ⊢
  exact end_plain0 s _ i e (by simp) (by intro c hc; simp at hc; unfold plainB; omega) h ht
 | .tru, _, h, ht =>
  rw [cts] at h ht ⊢
  exact end_plain0 s _ i e (by simp) (by intro c hc; simp at hc; unfold plainB; omega) h ht
 | .fls, _, h, ht =>
  rw [cts] at h ht ⊢
  exact end_plain0 s _ i e (by simp) (by intro c hc; simp at hc; unfold plainB; omega) h ht
 | .num x, hw, h, ht =>
  rw [cts] at h ht ⊢
  rw [WF] at hw
  obtain ⟨n, rfl⟩ := hw
  exact end_plain0 s _ i e (numT_ne n) (fun c hc => ⟨numT_plain n c hc, by rcases numT_bytes n c hc with rfl | h <;> omega⟩) h ht
 | .str b, hw, h, ht =>
  rw [cts] at h ht ⊢
  rw [WF] at hw
  have hx := strXF_quo b hw s i e h
  have h0 := h
  rw [quo_app] at h0
  obtain ⟨h1, h2, _⟩ := h0
  have hn : nxt s i = i + (quo b).length := by unfold nxt; rw [h2, if_pos rfl, hx]
  rw [endG_at s i 0 h1, h2, hn, if_pos ⟨by decide, ht⟩]
 | .arr l, hw, h, ht =>
  rw [cts] at h ht ⊢
  rw [WF] at hw
  obtain ⟨h1, h2, h3⟩ := h
  rw [end_open s 0 (by omega) 91 (.inl rfl) i h1 h2]
  have close : ∀ j, j + 1 = i + (91 :: ((ctsL l).drop 1 ++ [93])).length → j < s.size → bt s (j : Int) = 93 → endG s j (0 + 1) = i + (91 :: ((ctsL l).drop 1 ++ [93])).length := by
   intro j hj g1 g2
   have hn : nxt s j = j + 1 := by unfold nxt; rw [g2, if_neg (by omega)]
   rw [endG_at s j _ g1, g2, hn, hj, if_pos ⟨by decide, ht⟩]
  match l, hw, h3, close with
  | [], _, h3, close =>
   simp only [ctsL, List.drop_nil, List.nil_append, List.cons_append] at h3
   exact close (i + 1) (by simp [ctsL]) h3.1 h3.2.1
  | t :: l, hw, h3, close =>
   rw [WFL] at hw
   replace h3 : At s (i + 1) (cts t ++ (ctsL l ++ (93 :: e))) := by
    rw [ctsL_drop] at h3
    simpa [List.append_assoc] using h3
   rw [end_in s t hw.1 (0 + 1) (by omega) (i + 1) _ h3]
   have h4 := (At.app h3).2
   rw [end_inL s l hw.2 (0 + 1) (by omega) _ _ h4]
   have h5 := (At.app h4).2
   refine close _ ?_ h5.1 h5.2.1
   rw [ctsL_drop]
   simp only [List.length_cons, List.length_append, List.length_nil]
   omega
 | .obj l, hw, h, ht =>
  rw [cts] at h ht ⊢
  rw [WF] at hw
  obtain ⟨hw, _⟩ := hw
  obtain ⟨h1, h2, h3⟩ := h
  rw [end_open s 0 (by omega) 123 (.inr rfl) i h1 h2]
  have close : ∀ j, j + 1 = i + (123 :: ((ctsM l).drop 1 ++ [125])).length → j < s.size → bt s (j : Int) = 125 → endG s j (0 + 1) = i + (123 :: ((ctsM l).drop 1 ++ [125])).length := by
   intro j hj g1 g2
   have hn : nxt s j = j + 1 := by unfold nxt; rw [g2, if_neg (by omega)]
   rw [endG_at s j _ g1, g2, hn, hj, if_pos ⟨by decide, ht⟩]
  match l, hw, h3, close with
  | [], _, h3, close =>
   simp only [ctsM, List.drop_nil, List.nil_append, List.cons_append] at h3
   exact close (i + 1) (by simp [ctsM]) h3.1 h3.2.1
  | (k, t) :: l, hw, h3, close =>
   rw [WFM] at hw
   obtain ⟨hk, ht2, hl⟩ := hw
   replace h3 : At s (i + 1) (quo k ++ (58 :: (cts t ++ (ctsM l ++ (125 :: e))))) := by
    rw [ctsM_drop] at h3
    simpa [List.append_assoc] using h3
   rw [end_quo s (0 + 1) (by omega) k hk (i + 1) _ h3]
   have h4 := (At.app h3).2
   rw [end_plain s (0 + 1) (by omega) [58] _ _ (by intro c hc; simp at hc; subst hc; exact plain_58) (by exact h4)]
   have h5 := h4.2.2
   simp only [List.length_cons, List.length_nil]
   rw [Nat.zero_add, end_in s t ht2 (0 + 1) (by omega) _ _ h5]
   have h6 := (At.app h5).2
   rw [end_inM s l hl (0 + 1) (by omega) _ _ h6]
   have h7 := (At.app h6).2
   refine close _ ?_ h7.1 h7.2.1
   rw [ctsM_drop]
   simp only [List.length_cons, List.length_append, List.length_nil]
   omega
end Go.Proofs.YtndagnkhjlgjgaaGreatDoor.Tree
