/- What a call may have written: told by sets of blocks. -/
import Derived.WalkKit
import Derived.LoopTactic
import Derived.Lib.Hide
import Derived.Test.YtndagnkhjlgjgaaGreatDoorEnd
namespace Go.Proofs.YtndagnkhjlgjgaaGreatDoor.Tchs
open Go Go.RowKit YtndagnkhjlgjgaaGreatDoorW.PrintWords
set_option linter.unusedVariables false
structure Tch (w w' : World) (S : Nat → Prop) : Prop where
 os : w'.os = w.os
 tape : w'.tape = w.tape
 output : w'.output = w.output
 kept : Kept w w' S
theorem Tch.refl (w : World) (S : Nat → Prop) : Tch w w S := ⟨rfl, rfl, rfl, Kept.refl w S⟩
theorem Tch.then_ {w w1 w2 : World} {S S2 : Nat → Prop} (h : Tch w w1 S) (k : Tch w1 w2 S2) (hs : ∀ k, S2 k → S k ∨ w.heap.size ≤ k) : Tch w w2 S :=
 ⟨k.os.trans h.os, k.tape.trans h.tape, k.output.trans h.output, h.kept.then_ k.kept hs⟩
theorem Tch.below {w w1 w2 : World} {S : Nat → Prop} (h : Tch w w1 S) (k : Below w1.heap.size w1 w2) : Tch w w2 S :=
 ⟨k.os.trans h.os, k.tape.trans h.tape, k.output.trans h.output, h.kept.below k⟩
theorem Tch.setCell {w w1 : World} {S : Nat → Prop} (h : Tch w w1 S) {p : Addr} (hp : S p.block ∨ w.heap.size ≤ p.block) (u : Value) : Tch w (w1.setCell p u) S :=
 ⟨h.os, h.tape, h.output, h.kept.setCell hp u⟩
theorem Tch.alloc {w w1 : World} {S : Nat → Prop} (h : Tch w w1 S) (o : Obj) : Tch w (w1.alloc o) S := h.below (below_alloc (Below.refl _ _) o)
theorem Tch.mono {w w1 : World} {S S' : Nat → Prop} (h : Tch w w1 S) (hs : ∀ k, S k → S' k) : Tch w w1 S' := ⟨h.os, h.tape, h.output, h.kept.mono hs⟩
theorem Tch.to_below {w w1 : World} {S : Nat → Prop} {B : Nat} (h : Tch w w1 S) (hB : B ≤ w.heap.size) (hS : ∀ k, S k → B ≤ k) : Below B w w1 :=
 ⟨h.os, h.tape, h.output, h.kept.1, fun k hk => h.kept.2 k (by omega) (fun hs => by have := hS k hs; omega)⟩
theorem Tch.of_below {w w1 : World} (h : Below w.heap.size w w1) (S : Nat → Prop) : Tch w w1 S := ⟨h.os, h.tape, h.output, Kept.of_below h S⟩
theorem Tch.drew {w w1 : World} {S : Nat → Prop} (h : Tch w w1 S) : Tch w w1.drew S := h.below (below_drew (Below.refl _ _))
theorem Tch.drewN {w w1 : World} {S : Nat → Prop} (h : Tch w w1 S) (m : Nat) : Tch w (w1.drewN m) S := h.below (pw_below_drewN (Below.refl _ _) m)
theorem Tch.grown {w w1 w2 : World} {S : Nat → Prop} {row : Option Nat} (h : Tch w w1 S) (hg : w1.grownBy w2 row) (hr : ∀ k, row = some k → S k ∨ w.heap.size ≤ k) : Tch w w2 S :=
 ⟨hg.os.trans h.os, hg.tape.trans h.tape, hg.output.trans h.output, Kept.of_grown hg h.kept hr⟩
end Go.Proofs.YtndagnkhjlgjgaaGreatDoor.Tchs
namespace Go.Proofs.YtndagnkhjlgjgaaGreatDoor.Tree
open Go.RowKit YtndagnkhjlgjgaaGreatDoorW.PrintWords Str
set_option linter.unusedVariables false
set_option linter.unusedSimpArgs false
def mosF (s : ByteArray) : Nat → Nat → Int → Int → Int
 | 0, _, _, m => m
 | k + 1, i, o, m => if i < s.size then mosF s k (nxt s i) (opn (bt s (i : Int)) o) (max m (opn (bt s (i : Int)) o)) else m
theorem mosF_more (s : ByteArray) : ∀ (j k i : Nat) (o m : Int), s.size < i + j → s.size < i + k → mosF s j i o m = mosF s k i o m := by
 intro j
 induction j with
 | zero =>
  intro k i o m h1 h2
  cases k with
  | zero => rfl
  | succ k => rw [mosF, mosF, if_neg (by omega)]
 | succ j ih =>
  intro k i o m h1 h2
  cases k with
  | zero => rw [mosF, mosF, if_neg (by omega)]
  | succ k =>
   rw [mosF, mosF]
   by_cases hi : i < s.size
   ·rw [if_pos hi, if_pos hi]
    have := nxt_gt s i hi
    exact ih k _ _ _ (by omega) (by omega)
   ·rw [if_neg hi, if_neg hi]
def mosG (s : ByteArray) (i : Nat) (o m : Int) : Int := mosF s (s.size + 1 - i) i o m
theorem mosG_at (s : ByteArray) (i : Nat) (o m : Int) (h : i < s.size) : mosG s i o m = mosG s (nxt s i) (opn (bt s (i : Int)) o) (max m (opn (bt s (i : Int)) o)) := by
 unfold mosG
 rw [show s.size + 1 - i = (s.size - i) + 1 by omega, mosF, if_pos h]
 have := nxt_gt s i h
 by_cases h2 : nxt s i ≤ s.size
 ·exact mosF_more s _ _ _ _ _ (by omega) (by omega)
 ·rw [show s.size + 1 - nxt s i = 0 by omega]
  obtain ⟨k, hk⟩ : ∃ k, s.size - i = k := ⟨_, rfl⟩
  rw [hk]
  cases k with
  | zero => rfl
  | succ k => rw [mosF, mosF, if_neg (by omega)]
theorem mosG_end (s : ByteArray) (i : Nat) (o m : Int) (h : s.size ≤ i) : mosG s i o m = m := by
 unfold mosG
 cases hk : s.size + 1 - i with
 | zero => rfl
 | succ k => rw [mosF, if_neg (by omega)]
mutual
def brk : T → Nat
 | .arr l => brkL l + 1
 | .obj l => brkM l + 1
 | _ => 0
def brkL : List T → Nat
 | [] => 0
 | t :: l => max (brk t) (brkL l)
def brkM : List (ByteArray × T) → Nat
 | [] => 0
 | (_, t) :: l => max (brk t) (brkM l)
end
mutual
theorem brk_le : ∀ t, brk t ≤ dep t
 | .nul => by rw [brk, dep] <;> simp
 | .tru => by rw [brk, dep] <;> simp
 | .fls => by rw [brk, dep] <;> simp
 | .num x => by rw [brk, dep] <;> simp
 | .str b => by rw [brk, dep] <;> simp
 | .arr l => by rw [brk, dep]; have := brkL_le l; omega
 | .obj l => by rw [brk, dep]; have := brkM_le l; omega
theorem brkL_le : ∀ l, brkL l ≤ depL l
 | [] => by rw [brkL, depL]; omega
 | t :: l => by rw [brkL, depL]; have := brkL_le l; have := brk_le t; omega
theorem brkM_le : ∀ l, brkM l ≤ depM l
 | [] => by rw [brkM, depM]; omega
 | (k, t) :: l => by rw [brkM, depM]; have := brkM_le l; have := brk_le t; omega
end
theorem mos_plain (s : ByteArray) (o m : Int) (ho : o ≤ m) : ∀ (l : List Int) (i : Nat) (e : List Int), (∀ c ∈ l, plainB c) → At s i (l ++ e) → mosG s i o m = mosG s (i + l.length) o m
 | [], i, e, _, _ => rfl
 | c :: l, i, e, hl, h => by
  obtain ⟨h1, h2, h3⟩ := h
  have hc := hl c (by simp)
  have hn : nxt s i = i + 1 := by unfold nxt; rw [h2, if_neg hc.1]
  rw [mosG_at s i o m h1, h2, opn_plain hc, hn, show max m o = m by omega, mos_plain s o m ho l (i + 1) e (fun x hx => hl x (by simp [hx])) h3, List.length_cons]
  congr 1
  omega
theorem mos_quo (s : ByteArray) (o m : Int) (ho : o ≤ m) (b : ByteArray) (hb : VU (byt b)) (i : Nat) (e : List Int) (h : At s i (quo b ++ e)) : mosG s i o m = mosG s (i + (quo b).length) o m := by
 have hx := strXF_quo b hb s i e h
 have h0 := h
 rw [quo_app] at h0
 obtain ⟨h1, h2, _⟩ := h0
 have hn : nxt s i = i + (quo b).length := by unfold nxt; rw [h2, if_pos rfl, hx]
 rw [mosG_at s i o m h1, h2, show opn 34 o = o by unfold opn; rw [if_neg (by omega), if_neg (by omega)]; omega, show max m o = m by omega, hn]
theorem mos_open (s : ByteArray) (o m : Int) (c : Int) (hc : c = 91 ∨ c = 123) (i : Nat) (h1 : i < s.size) (h2 : bt s (i : Int) = c) : mosG s i o m = mosG s (i + 1) (o + 1) (max m (o + 1)) := by
 have ho2 : opn c o = o + 1 := by unfold opn; rw [if_pos hc, if_neg (by omega)]; omega
 have hn : nxt s i = i + 1 := by unfold nxt; rw [h2, if_neg (by omega)]
 rw [mosG_at s i o m h1, h2, ho2, hn]
theorem mos_close (s : ByteArray) (o m : Int) (ho : o ≤ m) (c : Int) (hc : c = 93 ∨ c = 125) (i : Nat) (h1 : i < s.size) (h2 : bt s (i : Int) = c) : mosG s i (o + 1) m = mosG s (i + 1) o m := by
 have ho2 : opn c (o + 1) = o := by unfold opn; rw [if_neg (by omega), if_pos hc]; omega
 have hn : nxt s i = i + 1 := by unfold nxt; rw [h2, if_neg (by omega)]
 rw [mosG_at s i _ m h1, h2, ho2, hn, show max m o = m by omega]
mutual
theorem mos_in (s : ByteArray) : ∀ (t : T), WF t → ∀ (o m : Int), o ≤ m → ∀ (i : Nat) (e : List Int), At s i (cts t ++ e) → mosG s i o m = mosG s (i + (cts t).length) o (max m (o + brk t))
 | .nul, _, o, m, ho, i, e, h => by
  rw [cts] at h ⊢
  rw [brk, show max m (o + ((0 : Nat) : Int)) = m by omega]
  ·exact mos_plain s o m ho _ i e (by intro c hc; simp at hc; unfold plainB; omega) h
  all_goals simp
 | .tru, _, o, m, ho, i, e, h => by
  rw [cts] at h ⊢
  rw [brk, show max m (o + ((0 : Nat) : Int)) = m by omega]
  ·exact mos_plain s o m ho _ i e (by intro c hc; simp at hc; unfold plainB; omega) h
  all_goals simp
 | .fls, _, o, m, ho, i, e, h => by
  rw [cts] at h ⊢
  rw [brk, show max m (o + ((0 : Nat) : Int)) = m by omega]
  ·exact mos_plain s o m ho _ i e (by intro c hc; simp at hc; unfold plainB; omega) h
  all_goals simp
 | .num x, hw, o, m, ho, i, e, h => by
  rw [cts] at h ⊢
  rw [WF] at hw
  obtain ⟨n, rfl⟩ := hw
  rw [brk, show max m (o + ((0 : Nat) : Int)) = m by omega]
  ·exact mos_plain s o m ho _ i e (numT_plain n) h
  all_goals simp
 | .str b, hw, o, m, ho, i, e, h => by
  rw [cts] at h ⊢
  rw [WF] at hw
  rw [brk, show max m (o + ((0 : Nat) : Int)) = m by omega]
  ·exact mos_quo s o m ho b hw i e h
  all_goals simp
 | .arr l, hw, o, m, ho, i, e, h => by
  rw [cts] at h ⊢
  rw [WF] at hw
  rw [brk]
  obtain ⟨h1, h2, h3⟩ := h
  rw [mos_open s o m 91 (.inl rfl) i h1 h2]
  match l, hw, h3 with
  | [], _, h3 =>
   simp only [ctsL, List.drop_nil, List.nil_append, List.cons_append] at h3
   rw [mos_close s o _ (by omega) 93 (.inl rfl) (i + 1) h3.1 h3.2.1]
   simp [ctsL, brkL]
  | t :: l, hw, h3 =>
   rw [WFL] at hw
   replace h3 : At s (i + 1) (cts t ++ (ctsL l ++ (93 :: e))) := by
    rw [ctsL_drop] at h3
    simpa [List.append_assoc] using h3
   rw [ctsL_drop, mos_in s t hw.1 (o + 1) _ (by omega) (i + 1) _ h3]
   have h4 := (At.app h3).2
   rw [mos_inL s l hw.2 (o + 1) _ (by omega) _ _ h4]
   have h5 := (At.app h4).2
   rw [mos_close s o _ (by omega) 93 (.inl rfl) _ h5.1 h5.2.1, brkL]
   congr 1
   ·simp only [List.length_cons, List.length_append, List.length_nil]
    omega
   ·omega
 | .obj l, hw, o, m, ho, i, e, h => by
  rw [cts] at h ⊢
  rw [WF] at hw
  rw [brk]
  obtain ⟨hw, _⟩ := hw
  obtain ⟨h1, h2, h3⟩ := h
  rw [mos_open s o m 123 (.inr rfl) i h1 h2]
  match l, hw, h3 with
  | [], _, h3 =>
   simp only [ctsM, List.drop_nil, List.nil_append, List.cons_append] at h3
   rw [mos_close s o _ (by omega) 125 (.inr rfl) (i + 1) h3.1 h3.2.1]
   simp [ctsM, brkM]
  | (k, t) :: l, hw, h3 =>
   rw [WFM] at hw
   obtain ⟨hk, ht, hl⟩ := hw
   replace h3 : At s (i + 1) (quo k ++ (58 :: (cts t ++ (ctsM l ++ (125 :: e))))) := by
    rw [ctsM_drop] at h3
    simpa [List.append_assoc] using h3
   rw [ctsM_drop]
   rw [mos_quo s (o + 1) _ (by omega) k hk (i + 1) _ h3]
   have h4 := (At.app h3).2
   rw [mos_plain s (o + 1) _ (by omega) [58] _ _ (by intro c hc; simp at hc; subst hc; exact plain_58) (by exact h4)]
   have h5 := h4.2.2
   simp only [List.length_cons, List.length_nil]
   rw [Nat.zero_add, mos_in s t ht (o + 1) _ (by omega) _ _ h5]
   have h6 := (At.app h5).2
   rw [mos_inM s l hl (o + 1) _ (by omega) _ _ h6]
   have h7 := (At.app h6).2
   rw [mos_close s o _ (by omega) 125 (.inr rfl) _ h7.1 h7.2.1, brkM]
   congr 1
   ·simp only [List.length_cons, List.length_append, List.length_nil]
    omega
   ·omega
theorem mos_inL (s : ByteArray) : ∀ (l : List T), WFL l → ∀ (o m : Int), o ≤ m → ∀ (i : Nat) (e : List Int), At s i (ctsL l ++ e) → mosG s i o m = mosG s (i + (ctsL l).length) o (max m (o + brkL l))
 | [], _, o, m, ho, i, e, h => by
  rw [brkL, show max m (o + ((0 : Nat) : Int)) = m by omega]
  simp [ctsL]
 | t :: l, hw, o, m, ho, i, e, h => by
  rw [WFL] at hw
  rw [ctsL] at h ⊢
  simp only [List.append_assoc, List.cons_append] at h
  rw [mos_plain s o m ho [44] i _ (by intro c hc; simp at hc; subst hc; exact plain_44) (by exact h)]
  have h5 := h.2.2
  simp only [List.length_cons, List.length_nil]
  rw [Nat.zero_add, mos_in s t hw.1 o m ho _ _ h5]
  have h6 := (At.app h5).2
  rw [mos_inL s l hw.2 o _ (by omega) _ _ h6, brkL]
  congr 1
  ·simp only [List.length_append]
   omega
  ·omega
theorem mos_inM (s : ByteArray) : ∀ (l : List (ByteArray × T)), WFM l → ∀ (o m : Int), o ≤ m → ∀ (i : Nat) (e : List Int), At s i (ctsM l ++ e) → mosG s i o m = mosG s (i + (ctsM l).length) o (max m (o + brkM l))
 | [], _, o, m, ho, i, e, h => by
  rw [brkM, show max m (o + ((0 : Nat) : Int)) = m by omega]
  simp [ctsM]
 | (k, t) :: l, hw, o, m, ho, i, e, h => by
  rw [WFM] at hw
  obtain ⟨hk, ht, hl⟩ := hw
  rw [ctsM] at h ⊢
  simp only [List.append_assoc, List.cons_append] at h
  rw [mos_plain s o m ho [44] i _ (by intro c hc; simp at hc; subst hc; exact plain_44) (by exact h)]
  have h3 := h.2.2
  simp only [List.length_cons, List.length_nil]
  rw [Nat.zero_add, mos_quo s o m ho k hk _ _ h3]
  have h4 := (At.app h3).2
  rw [mos_plain s o m ho [58] _ _ (by intro c hc; simp at hc; subst hc; exact plain_58) (by exact h4)]
  have h5 := h4.2.2
  simp only [List.length_cons, List.length_nil]
  rw [Nat.zero_add, mos_in s t ht o m ho _ _ h5]
  have h6 := (At.app h5).2
  rw [mos_inM s l hl o _ (by omega) _ _ h6, brkM]
  congr 1
  ·simp only [List.length_append, List.length_cons]
   omega
  ·omega
end
theorem ctx_at (t : T) : At (ctx t) 0 (cts t) := At.self _ (cts_range t)
theorem ctx_size (t : T) : (ctx t).size = (cts t).length := by rw [← byt_len, byt_ctx]
theorem mos_ctx (t : T) (hw : WF t) : mosG (ctx t) 0 0 0 = brk t := by
 have h := ctx_at t
 rw [← List.append_nil (cts t)] at h
 rw [mos_in (ctx t) t hw 0 0 (by omega) 0 [] h, mosG_end _ _ _ _ (by rw [ctx_size]; omega)]
 omega
end Go.Proofs.YtndagnkhjlgjgaaGreatDoor.Tree
