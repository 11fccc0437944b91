/- The reader of JSON: contracts by hand of peek, want. -/
import Derived.Test.YtbonodglnilkfaaDoorStr0
import Derived.Test.YtbonodglnilkfaaDoorShelf
import Derived.Test.YtbonodglnilkfaaDoorProg
import Derived.Deep.QuietTactic
import Derived.BigQuiet
import Derived.RegionTactic
import Derived.Outline
import Derived.WalkLawsBesides
import Derived.Lib.Strings
import Derived.Deep.RegionHeld3
namespace Go.Proofs.YtbonodglnilkfaaDoor.Read
open Go Go.RowKit Go.Proofs.YtbonodglnilkfaaDoorW.PrintWords Go.Proofs.YtbonodglnilkfaaDoor.Str Go.Proofs.YtbonodglnilkfaaDoor.Tchs
set_option linter.unusedVariables false
set_option linter.unusedSimpArgs false
def Rdr (w : World) (g : Nat) (s : ByteArray) (p : Nat) (rg tw : Bool) : Prop := w.heap[g]? = some (.cells #[.string s, .int .i64 (p : Int), .bool rg, .bool tw] 46 (0, 0))
abbrev noForm : List PanicEntry := [{ v := .iface 62 (.agg #[]), recovered := false }]
theorem Rdr.at_ {w : World} {g : Nat} {s : ByteArray} {p : Nat} {rg tw : Bool} (h : Rdr w g s p rg tw) : w.cell? ⟨g, 0, none⟩ = some (.string s) ∧ w.cell? ⟨g, 1, none⟩ = some (.int .i64 (p : Int)) ∧ w.frozen? ⟨g, 1, none⟩ = false := ⟨blk_cell h 0, blk_cell h 1, blk_frozen h 1⟩
theorem Rdr.below {w w1 : World} {g : Nat} {s : ByteArray} {p : Nat} {rg tw : Bool} (h : Rdr w g s p rg tw) (hb : Below w.heap.size w w1) : Rdr w1 g s p rg tw := blk_below h hb
theorem Rdr.set {w : World} {g : Nat} {s : ByteArray} {p : Nat} {rg tw : Bool} (h : Rdr w g s p rg tw) (q : Int) (n : Nat) (hq : q = (n : Int)) : Rdr (w.setCell ⟨g, 1, none⟩ (.int .i64 q)) g s n rg tw := by subst hq; exact blk_set h 1 _
theorem Rdr.kept {w w1 : World} {g : Nat} {s : ByteArray} {p : Nat} {rg tw : Bool} {S : Nat → Prop} (h : Rdr w g s p rg tw) (hk : Kept w w1 S) (hs : ¬ S g) : Rdr w1 g s p rg tw := blk_kept h hk hs
theorem Rdr.drew {w : World} {g : Nat} {s : ByteArray} {p : Nat} {rg tw : Bool} (h : Rdr w g s p rg tw) : Rdr w.drew g s p rg tw := h
theorem Rdr.drewN {w : World} {g : Nat} {s : ByteArray} {p : Nat} {rg tw : Bool} (h : Rdr w g s p rg tw) (n : Nat) : Rdr (w.drewN n) g s p rg tw := h
theorem Rdr.lt {w : World} {g : Nat} {s : ByteArray} {p : Nat} {rg tw : Bool} (h : Rdr w g s p rg tw) : g < w.heap.size := blk_lt h
set_option maxRecDepth 100000 in
set_option maxHeartbeats 4000000 in
theorem peek_ok (g : Nat) (s : ByteArray) (p : Nat) (rg tw : Bool) (w : World) (h : Rdr w g s p rg tw) (hp : p < s.size) (hs : s.size ≤ 1048576) :
  Calls Tryd.prog 37 #[.pointer (some ⟨g, 0, none⟩)] w fun e w' => e = .returned (.int .u8 (bt s (p : Int))) ∧ Below w.heap.size w w' := by
 obtain ⟨h0, h1, _⟩ := h.at_
 have hge : decide ((s.size : Int) ≤ (p : Int)) = false := decide_eq_false (by omega)
 have hp0 : (0 : Int) ≤ (p : Int) := by omega
 have hp1 : (p : Int) < (s.size : Int) := by omega
 have hbt : bt s (p : Int) = ((s[p]'hp).toNat : Int) := by simp [bt, hp]
 go_enter Tryd.func37, Tryd.ntmps37
 go_wp2_with fail
 go_quiet (fail)
 go_wp2_with fail
 go_quiet (fail)
 go_wp2_with fail
 go_ret
 refine ⟨?_, ?_⟩
 ·rw [hbt]; rfl
 ·repeat (first | exact Below.refl _ _ | apply pw_below_drewN | apply below_drew)
set_option maxRecDepth 100000 in
set_option maxHeartbeats 4000000 in
theorem peek_no (g : Nat) (s : ByteArray) (p : Nat) (rg tw : Bool) (w : World) (h : Rdr w g s p rg tw) (hp : s.size ≤ p) (hs : s.size ≤ 1048576) :
  Calls Tryd.prog 37 #[.pointer (some ⟨g, 0, none⟩)] w fun e w' => e = .panicked noForm ∧ Below w.heap.size w w' := by
 obtain ⟨h0, h1, _⟩ := h.at_
 have hge : decide ((s.size : Int) ≤ (p : Int)) = true := decide_eq_true (by omega)
 go_enter Tryd.func37, Tryd.ntmps37
 go_wp2_with fail
 go_quiet (fail)
 go_wp2_with fail
 refine ⟨rfl, rfl, ?_⟩
 repeat (first | exact Below.refl _ _ | apply pw_below_drewN | apply below_drew)
def pre (s : ByteArray) (p : Nat) (x : ByteArray) : Bool := Lib.hasPrefix (List.take (s.size - p) (List.drop p s.data.toList)) x.data.toList
set_option maxRecDepth 100000 in
set_option maxHeartbeats 4000000 in
theorem want_ok (g : Nat) (s : ByteArray) (p : Nat) (rg tw : Bool) (x : ByteArray) (w : World) (h : Rdr w g s p rg tw) (hp : p ≤ s.size) (hs : s.size ≤ 1048576) (hx : pre s p x = true) (hxs : x.size ≤ 100) :
  Calls Tryd.prog 38 #[.pointer (some ⟨g, 0, none⟩), .string x] w fun e w' => e = .returned (.tuple #[]) ∧ Rdr w' g s (p + x.size) rg tw ∧ Tch w w' (fun k => k = g) := by
 obtain ⟨h0, h1, hf⟩ := h.at_
 have H := Lib.hid h
 unfold pre at hx
 clear h
 have hp0 : (0 : Int) ≤ (p : Int) := by omega
 have hp1 : (p : Int) ≤ (s.size : Int) := by omega
 have hp2 : (s.size : Int) ≤ (s.size : Int) := by omega
 go_enter Tryd.func38, Tryd.ntmps38
 go_wp2_with fail
 go_quiet ((go_at_call 49; refine Calls.quiet_of_same (Tryd.strings_HasPrefix _ _ _)))
 go_wp2_with fail
 go_end0
 exact ⟨rfl, Rdr.set (H.out.drewN _) _ _ (by simp), Tch.setCell ((Tch.refl w (fun k => k = g)).drewN _) (p := ⟨g, 1, none⟩) (.inl rfl) _⟩
set_option maxRecDepth 100000 in
set_option maxHeartbeats 4000000 in
theorem want_no (g : Nat) (s : ByteArray) (p : Nat) (rg tw : Bool) (x : ByteArray) (w : World) (h : Rdr w g s p rg tw) (hp : p ≤ s.size) (hs : s.size ≤ 1048576) (hx : pre s p x = false) :
  Calls Tryd.prog 38 #[.pointer (some ⟨g, 0, none⟩), .string x] w fun e w' => e = .panicked noForm ∧ Below w.heap.size w w' := by
 obtain ⟨h0, h1, hf⟩ := h.at_
 unfold pre at hx
 clear h
 have hp0 : (0 : Int) ≤ (p : Int) := by omega
 have hp1 : (p : Int) ≤ (s.size : Int) := by omega
 have hp2 : (s.size : Int) ≤ (s.size : Int) := by omega
 go_enter Tryd.func38, Tryd.ntmps38
 go_wp2_with fail
 go_quiet ((go_at_call 49; refine Calls.quiet_of_same (Tryd.strings_HasPrefix _ _ _)))
 go_wp2_with fail
 refine ⟨rfl, rfl, ?_⟩
 repeat (first | exact Below.refl _ _ | apply pw_below_drewN | apply below_drew)
end Go.Proofs.YtbonodglnilkfaaDoor.Read
namespace Go.Proofs.YtbonodglnilkfaaDoor.Tree
open Go.RowKit Go.Proofs.YtbonodglnilkfaaDoorW.PrintWords Go.Proofs.YtbonodglnilkfaaDoor.Str
set_option linter.unusedVariables false
set_option linter.unusedSimpArgs false
inductive T where
 | nul | tru | fls
 | num (x : ByteArray)
 | str (b : ByteArray)
 | arr (l : List T)
 | obj (l : List (ByteArray × T))
instance : Inhabited T := ⟨.nul⟩
def isAt (s : ByteArray) (p : Nat) (c : Int) : Bool := decide (p < s.size) && decide (bt s (p : Int) = c)
def isB (c : Int) : Bool := decide (c = 32) || decide (c = 9) || decide (c = 10) || decide (c = 13)
def isD (c : Int) : Bool := decide (48 ≤ c) && decide (c ≤ 57)
def runN (f : Int → Bool) (s : ByteArray) : Nat → Nat → Nat
 | 0, p => p
 | n + 1, p => if p < s.size then (if f (bt s (p : Int)) = true then runN f s n (p + 1) else p) else p
def runF (f : Int → Bool) (s : ByteArray) (p : Nat) : Nat := runN f s (s.size - p) p
def skip (s : ByteArray) (p : Nat) : Nat := runF isB s p
def digs (s : ByteArray) (p : Nat) : Nat := runF isD s p
theorem runF_at (f : Int → Bool) (s : ByteArray) (p : Nat) : runF f s p = if p < s.size then (if f (bt s (p : Int)) = true then runF f s (p + 1) else p) else p := by
 unfold runF
 by_cases h : p < s.size
 ·rw [if_pos h, show s.size - p = (s.size - (p + 1)) + 1 by omega, runN, if_pos h]
 ·rw [if_neg h, show s.size - p = 0 by omega, runN]
theorem runN_le (f : Int → Bool) (s : ByteArray) : ∀ (n p : Nat), p ≤ runN f s n p ∧ (p ≤ s.size → runN f s n p ≤ s.size)
 | 0, p => ⟨Nat.le_refl _, fun h => h⟩
 | n + 1, p => by
  rw [runN]
  split
  ·split
   ·have := runN_le f s n (p + 1)
    exact ⟨by omega, fun _ => this.2 (by omega)⟩
   ·exact ⟨Nat.le_refl _, fun h => h⟩
  ·exact ⟨Nat.le_refl _, fun h => h⟩
theorem runF_le (f : Int → Bool) (s : ByteArray) (p : Nat) : p ≤ runF f s p ∧ (p ≤ s.size → runF f s p ≤ s.size) := runN_le f s _ p
theorem runF_stop (f : Int → Bool) (s : ByteArray) : ∀ (n p : Nat), s.size - p = n → runF f s p < s.size → f (bt s (runF f s p : Int)) = false
 | 0, p, hn, h => by
  have := (runF_le f s p).1
  omega
 | n + 1, p, hn, h => by
  rw [runF_at] at h ⊢
  by_cases hp : p < s.size
  ·rw [if_pos hp] at h ⊢
   by_cases hf : f (bt s (p : Int)) = true
   ·rw [if_pos hf] at h ⊢
    exact runF_stop f s n (p + 1) (by omega) h
   ·rw [if_neg hf] at h ⊢
    simpa using hf
  ·omega
theorem runF_idem (f : Int → Bool) (s : ByteArray) (p : Nat) : runF f s (runF f s p) = runF f s p := by
 rw [runF_at]
 by_cases h : runF f s p < s.size
 ·rw [if_pos h, runF_stop f s _ p rfl h]
  simp
 ·rw [if_neg h]
def numF (s : ByteArray) (p : Nat) : Option Nat :=
 if isAt s p 45 = true then
  (if p + 1 < s.size ∧ isD (bt s ((p + 1 : Nat) : Int)) = true then some (if bt s ((p + 1 : Nat) : Int) = 48 then p + 2 else digs s (p + 2)) else none)
 else (if p < s.size ∧ isD (bt s (p : Int)) = true then some (if bt s (p : Int) = 48 then p + 1 else digs s (p + 1)) else none)
def isW (s : ByteArray) (p : Nat) (x : ByteArray) : Bool := decide (p + x.size ≤ s.size) && decide (s.extract p (p + x.size) = x)
abbrev wNull : ByteArray := ⟨#[110, 117, 108, 108]⟩
abbrev wTrue : ByteArray := ⟨#[116, 114, 117, 101]⟩
abbrev wFalse : ByteArray := ⟨#[102, 97, 108, 115, 101]⟩
def itemsF (s : ByteArray) (v : Nat → Option (T × Nat)) : Nat → Nat → Option (List T × Nat)
 | 0, _ => none
 | k + 1, q => match v q with
  | none => none
  | some (t, r) =>
   if isAt s (skip s r) 93 = true then some ([t], skip s r + 1)
   else if isAt s (skip s r) 44 = true then (itemsF s v k (skip s (skip s r + 1))).map fun x => (t :: x.1, x.2)
   else none
def membersF (s : ByteArray) (v : Nat → Option (T × Nat)) : Nat → Nat → Option (List (ByteArray × T) × Nat)
 | 0, _ => none
 | k + 1, q => match strF s q with
  | none => none
  | some (b, r1) =>
   if isAt s (skip s r1) 58 = true then
    match v (skip s (skip s r1 + 1)) with
    | none => none
    | some (t, r) =>
     if isAt s (skip s r) 125 = true then some ([(strOfNums b, t)], skip s r + 1)
     else if isAt s (skip s r) 44 = true then (membersF s v k (skip s (skip s r + 1))).map fun x => ((strOfNums b, t) :: x.1, x.2)
     else none
   else none
def val (s : ByteArray) : Nat → Nat → Option (T × Nat)
 | 0, _ => none
 | d + 1, p =>
  if isAt s p 91 = true then
   (if isAt s (skip s (p + 1)) 93 = true then some (.arr [], skip s (p + 1) + 1)
   else (itemsF s (fun q => val s d q) s.size (skip s (p + 1))).map fun x => (.arr x.1, x.2))
  else if isAt s p 123 = true then
   (if isAt s (skip s (p + 1)) 125 = true then some (.obj [], skip s (p + 1) + 1)
   else (membersF s (fun q => val s d q) s.size (skip s (p + 1))).map fun x => (.obj x.1, x.2))
  else if isAt s p 34 = true then (strF s p).map fun x => (.str (strOfNums x.1), x.2)
  else if isW s p wNull = true then some (.nul, p + 4)
  else if isW s p wTrue = true then some (.tru, p + 4)
  else if isW s p wFalse = true then some (.fls, p + 5)
  else (numF s p).map fun q => (.num (s.extract p q), q)
theorem numF_le {s : ByteArray} {p q : Nat} (h : numF s p = some q) : p + 1 ≤ q ∧ q ≤ s.size := by
 unfold numF at h
 split at h
 ·split at h
  ·rename_i h1 h2
   injection h with h
   split at h
   ·omega
   ·have := runF_le isD s (p + 2)
    unfold digs at h
    omega
  ·cases h
 ·split at h
  ·rename_i h1 h2
   injection h with h
   split at h
   ·omega
   ·have := runF_le isD s (p + 1)
    unfold digs at h
    omega
  ·cases h
theorem isAt_lt {s : ByteArray} {p : Nat} {c : Int} (h : isAt s p c = true) : p < s.size ∧ bt s (p : Int) = c := by
 unfold isAt at h
 simpa using h
theorem isW_le {s : ByteArray} {p : Nat} {x : ByteArray} (h : isW s p x = true) : p + x.size ≤ s.size := by
 unfold isW at h
 simp only [Bool.and_eq_true, decide_eq_true_eq] at h
 exact h.1
theorem itemsF_le {s : ByteArray} {v : Nat → Option (T × Nat)} (hv : ∀ q t r, v q = some (t, r) → q + 1 ≤ r ∧ r ≤ s.size) : ∀ (k q : Nat) (l : List T) (r : Nat), itemsF s v k q = some (l, r) → q + 1 ≤ r ∧ r ≤ s.size
 | 0, q, l, r, h => by cases h
 | k + 1, q, l, r, h => by
  rw [itemsF] at h
  cases hq : v q with
  | none => rw [hq] at h; cases h
  | some x =>
   obtain ⟨t, r1⟩ := x
   rw [hq] at h
   have h1 := hv q t r1 hq
   have h2 := runF_le isB s r1
   simp only at h
   by_cases c1 : isAt s (skip s r1) 93 = true
   ·rw [if_pos c1] at h
    have := isAt_lt c1
    injection h with h
    injection h with _ h
    unfold skip at *
    omega
   ·rw [if_neg c1] at h
    by_cases c2 : isAt s (skip s r1) 44 = true
    ·rw [if_pos c2] at h
     have := isAt_lt c2
     cases h3 : itemsF s v k (skip s (skip s r1 + 1)) with
     | none => rw [h3] at h; cases h
     | some y =>
      rw [h3] at h
      injection h with h
      injection h with _ h
      have h4 := itemsF_le hv k _ y.1 y.2 h3
      have h5 := runF_le isB s (skip s r1 + 1)
      unfold skip at *
      omega
    ·rw [if_neg c2] at h; cases h
theorem strF_le {s : ByteArray} {p q : Nat} {b : List Int} (h : strF s p = some (b, q)) : p + 2 ≤ q ∧ q ≤ s.size ∧ b.length ≤ 4 * (q - p) := by
 unfold strF at h
 split at h
 ·have := strL_le s _ _ b q h
  omega
 ·cases h
theorem membersF_le {s : ByteArray} {v : Nat → Option (T × Nat)} (hv : ∀ q t r, v q = some (t, r) → q + 1 ≤ r ∧ r ≤ s.size) : ∀ (k q : Nat) (l : List (ByteArray × T)) (r : Nat), membersF s v k q = some (l, r) → q + 1 ≤ r ∧ r ≤ s.size
 | 0, q, l, r, h => by cases h
 | k + 1, q, l, r, h => by
  rw [membersF] at h
  cases hq : strF s q with
  | none => rw [hq] at h; cases h
  | some x =>
   obtain ⟨b, r1⟩ := x
   rw [hq] at h
   have h1 := strF_le hq
   have h2 := runF_le isB s r1
   simp only at h
   by_cases c0 : isAt s (skip s r1) 58 = true
   ·rw [if_pos c0] at h
    have := isAt_lt c0
    have h6 := runF_le isB s (skip s r1 + 1)
    cases h7 : v (skip s (skip s r1 + 1)) with
    | none => rw [h7] at h; cases h
    | some z =>
     obtain ⟨t, r2⟩ := z
     rw [h7] at h
     have h8 := hv _ t r2 h7
     have h9 := runF_le isB s r2
     simp only at h
     by_cases c1 : isAt s (skip s r2) 125 = true
     ·rw [if_pos c1] at h
      have := isAt_lt c1
      injection h with h
      injection h with _ h
      unfold skip at *
      omega
     ·rw [if_neg c1] at h
      by_cases c2 : isAt s (skip s r2) 44 = true
      ·rw [if_pos c2] at h
       have := isAt_lt c2
       cases h3 : membersF s v k (skip s (skip s r2 + 1)) with
       | none => rw [h3] at h; cases h
       | some y =>
        rw [h3] at h
        injection h with h
        injection h with _ h
        have h4 := membersF_le hv k _ y.1 y.2 h3
        have h5 := runF_le isB s (skip s r2 + 1)
        unfold skip at *
        omega
      ·rw [if_neg c2] at h; cases h
   ·rw [if_neg c0] at h; cases h
theorem val_le (s : ByteArray) : ∀ (d p : Nat) (t : T) (q : Nat), val s d p = some (t, q) → p + 1 ≤ q ∧ q ≤ s.size
 | 0, p, t, q, h => by cases h
 | d + 1, p, t, q, h => by
  have ih := val_le s d
  have hsk := runF_le isB s (p + 1)
  rw [val] at h
  split at h
  ·rename_i h0
   have h0 := isAt_lt h0
   split at h
   ·rename_i h1
    have h1 := isAt_lt h1
    injection h with h
    injection h with _ h
    unfold skip at *
    omega
   ·cases h1 : itemsF s (fun q => val s d q) s.size (skip s (p + 1)) with
    | none => rw [h1] at h; cases h
    | some x =>
     rw [h1] at h
     injection h with h
     injection h with _ h
     have := itemsF_le (v := fun q => val s d q) (fun q t r hh => ih q t r hh) _ _ x.1 x.2 h1
     unfold skip at *
     omega
  ·split at h
   ·rename_i h0
    have h0 := isAt_lt h0
    split at h
    ·rename_i h1
     have h1 := isAt_lt h1
     injection h with h
     injection h with _ h
     unfold skip at *
     omega
    ·cases h1 : membersF s (fun q => val s d q) s.size (skip s (p + 1)) with
     | none => rw [h1] at h; cases h
     | some x =>
      rw [h1] at h
      injection h with h
      injection h with _ h
      have := membersF_le (v := fun q => val s d q) (fun q t r hh => ih q t r hh) _ _ x.1 x.2 h1
      unfold skip at *
      omega
   ·split at h
    ·cases h1 : strF s p with
     | none => rw [h1] at h; cases h
     | some x =>
      rw [h1] at h
      injection h with h
      injection h with _ h
      have := strF_le (b := x.1) (q := x.2) h1
      omega
    ·split at h
     ·rename_i h0
      have := isW_le h0
      injection h with h
      injection h with _ h
      have e : (wNull.size) = 4 := rfl
      omega
     ·split at h
      ·rename_i h0
       have := isW_le h0
       injection h with h
       injection h with _ h
       have e : (wTrue.size) = 4 := rfl
       omega
      ·split at h
       ·rename_i h0
        have := isW_le h0
        injection h with h
        injection h with _ h
        have e : (wFalse.size) = 5 := rfl
        omega
       ·cases h1 : numF s p with
        | none => rw [h1] at h; cases h
        | some x =>
         rw [h1] at h
         injection h with h
         injection h with _ h
         have := numF_le h1
         omega
mutual
def dep : T → Nat
 | .arr l => depL l + 1
 | .obj l => depM l + 1
 | _ => 1
def depL : List T → Nat
 | [] => 0
 | t :: l => max (dep t) (depL l)
def depM : List (ByteArray × T) → Nat
 | [] => 0
 | (_, t) :: l => max (dep t) (depM l)
end
mutual
def cnt : T → Nat
 | .arr l => cntL l + 1
 | .obj l => cntM l + 1
 | _ => 1
def cntL : List T → Nat
 | [] => 0
 | t :: l => cnt t + cntL l
def cntM : List (ByteArray × T) → Nat
 | [] => 0
 | (_, t) :: l => cnt t + cntM l
end
mutual
def big (f : ByteArray → Bool) : T → Bool
 | .num x => f x
 | .arr l => bigL f l
 | .obj l => bigM f l
 | _ => false
def bigL (f : ByteArray → Bool) : List T → Bool
 | [] => false
 | t :: l => big f t || bigL f l
def bigM (f : ByteArray → Bool) : List (ByteArray × T) → Bool
 | [] => false
 | (_, t) :: l => big f t || bigM f l
end
def hasKey (p : List ByteArray) (k : ByteArray) : Bool := p.any fun x => x.data.toList == k.data.toList
mutual
def twice : T → Bool
 | .arr l => twiceL l
 | .obj l => twiceM [] l
 | _ => false
def twiceL : List T → Bool
 | [] => false
 | t :: l => twice t || twiceL l
def twiceM (p : List ByteArray) : List (ByteArray × T) → Bool
 | [] => false
 | (k, t) :: l => twice t || hasKey p k || twiceM (p ++ [k]) l
end
end Go.Proofs.YtbonodglnilkfaaDoor.Tree
namespace Go.Proofs.YtbonodglnilkfaaDoor.Read
open Go Go.RowKit Go.Proofs.YtbonodglnilkfaaDoorW.PrintWords Go.Proofs.YtbonodglnilkfaaDoor.Str Go.Proofs.YtbonodglnilkfaaDoor.Tchs Go.Proofs.YtbonodglnilkfaaDoor.Tree
set_option linter.unusedVariables false
set_option linter.unusedSimpArgs false
def ixb (c : Int) : Int := Lib.indexByte [32, 9, 10, 13] c.toNat.toUInt8
theorem ixb_tab : ∀ n : Fin 256, (0 ≤ ixb (n.1 : Int) ↔ isB (n.1 : Int) = true) := by decide +kernel
theorem ixb_is (c : Int) (h0 : 0 ≤ c) (h1 : c ≤ 255) : 0 ≤ ixb c ↔ isB c = true := by
 have h := ixb_tab ⟨c.toNat, by omega⟩
 simpa [Int.toNat_of_nonneg h0] using h
theorem index_blank (c : Int) (w : World) : Calls Tryd.prog 44 #[.string ⟨#[32, 9, 10, 13]⟩, .int .u8 c] w fun e w' => e = .returned (.int .i64 (ixb c)) ∧ w' = w := Tryd.strings_IndexByte _ c w
def posAt (w : World) (g : Nat) : Nat := match w.cell? ⟨g, 1, none⟩ with | some (.int _ a) => a.toNat | _ => 0
theorem posAt_is {w : World} {g : Nat} {s : ByteArray} {p : Nat} {rg tw : Bool} (h : Rdr w g s p rg tw) : posAt w g = p := by
 unfold posAt
 rw [h.at_.2.1]
 simp
set_option maxRecDepth 100000 in
set_option maxHeartbeats 4000000 in
theorem blanks (g : Nat) (s : ByteArray) (p : Nat) (rg tw : Bool) (w : World) (h : Rdr w g s p rg tw) (hp : p ≤ s.size) (hs : s.size ≤ 1048576) :
  Calls Tryd.prog 28 #[.pointer (some ⟨g, 0, none⟩)] w fun e w' => e = .returned (.tuple #[]) ∧ Rdr w' g s (skip s p) rg tw ∧ Tch w w' (fun k => k = g) := by
 have H := Lib.hid h
 clear h
 go_enter Tryd.func28, Tryd.ntmps28
 go_wp2_with fail
 go_loopw [] (fun wr => ∃ q : Nat, Hid (q ≤ s.size ∧ skip s q = skip s p) ∧ Hid (Rdr wr g s q rg tw) ∧ Hid (Tch w wr (fun k => k = g))) (fun wr => s.size - posAt wr g)
 case atStart => exact ⟨p, Lib.hid ⟨hp, rfl⟩, H, Lib.hid (Tch.refl w _)⟩
 case round =>
  clear H
  obtain ⟨q, HI, HR, HT⟩ := hrel
  obtain ⟨h0, h1, hf⟩ := HR.out.at_
  obtain ⟨hq, hsk⟩ := HI.out
  by_cases hi : (q : Int) < (s.size : Int)
  ·have d1 : decide ((q : Int) < (s.size : Int)) = true := decide_eq_true hi
   have hpi : q < s.size := by omega
   have hb0 : (0 : Int) ≤ (q : Int) := by omega
   have hbt : bt s (q : Int) = ((s[q]'hpi).toNat : Int) := by simp [bt, hpi]
   by_cases hb : isB (bt s (q : Int)) = true
   ·have d2 : decide (0 ≤ ixb ((s[q]'hpi).toNat : Int)) = true := decide_eq_true (by rw [← hbt]; exact (ixb_is _ (bt_range _ _).1 (bt_range _ _).2).2 hb)
    have HS := Lib.hid (show skip s (q + 1) = skip s p from by
     rw [← hsk]
     unfold skip
     conv => rhs; rw [runF_at, if_pos hpi, if_pos hb])
    clear hsk
    go_wp2_with fail
    go_quiet ((go_at_call 44; refine Calls.quiet_of_same (index_blank _ _)))
    have e1 : wrap64 ((q : Int) + 1) = ((q + 1 : Nat) : Int) := by unfold wrap64; omega
    go_wp2_with fail
    go_roundw
    case rel => exact ⟨q + 1, Lib.hid ⟨by omega, HS.out⟩, Lib.hid (Rdr.set (HR.out.drewN _) _ _ (by simp)), Lib.hid (Tch.setCell (HT.out.drewN _) (p := ⟨g, 1, none⟩) (.inl rfl) _)⟩
    case measure =>
     rw [posAt_is HR.out, posAt_is (Rdr.set (HR.out.drewN _) _ (q + 1) (by simp))]
     omega
   ·have d2 : decide (0 ≤ ixb ((s[q]'hpi).toNat : Int)) = false := decide_eq_false (by rw [← hbt]; exact fun h => hb ((ixb_is _ (bt_range _ _).1 (bt_range _ _).2).1 h))
    have HS := Lib.hid (show q = skip s p from by
     rw [← hsk]
     unfold skip
     rw [runF_at, if_pos hpi, if_neg hb])
    clear hsk
    go_wp2_with fail
    go_quiet ((go_at_call 44; refine Calls.quiet_of_same (index_blank _ _)))
    go_wp2_with fail
    go_end0
    exact ⟨rfl, by rw [← HS.out]; exact HR.out.drewN _, HT.out.drewN _⟩
  ·have d1 : decide ((q : Int) < (s.size : Int)) = false := decide_eq_false hi
   have d1n : decide (q < s.size) = false := decide_eq_false (by omega)
   have HS := Lib.hid (show q = skip s p from by
    rw [← hsk]
    unfold skip
    rw [runF_at, if_neg (by omega)])
   clear hsk
   go_wp2_with fail
   go_quiet (fail)
   go_wp2_with fail
   go_end0
   exact ⟨rfl, by rw [← HS.out]; exact HR.out.drewN _, HT.out.drewN _⟩
end Go.Proofs.YtbonodglnilkfaaDoor.Read
