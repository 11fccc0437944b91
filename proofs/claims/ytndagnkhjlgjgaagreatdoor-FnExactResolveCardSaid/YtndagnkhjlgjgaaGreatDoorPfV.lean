-- Printed
import Derived.Test.YtndagnkhjlgjgaaGreatDoorPJvx1
namespace Go.Proofs.YtndagnkhjlgjgaaGreatDoor.PJv
open Go.RowKit Own PJt YtndagnkhjlgjgaaGreatDoorW.PrintWords YtndagnkhjlgjgaaGreatDoorW.PrintLast YtndagnkhjlgjgaaGreatDoorW.PrintMore
attribute [local go_sem] max2_int min2_int max_two min_two max_three min_three max_four min_four
set_option linter.unusedVariables false
set_option linter.unusedSimpArgs false
end Go.Proofs.YtndagnkhjlgjgaaGreatDoor.PJv
namespace Go.Proofs.YtndagnkhjlgjgaaGreatDoor.Pf
open Go Go.RowKit YtndagnkhjlgjgaaGreatDoorW.PrintWords Str Tree Read PJt Own
set_option linter.unusedVariables false
set_option linter.unusedSimpArgs false
theorem word_at {s : ByteArray} {p : Nat} {x : ByteArray} (h : isW s p x = true) : s.extract p (p + x.size) = x := by
 unfold isW at h
 simp only [Bool.and_eq_true, decide_eq_true_eq] at h
 exact h.2
theorem got_num (s : ByteArray) (p : Nat) (h34 : isAt s p 34 = false) (h91 : isAt s p 91 = false) (h123 : isAt s p 123 = false) (hn : isW s p wNull = false) (ht : isW s p wTrue = false) (hf : isW s p wFalse = false) : gotF s p = numR s p := by
 unfold gotF numR
 rw [h34, if_neg (by simp), val, h91, h123, h34, hn, ht, hf]
 simp only [Bool.false_eq_true, if_false]
 cases hx : numF s p with
 | none => rfl
 | some q =>
  simp only [Option.map_some]
  unfold numEnd
  rw [txs, big, twice, str_byt, too_big (numF_form hx)]
  all_goals simp
section
variable [Inhabited Rec]
theorem val_f (s : ByteArray) (hs : s.size ≤ 900000) (p : Nat) (hp : p ≤ s.size) (HV : ∀ i : Nat, p < i → i ≤ s.size → spec_l1Value.f s (i : Int) = some (gotF s i))
  (HS : ∀ i : Nat, i ≤ s.size → spec_l1String.f s (i : Int) = some (strOfNums (strXF s i).1, ((strXF s i).2.1 : Int), (strXF s i).2.2))
  (HM : ∀ ps : List Prt, (joinP ps).length ≤ 100000000 → ps.length ≤ 100000000 → spec_l1Make.f ps = some (strOfNums (mkT ps)))
  (HB : ∀ x : ByteArray, 0 < x.size → spec_l1TooBig.f x = some (tooB x)) (k : Nat) (hk : 1000000 * 1000003 + 1000000 + 100 * s.size + 1000 ≤ k) :
  PJv.spec_l1Value.f k s (p : Int) = some (gotF s p) := by
 unfold PJv.spec_l1Value.f
 rw [at_f, Option.bind_some]
 cases h91 : isAt s p 91 with
 | true =>
  rw [if_pos rfl, arr_f s (by omega) p h91 HV k (by omega), Option.bind_some]
 | false =>
  rw [if_neg (by simp), at_f, Option.bind_some]
  cases h123 : isAt s p 123 with
  | true =>
   rw [if_pos rfl, obj_f s hs p h123 HV HS HM k (by omega), Option.bind_some]
  | false =>
   rw [if_neg (by simp), at_f, Option.bind_some]
   cases h34 : isAt s p 34 with
   | true =>
    have hsz : (strOfNums (strXF s p).1).size ≤ 4 * s.size + 4 := by
     rw [str_size]
     have hlt := isAt_lt h34
     have key : ∀ (d q : Nat) (acc : List Int), q ≤ s.size → acc.length ≤ 4 * q → (strX s d q acc).1.length ≤ 4 * s.size + 4 := by
      intro d
      induction d with
      | zero => intro q acc hq ha; rw [strX]; simp
      | succ d ih =>
       intro q acc hq ha
       rw [strX]
       by_cases hlt : q < s.size
       ·rw [if_pos hlt]
        by_cases hq34 : bt s (q : Int) = 34
        ·rw [if_pos hq34]; show acc.length ≤ _; omega
        ·rw [if_neg hq34]
         cases hx : pieceF s q with
         | none => simp
         | some bq =>
          obtain ⟨b, q2⟩ := bq
          have hle := pieceF_le hlt hx
          exact ih q2 (acc ++ b) hle.2.1 (by rw [List.length_append]; omega)
       ·rw [if_neg hlt]; show acc.length ≤ _; omega
     unfold strXF
     rw [if_pos hlt]
     exact key _ _ [] (by omega) (by simp)
    rw [if_pos rfl, HS p hp, Option.bind_some]
    simp only
    rw [quoted_t _ (by omega) k (by omega), Option.bind_some]
    unfold gotF
    rw [h34, if_pos rfl]
   | false =>
    rw [if_neg (by simp), show (⟨#[110, 117, 108, 108]⟩ : ByteArray) = wNull from rfl, word_f s (by omega) p (by omega) wNull (by decide), Option.bind_some]
    obtain ⟨k, rfl⟩ : ∃ j, k = j + 1 := ⟨k - 1, by omega⟩
    have HW4 := Lib.hid (show p + 4 ≤ s.size → wrap64 ((p : Int) + 4) = ((p + 4 : Nat) : Int) from fun _ => by rw [w64 (by omega) (by omega)]; omega)
    have HW5 := Lib.hid (show p + 5 ≤ s.size → wrap64 ((p : Int) + 5) = ((p + 5 : Nat) : Int) from fun _ => by rw [w64 (by omega) (by omega)]; omega)
    have e4 : p + 4 ≤ s.size → ∀ x : ByteArray, s.extract p (p + 4) = x → PJv.spec_l1Value.j0 (k + 1) s (p : Int) true = some (x, ((p + 4 : Nat) : Int), true, false, false) := by
     intro h4 x hx
     rw [PJv.spec_l1Value.j0, if_pos rfl, HW4.out h4, if_pos (by omega), if_pos (by omega), if_pos (by omega), Int.toNat_natCast, Int.toNat_natCast, hx]
    cases hn : isW s p wNull with
    | true =>
     have h1 := isW_le hn
     have h2 := word_at hn
     rw [if_pos rfl, e4 (by exact h1) wNull h2]
     unfold gotF
     rw [h34, if_neg (by simp), val, h91, h123, h34, hn]
     simp only [Bool.false_eq_true, if_false, if_true]
     rw [txs, big, twice]
     ·rfl
     all_goals simp
    | false =>
     rw [if_neg (by simp), show (⟨#[116, 114, 117, 101]⟩ : ByteArray) = wTrue from rfl, word_f s (by omega) p (by omega) wTrue (by decide), Option.bind_some]
     cases ht : isW s p wTrue with
     | true =>
      have h1 := isW_le ht
      have h2 := word_at ht
      rw [e4 (by exact h1) wTrue h2]
      unfold gotF
      rw [h34, if_neg (by simp), val, h91, h123, h34, hn, ht]
      simp only [Bool.false_eq_true, if_false, if_true]
      rw [txs, big, twice]
      ·rfl
      all_goals simp
     | false =>
      rw [PJv.spec_l1Value.j0, if_neg (by simp), show (⟨#[102, 97, 108, 115, 101]⟩ : ByteArray) = wFalse from rfl, word_f s (by omega) p (by omega) wFalse (by decide), Option.bind_some]
      cases hf : isW s p wFalse with
      | true =>
       have h1 := isW_le hf
       rw [if_pos rfl, HW5.out (by exact h1)]
       unfold gotF
       rw [h34, if_neg (by simp), val, h91, h123, h34, hn, ht, hf]
       simp only [Bool.false_eq_true, if_false, if_true]
       rw [txs, big, twice]
       ·rfl
       all_goals simp
      | false =>
       rw [if_neg (by simp), num_f HB s (by omega) p k hp (by omega), Option.bind_some, got_num s p h34 h91 h123 hn ht hf]
end
open Classical in
noncomputable def mkRec (val : ByteArray → Int → Option (ByteArray × Int × Bool × Bool × Bool)) (sz : ByteArray → Option (Int × Int))
  (hval : ∀ (a0 : ByteArray) (a1 : Int) (r1 : ByteArray) (r2 : Int) (r3 r4 r5 : Bool) (w : World), val a0 a1 = some (r1, r2, r3, r4, r5) →
   Calls Tryz.prog 49 #[.string a0, .int .i64 a1] w fun e w' => e = .returned (.agg #[.string r1, .int .i64 r2, .bool r3, .bool r4, .bool r5]) ∧ Below w.heap.size w w')
  (hsz : ∀ (a0 : ByteArray) (r1 r2 : Int) (w : World), sz a0 = some (r1, r2) →
   Calls Tryz.prog 52 #[.string a0] w fun e w' => e = .returned (.tuple #[.int .i64 r1, .int .i64 r2]) ∧ Below w.heap.size w w') : Rec where
 val := val
 sz := sz
 hval := hval
 hsz := hsz
 str := fun a i => if 0 ≤ i ∧ i ≤ 2097152 ∧ a.size ≤ 1048576 then some (strOfNums (strXF a i.toNat).1, ((strXF a i.toNat).2.1 : Int), (strXF a i.toNat).2.2) else none
 join := fun ps => if (joinP ps).length ≤ 100000000 ∧ ps.length ≤ 100000000 then some (strOfNums (mkT ps)) else none
 big := fun x => if 0 < x.size then some (tooB x) else none
 dec := fun n => if 0 ≤ n ∧ n ≤ 1000000000 then some (decB n.toNat) else none
 hstr := by
  intro a0 a1 r1 r2 r3 w h
  by_cases c : 0 ≤ a1 ∧ a1 ≤ 2097152 ∧ a0.size ≤ 1048576
  ·rw [if_pos c] at h
   injection h with h
   injection h with h1 h
   injection h with h2 h3
   subst h1 h2 h3
   have := l1String a0 a1.toNat w c.2.2 (by omega)
   rwa [Int.toNat_of_nonneg c.1] at this
  ·rw [if_neg c] at h; cases h
 hmk := by
  intro A0 c0 l0 r w h1 h2 h
  by_cases c : (joinP l0).length ≤ 100000000 ∧ l0.length ≤ 100000000
  ·rw [if_pos c] at h
   injection h with h
   subst h
   exact l1Make A0 c0 l0 w h1 h2 c.1 c.2
  ·rw [if_neg c] at h; cases h
 hbig := by
  intro a0 r w h
  by_cases c : 0 < a0.size
  ·rw [if_pos c] at h
   injection h with h
   subst h
   exact l1TooBig a0 w c
  ·rw [if_neg c] at h; cases h
 hdec := by
  intro a0 r w h
  by_cases c : 0 ≤ a0 ∧ a0 ≤ 1000000000
  ·rw [if_pos c] at h
   injection h with h
   subst h
   have := l1Dec a0.toNat w (by omega)
   rwa [Int.toNat_of_nonneg c.1] at this
  ·rw [if_neg c] at h; cases h
def ValueAt (s : ByteArray) (p : Nat) : Prop := ∀ w : World, Calls Tryz.prog 49 #[.string s, .int .i64 (p : Int)] w fun e w' =>
 e = .returned (.agg #[.string (gotF s p).1, .int .i64 (gotF s p).2.1, .bool (gotF s p).2.2.1, .bool (gotF s p).2.2.2.1, .bool (gotF s p).2.2.2.2]) ∧ Below w.heap.size w w'
theorem value_all (s : ByteArray) (hs : s.size ≤ 900000) : ∀ (n p : Nat), s.size - p = n → p ≤ s.size → ValueAt s p := by
 intro n
 induction n using Nat.strongRecOn with
 | _ n ih =>
  intro p hn hp w
  have hV : ∀ i : Nat, p < i → i ≤ s.size → ValueAt s i := fun i h1 h2 => ih (s.size - i) (by omega) i rfl h2
  letI : Inhabited Rec := ⟨mkRec (fun a i => if a = s ∧ (p : Int) < i ∧ i ≤ (s.size : Int) then some (gotF s i.toNat) else none) (fun _ => none) (by
   intro a0 a1 r1 r2 r3 r4 r5 w h
   by_cases c : a0 = s ∧ (p : Int) < a1 ∧ a1 ≤ (s.size : Int)
   ·rw [if_pos c] at h
    injection h with h
    obtain ⟨rfl, c1, c2⟩ := c
    have := hV a1.toNat (by omega) (by omega) w
    rw [h, Int.toNat_of_nonneg (by omega)] at this
    exact this
   ·rw [if_neg c] at h; cases h) (by intro a0 r1 r2 w h; cases h)⟩
  have hf := val_f s hs p hp (fun i h1 h2 => by
    show (if s = s ∧ (p : Int) < (i : Int) ∧ (i : Int) ≤ (s.size : Int) then some (gotF s (i : Int).toNat) else none) = _
    rw [if_pos ⟨rfl, by omega, by omega⟩, Int.toNat_natCast])
   (fun i h1 => by
    show (if 0 ≤ (i : Int) ∧ (i : Int) ≤ 2097152 ∧ s.size ≤ 1048576 then _ else none) = _
    rw [if_pos ⟨by omega, by omega, by omega⟩, Int.toNat_natCast])
   (fun ps h1 h2 => by
    show (if (joinP ps).length ≤ 100000000 ∧ ps.length ≤ 100000000 then _ else none) = _
    rw [if_pos ⟨h1, h2⟩])
   (fun x hx => by
    show (if 0 < x.size then some (tooB x) else none) = _
    rw [if_pos hx]) (1000000 * 1000003 + 1000000 + 100 * s.size + 1000) (Nat.le_refl _)
  exact PJv.spec_l1Value.calls _ s (p : Int) (gotF s p).1 (gotF s p).2.1 (gotF s p).2.2.1 (gotF s p).2.2.2.1 (gotF s p).2.2.2.2 w hf
end Go.Proofs.YtndagnkhjlgjgaaGreatDoor.Pf
namespace Go.Proofs.YtndagnkhjlgjgaaGreatDoor.Pf
open Go Go.RowKit YtndagnkhjlgjgaaGreatDoorW.PrintWords Str Tree Read PJt Own
set_option linter.unusedVariables false
set_option linter.unusedSimpArgs false
theorem endF_ge (s : ByteArray) : ∀ (n i : Nat) (o : Int), i ≤ endF s n i o
 | 0, i, o => Nat.le_refl _
 | n + 1, i, o => by
  rw [endF]
  split
  ·rename_i h
   have := nxt_gt s i h
   split
   ·omega
   ·have := endF_ge s n (nxt s i) (opn (bt s (i : Int)) o)
    omega
  ·exact Nat.le_refl _
section
variable [Inhabited Rec]
theorem end_l0 (s : ByteArray) (hs : s.size ≤ 1000000) (HS : ∀ i : Nat, i ≤ s.size → spec_l1String.f s (i : Int) = some (strOfNums (strXF s i).1, ((strXF s i).2.1 : Int), (strXF s i).2.2)) :
  ∀ (n i k : Nat) (o : Int), s.size < i + n → -(i : Int) ≤ o → o ≤ (i : Int) → endF s n i o ≤ s.size → 5 * n + 5 ≤ k → spec_l1End.l0 k s (i : Int) o = some ((endF s n i o : Nat) : Int) := by
 intro n
 induction n with
 | zero =>
  intro i k o h1 h2 h3 h4 hk
  obtain ⟨k, rfl⟩ : ∃ j, k = j + 1 := ⟨k - 1, by omega⟩
  rw [spec_l1End.l0, if_neg (by omega)]
  rfl
 | succ n ih =>
  intro i k o h1 h2 h3 h4 hk
  obtain ⟨k, rfl⟩ : ∃ j, k = j + 5 := ⟨k - 5, by omega⟩
  rw [spec_l1End.l0, endF]
  rw [endF] at h4
  by_cases hi : i < s.size
  ·rw [if_pos hi] at h4
   rw [if_pos (by omega), if_pos (by omega), if_pos hi]
   have hng := nxt_gt s i hi
   have hopn : opn (bt s (i : Int)) o = (if bt s (i : Int) = 91 ∨ bt s (i : Int) = 123 then o + 1 else o) - (if bt s (i : Int) = 93 ∨ bt s (i : Int) = 125 then 1 else 0) := rfl
   have hnle : nxt s i ≤ s.size := by
    by_cases c : opn (bt s (i : Int)) o = 0 ∧ isT s (nxt s i) = true
    ·rw [if_pos c] at h4; exact h4
    ·rw [if_neg c] at h4
     have := endF_ge s n (nxt s i) (opn (bt s (i : Int)) o)
     omega
   have e4 : ∀ o' : Int, -(i : Int) - 1 ≤ o' → o' ≤ (i : Int) + 1 → o' = opn (bt s (i : Int)) o → (if o' = 0 then (if ((nxt s i : Nat) : Int) = (s.size : Int) then (some ((nxt s i : Nat) : Int)) else (if 0 ≤ ((nxt s i : Nat) : Int) then (if ((nxt s i : Nat) : Int) < (s.size : Int) then (if (bt s ((nxt s i : Nat) : Int)) = 44 then (some ((nxt s i : Nat) : Int)) else (if (bt s ((nxt s i : Nat) : Int)) = 93 then (some ((nxt s i : Nat) : Int)) else (if (bt s ((nxt s i : Nat) : Int)) = 125 then (some ((nxt s i : Nat) : Int)) else (spec_l1End.l0 k s ((nxt s i : Nat) : Int) o')))) else (none)) else (none))) else (spec_l1End.l0 k s ((nxt s i : Nat) : Int) o')) = some ((if opn (bt s (i : Int)) o = 0 ∧ isT s (nxt s i) = true then nxt s i else endF s n (nxt s i) (opn (bt s (i : Int)) o) : Nat) : Int) := by
    intro o' g1 g2 ho
    rw [← ho] at h4 ⊢
    by_cases z : o' = 0
    ·rw [if_pos z]
     by_cases t0 : nxt s i = s.size
     ·rw [if_pos (by omega), if_pos ⟨z, by unfold isT; simp [t0]⟩]
     ·rw [if_neg (by omega), if_pos (by omega), if_pos (by omega)]
      by_cases t1 : bt s ((nxt s i : Nat) : Int) = 44
      ·rw [if_pos t1, if_pos ⟨z, by unfold isT; simp [t1]⟩]
      by_cases t2 : bt s ((nxt s i : Nat) : Int) = 93
      ·rw [if_neg t1, if_pos t2, if_pos ⟨z, by unfold isT; simp [t2]⟩]
      by_cases t3 : bt s ((nxt s i : Nat) : Int) = 125
      ·rw [if_neg t1, if_neg t2, if_pos t3, if_pos ⟨z, by unfold isT; simp [t3]⟩]
      have hT : ¬ (o' = 0 ∧ isT s (nxt s i) = true) := fun hh => by
       have := hh.2
       unfold isT at this
       simp [t0, t1, t2, t3] at this
      rw [if_neg hT] at h4
      rw [if_neg t1, if_neg t2, if_neg t3, if_neg hT, ih (nxt s i) k o' (by omega) (by omega) (by omega) h4 (by omega)]
    ·have hT : ¬ (o' = 0 ∧ isT s (nxt s i) = true) := fun hh => z hh.1
     rw [if_neg hT] at h4
     rw [if_neg z, if_neg hT, ih (nxt s i) k o' (by omega) (by omega) (by omega) h4 (by omega)]
   have e1 : spec_l1End.j1 (k + 4) s ((nxt s i : Nat) : Int) o (bt s (i : Int)) = some ((if opn (bt s (i : Int)) o = 0 ∧ isT s (nxt s i) = true then nxt s i else endF s n (nxt s i) (opn (bt s (i : Int)) o) : Nat) : Int) := by
    have HWp := Lib.hid (show wrap64 (o + 1) = o + 1 from w64 (by omega) (by omega))
    have HWm := Lib.hid (show ∀ q : Int, -(i : Int) - 1 ≤ q → q ≤ (i : Int) + 1 → wrap64 (q - 1) = q - 1 from fun q g1 g2 => w64 (by omega) (by omega))
    have e3 : ∀ q : Int, -(i : Int) ≤ q → q ≤ (i : Int) + 1 → q = (if bt s (i : Int) = 91 ∨ bt s (i : Int) = 123 then o + 1 else o) → spec_l1End.j3 (k + 2) s ((nxt s i : Nat) : Int) q (bt s (i : Int)) = some ((if opn (bt s (i : Int)) o = 0 ∧ isT s (nxt s i) = true then nxt s i else endF s n (nxt s i) (opn (bt s (i : Int)) o) : Nat) : Int) := by
     intro q g1 g2 hq
     rw [spec_l1End.j3]
     have f1 : (bt s (i : Int) = 93 ∨ bt s (i : Int) = 125) → spec_l1End.j4 (k + 1) s ((nxt s i : Nat) : Int) q true = some ((if opn (bt s (i : Int)) o = 0 ∧ isT s (nxt s i) = true then nxt s i else endF s n (nxt s i) (opn (bt s (i : Int)) o) : Nat) : Int) := by
      intro hc
      rw [spec_l1End.j4, if_pos rfl, HWm.out q (by omega) g2]
      exact e4 (q - 1) (by omega) (by omega) (by rw [hopn, if_pos hc, hq])
     have f2 : ¬ (bt s (i : Int) = 93 ∨ bt s (i : Int) = 125) → spec_l1End.j4 (k + 1) s ((nxt s i : Nat) : Int) q false = some ((if opn (bt s (i : Int)) o = 0 ∧ isT s (nxt s i) = true then nxt s i else endF s n (nxt s i) (opn (bt s (i : Int)) o) : Nat) : Int) := by
      intro hc
      rw [spec_l1End.j4, if_neg (by simp)]
      exact e4 q (by omega) (by omega) (by rw [hopn, if_neg hc, hq]; omega)
     by_cases c1 : bt s (i : Int) = 93
     ·rw [if_pos c1]; exact f1 (.inl c1)
     ·rw [if_neg c1]
      by_cases c2 : bt s (i : Int) = 125
      ·rw [show (bt s (i : Int) == 125) = true by simp [c2]]; exact f1 (.inr c2)
      ·rw [show (bt s (i : Int) == 125) = false by simp [c2]]; exact f2 (by omega)
    rw [spec_l1End.j1]
    by_cases c1 : bt s (i : Int) = 91
    ·rw [if_pos c1, spec_l1End.j2, if_pos rfl, HWp.out]
     exact e3 (o + 1) (by omega) (by omega) (by rw [if_pos (.inl c1)])
    ·rw [if_neg c1, spec_l1End.j2]
     by_cases c2 : bt s (i : Int) = 123
     ·rw [show (bt s (i : Int) == 123) = true by simp [c2], if_pos rfl, HWp.out]
      exact e3 (o + 1) (by omega) (by omega) (by rw [if_pos (.inr c2)])
     ·rw [show (bt s (i : Int) == 123) = false by simp [c2], if_neg (by simp)]
      exact e3 o (by omega) (by omega) (by rw [if_neg (by omega)])
   by_cases c : bt s (i : Int) = 34
   ·have hn : ((strXF s i).2.1 : Int) = ((nxt s i : Nat) : Int) := by unfold nxt; rw [if_pos c]
    rw [if_pos c, HS i (by omega), Option.bind_some]
    simp only
    rw [hn]
    exact e1
   ·have hn : wrap64 ((i : Int) + 1) = ((nxt s i : Nat) : Int) := by
     unfold nxt
     rw [if_neg c, w64 (by omega) (by omega)]
     omega
    rw [if_neg c, hn]
    exact e1
  ·rw [if_neg (by omega), if_neg hi]
theorem end_f (s : ByteArray) (hs : s.size ≤ 1000000) (HS : ∀ i : Nat, i ≤ s.size → spec_l1String.f s (i : Int) = some (strOfNums (strXF s i).1, ((strXF s i).2.1 : Int), (strXF s i).2.2)) (i k : Nat) (h : endG s i 0 ≤ s.size) (hi : i ≤ s.size) (hk : 5 * s.size + 20 ≤ k) :
  spec_l1End.f k s (i : Int) = some ((endG s i 0 : Nat) : Int) := by
 unfold spec_l1End.f
 exact end_l0 s hs HS (s.size + 1 - i) i k 0 (by omega) (by omega) (by omega) h (by omega)
end
end Go.Proofs.YtndagnkhjlgjgaaGreatDoor.Pf
