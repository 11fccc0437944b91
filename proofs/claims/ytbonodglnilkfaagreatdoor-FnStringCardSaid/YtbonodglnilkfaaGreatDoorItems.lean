/- The reader of JSON: the contracts by hand of items, with each of its two closures. -/
import Derived.Test.YtbonodglnilkfaaGreatDoorNumW
namespace Go.Proofs.YtbonodglnilkfaaGreatDoor.Read
open Go Go.RowKit Go.Proofs.YtbonodglnilkfaaGreatDoorW.PrintWords Go.Proofs.YtbonodglnilkfaaGreatDoor.Str Go.Proofs.YtbonodglnilkfaaGreatDoor.Tchs Go.Proofs.YtbonodglnilkfaaGreatDoor.Tree
set_option linter.unusedVariables false
set_option linter.unusedSimpArgs false
def itG {σ : Type} (s : ByteArray) (step : Nat → σ → Option (σ × Nat)) (e : Int) : Nat → Nat → σ → Option (σ × Nat)
 | 0, _, _ => none
 | k + 1, q, st => match step q st with
  | none => none
  | some (st', r) => if isAt s (skip s r) e = true then some (st', skip s r + 1) else if isAt s (skip s r) 44 = true then itG s step e k (skip s (skip s r + 1)) st' else none
def itF {σ : Type} (s : ByteArray) (step : Nat → σ → Option (σ × Nat)) (e : Int) (p : Nat) (st : σ) : Option (σ × Nat) :=
 if isAt s (skip s (p + 1)) e = true then some (st, skip s (p + 1) + 1) else itG s step e s.size (skip s (p + 1)) st
set_option maxRecDepth 100000 in
set_option maxHeartbeats 8000000 in
theorem items1 {σ : Type} (g : Nat) (s : ByteArray) (hs : s.size ≤ 1048576) (endc : Int) (p : Nat) (cap : Array Value) (Inv : World → Nat → σ → Prop) (Fr : World → Prop) (step : Nat → σ → Option (σ × Nat))
  (hRd : ∀ W q st, Inv W q st → ∃ rg tw, Rdr W g s q rg tw)
  (hFr : ∀ W q st, Inv W q st → Fr W)
  (hMove : ∀ W W' q r st rg tw, q ≤ r → Inv W q st → Rdr W g s q rg tw → Rdr W' g s r rg tw → Tch W W' (fun k => k = g) → Inv W' r st)
  (hLt : ∀ q st st' r, step q st = some (st', r) → q + 1 ≤ r ∧ r ≤ s.size)
  (hOne : ∀ W q st, Inv W q st → q ≤ s.size → p + 1 ≤ q → Calls Tryz.prog 87 cap W fun e W' => (∀ st' r, step q st = some (st', r) → e = .returned (.tuple #[]) ∧ Inv W' r st') ∧ (step q st = none → e = .panicked noForm ∧ Fr W'))
  (hFm : ∀ W W', Fr W → Tch W W' (fun k => k = g) → Fr W')
  (w : World) (st0 : σ) (h : Inv w p st0) (hp : p < s.size) (he : 0 ≤ endc ∧ endc ≤ 255 ∧ endc ≠ 44) :
  Calls Tryz.prog 86 #[.pointer (some ⟨g, 0, none⟩), .int .u8 endc, .func (.func 87) #[] cap] w fun e w' => (∀ st q, itF s step endc p st0 = some (st, q) → e = .returned (.tuple #[]) ∧ Inv w' q st) ∧ (itF s step endc p st0 = none → e = .panicked noForm ∧ Fr w') := by
 obtain ⟨rg, tw, hR⟩ := hRd w p st0 h
 have HR := Lib.hid hR
 have HI := Lib.hid h
 have HP := Lib.hid hRd
 have HF := Lib.hid hFr
 have HM := Lib.hid hMove
 have HL := Lib.hid hLt
 have HO := Lib.hid hOne
 have HQ := Lib.hid hFm
 obtain ⟨h0, h1, hf⟩ := hR.at_
 clear h hRd hFr hMove hLt hOne hFm hR
 go_enter Tryz.func86, Tryz.ntmps86
 go_wp2_with fail
 have HR1 := Lib.hid (Rdr.set HR.out ((p : Int) + 1) (p + 1) (by simp))
 have HT1 := Lib.hid (Tch.setCell (Tch.refl w (fun k => k = g)) (p := ⟨g, 1, none⟩) (.inl rfl) (.int .i64 ((p : Int) + 1)))
 clear h0 h1 hf
 generalize w.setCell ⟨g, 1, none⟩ (.int .i64 ((p : Int) + 1)) = w1 at HR1 HT1 ⊢
 refine (blanks g s (p + 1) rg tw _ HR1.out (by omega) hs).mono ?_
 rintro e w2 ⟨rfl, hR2, ht2⟩
 have HR2 := Lib.hid hR2
 have HT2 := Lib.hid (Tch.then_ HT1.out ht2 (fun k hk => .inl hk))
 have HI2 := Lib.hid (HM.out w w2 p (skip s (p + 1)) st0 rg tw (Nat.le_trans (Nat.le_succ p) (runF_le isB s (p + 1)).1) HI.out HR.out hR2 HT2.out)
 have hle := runF_le isB s (p + 1)
 have HE := Lib.hid (show itF s step endc p st0 = if isAt s (skip s (p + 1)) endc = true then some (st0, skip s (p + 1) + 1) else itG s step endc s.size (skip s (p + 1)) st0 from rfl)
 have hq1 : p + 1 ≤ skip s (p + 1) := by unfold skip; omega
 have hq2 : skip s (p + 1) ≤ s.size := by unfold skip; exact hle.2 (by omega)
 clear hR2 ht2 HR1 HT1 hle HI HR HT2
 generalize skip s (p + 1) = q at HR2 HI2 HE hq1 hq2
 by_cases hqs : q < s.size
 ·go_wp2_with fail
  refine (peek_ok g s q rg tw _ HR2.out hqs hs).mono ?_
  rintro e w3 ⟨rfl, hb3⟩
  have HR3 := Lib.hid (Rdr.below HR2.out hb3)
  have HI3 := Lib.hid (HM.out w2 w3 q q st0 rg tw (Nat.le_refl _) HI2.out HR2.out HR3.out (Tch.of_below hb3 _))
  clear hb3 HI2 HR2
  have hia : isAt s q endc = decide (bt s (q : Int) = endc) := by unfold isAt; rw [decide_eq_true hqs, Bool.true_and]
  by_cases heq : bt s (q : Int) = endc
  ·have d1 : (bt s (q : Int) == endc) = true := beq_iff_eq.2 heq
   have hE := HE.out
   rw [hia, decide_eq_true heq, if_pos rfl] at hE
   have HE2 := Lib.hid hE
   clear hE HE hia heq
   obtain ⟨h0, h1, hf⟩ := HR3.out.at_
   go_wp2_with fail
   refine bodyPost_ret (results_none rfl _ _ _) rfl ?_
   rw [HE2.out]
   refine ⟨fun st q' hh => ?_, fun hh => by cases hh⟩
   cases hh
   exact ⟨rfl, HM.out w3 _ q (q + 1) st0 rg tw (Nat.le_succ _) HI3.out HR3.out (Rdr.set HR3.out _ _ (by simp)) (Tch.setCell (Tch.refl w3 (fun k => k = g)) (p := ⟨g, 1, none⟩) (.inl rfl) _)⟩
  ·have d1 : (bt s (q : Int) == endc) = false := beq_eq_false_iff_ne.2 heq
   have hE := HE.out
   rw [hia, decide_eq_false heq, if_neg (by simp)] at hE
   have HE2 := Lib.hid hE
   clear hE HE hia heq
   go_wp2_with fail
   go_loopw [] (fun wr => ∃ (q : Nat) (st : σ) (k : Nat), Hid (p + 1 ≤ q ∧ q ≤ s.size ∧ s.size < q + k) ∧ Hid (Inv wr q st) ∧ Hid (itF s step endc p st0 = itG s step endc k q st)) (fun wr => s.size - posAt wr g)
   case atStart => exact ⟨q, st0, s.size, Lib.hid ⟨hq1, hq2, by omega⟩, HI3, HE2⟩
   case round =>
    clear HI3 HE2 HR3 hq1 hq2 hqs d1
    obtain ⟨q, st, k, HB, HI, HE⟩ := hrel
    obtain ⟨hb1, hb2, hb3⟩ := HB.out
    cases k with
    | zero => omega
    | succ k =>
    obtain ⟨rg, tw, hR⟩ := HP.out _ _ _ HI.out
    have HPW := Lib.hid (posAt_is hR)
    clear hR
    have hE := HE.out
    rw [itG] at hE
    have HE2 := Lib.hid hE
    clear hE HE
    go_wp2_with fail
    refine (HO.out wr q st HI.out hb2 hb1).mono ?_
    rintro e w4 ⟨hok, hno⟩
    cases hst : step q st with
    | none =>
     obtain ⟨rfl, hfr⟩ := hno hst
     have hE := HE2.out
     rw [hst] at hE
     have HE3 := Lib.hid hE
     clear hE hok hno hst HE2
     go_wp2_with fail
     rw [HE3.out]
     exact ⟨rfl, fun st q hh => (by cases hh), fun _ => ⟨rfl, hfr⟩⟩
    | some x =>
     obtain ⟨st2, r⟩ := x
     obtain ⟨rfl, hI4⟩ := hok st2 r hst
     have hle := HL.out _ _ _ _ hst
     obtain ⟨rg4, tw4, hR4⟩ := HP.out _ _ _ hI4
     have HI4 := Lib.hid hI4
     have HR4 := Lib.hid hR4
     have hE := HE2.out
     rw [hst] at hE
     have HE3 := Lib.hid (show itF s step endc p st0 = if isAt s (skip s r) endc = true then some (st2, skip s r + 1) else if isAt s (skip s r) 44 = true then itG s step endc k (skip s (skip s r + 1)) st2 else none from hE)
     clear hE hok hno hst HE2 hI4 hR4 HI
     go_wp2_with fail
     refine (blanks g s r rg4 tw4 _ HR4.out hle.2 hs).mono ?_
     rintro e w5 ⟨rfl, hR5, ht5⟩
     have HR5 := Lib.hid hR5
     have HI5 := Lib.hid (HM.out w4 w5 r (skip s r) st2 rg4 tw4 (runF_le isB s r).1 HI4.out HR4.out hR5 ht5)
     have hle2 := runF_le isB s r
     have hr1 : q + 1 ≤ skip s r := by unfold skip; omega
     have hr2 : skip s r ≤ s.size := by unfold skip; exact hle2.2 hle.2
     clear hR5 ht5 HR4 HI4 hle2 hle
     generalize skip s r = r1 at HR5 HI5 HE3 hr1 hr2
     by_cases hrs : r1 < s.size
     ·go_wp2_with fail
      refine (peek_ok g s r1 rg4 tw4 _ HR5.out hrs hs).mono ?_
      rintro e w6 ⟨rfl, hb6⟩
      have HR6 := Lib.hid (Rdr.below HR5.out hb6)
      have HI6 := Lib.hid (HM.out w5 w6 r1 r1 st2 rg4 tw4 (Nat.le_refl _) HI5.out HR5.out HR6.out (Tch.of_below hb6 _))
      clear hb6 HI5 HR5
      have hia : ∀ c, isAt s r1 c = decide (bt s (r1 : Int) = c) := fun c => by unfold isAt; rw [decide_eq_true hrs, Bool.true_and]
      obtain ⟨h0, h1, hf⟩ := HR6.out.at_
      have HR7 := Lib.hid (Rdr.set HR6.out ((r1 : Int) + 1) (r1 + 1) (by simp))
      have HI7 := Lib.hid (HM.out w6 _ r1 (r1 + 1) st2 rg4 tw4 (Nat.le_succ _) HI6.out HR6.out HR7.out (Tch.setCell (Tch.refl w6 (fun k => k = g)) (p := ⟨g, 1, none⟩) (.inl rfl) _))
      by_cases heq : bt s (r1 : Int) = endc
      ·have d1 : (bt s (r1 : Int) == endc) = true := beq_iff_eq.2 heq
       have hE := HE3.out
       rw [hia, decide_eq_true heq, if_pos rfl] at hE
       have HE4 := Lib.hid hE
       clear hE HE3 hia heq
       go_wp2_with fail
       refine bodyPost_ret (results_none rfl _ _ _) rfl ?_
       rw [HE4.out]
       refine ⟨fun st q' hh => ?_, fun hh => by cases hh⟩
       cases hh
       exact ⟨rfl, HI7.out⟩
      ·have d1 : (bt s (r1 : Int) == endc) = false := beq_eq_false_iff_ne.2 heq
       by_cases hcm : bt s (r1 : Int) = 44
       ·have d2 : (bt s (r1 : Int) != 44) = false := by rw [hcm]; rfl
        have hE := HE3.out
        rw [hia, decide_eq_false heq, if_neg (by simp), hia, decide_eq_true hcm, if_pos rfl] at hE
        have HE4 := Lib.hid hE
        clear hE HE3 hia heq hcm
        go_wp2_with fail
        have HR8 := HR7
        have HI8 := HI7
        clear HR7 HI7 HR6 HI6 h0 h1 hf d1 d2
        generalize w6.setCell ⟨g, 1, none⟩ (.int .i64 ((r1 : Int) + 1)) = w7 at HR8 HI8 ⊢
        refine (blanks g s (r1 + 1) rg4 tw4 _ HR8.out (by omega) hs).mono ?_
        rintro e w8 ⟨rfl, hR9, ht9⟩
        have HR9 := Lib.hid hR9
        have HI9 := Lib.hid (HM.out w7 w8 (r1 + 1) (skip s (r1 + 1)) st2 rg4 tw4 (runF_le isB s (r1 + 1)).1 HI8.out HR8.out hR9 ht9)
        have hle3 := runF_le isB s (r1 + 1)
        have hr3 : q + 1 ≤ skip s (r1 + 1) := by unfold skip; omega
        have hr4 : skip s (r1 + 1) ≤ s.size := by unfold skip; exact hle3.2 (by omega)
        clear hR9 ht9
        go_wp2_with fail
        go_roundw
        case rel => exact ⟨skip s (r1 + 1), st2, k, Lib.hid ⟨by omega, hr4, by omega⟩, HI9, HE4⟩
        case measure =>
         rw [HPW.out, posAt_is HR9.out]
         omega
       ·have d2 : (bt s (r1 : Int) != 44) = true := bne_iff_ne.2 hcm
        have hE := HE3.out
        rw [hia, decide_eq_false heq, if_neg (by simp), hia, decide_eq_false hcm, if_neg (by simp)] at hE
        have HE4 := Lib.hid hE
        clear hE HE3 hia heq hcm
        go_wp2_with fail
        rw [HE4.out]
        exact ⟨rfl, fun st q hh => (by cases hh), fun _ => ⟨rfl, HF.out _ _ _ HI7.out⟩⟩
     ·go_wp2_with fail
      refine (peek_no g s r1 rg4 tw4 _ HR5.out (by omega) hs).mono ?_
      rintro e w6 ⟨rfl, hb6⟩
      have hia : ∀ c, isAt s r1 c = false := fun c => by unfold isAt; rw [decide_eq_false hrs, Bool.false_and]
      have hE := HE3.out
      rw [hia, if_neg (by simp), hia, if_neg (by simp)] at hE
      have HE4 := Lib.hid hE
      clear hE HE3 hia
      go_wp2_with fail
      rw [HE4.out]
      exact ⟨rfl, fun st q hh => (by cases hh), fun _ => ⟨rfl, HQ.out _ _ (HF.out _ _ _ HI5.out) (Tch.of_below hb6 _)⟩⟩
 ·go_wp2_with fail
  refine (peek_no g s q rg tw _ HR2.out (by omega) hs).mono ?_
  rintro e w3 ⟨rfl, hb3⟩
  have hia : isAt s q endc = false := by unfold isAt; rw [decide_eq_false hqs, Bool.false_and]
  have hE := HE.out
  have hst : itG s step endc s.size q st0 = none := by
   cases hz : s.size with
   | zero => rfl
   | succ k =>
    rw [itG]
    cases hy : step q st0 with
    | none => rfl
    | some x =>
     have := HL.out q st0 x.1 x.2 hy
     omega
  rw [hia, if_neg (by simp), hst] at hE
  have HE4 := Lib.hid hE
  clear hE HE hia hst
  go_wp2_with fail
  rw [HE4.out]
  exact ⟨rfl, fun st q hh => (by cases hh), fun _ => ⟨rfl, HQ.out _ _ (HF.out _ _ _ HI2.out) (Tch.of_below hb3 _)⟩⟩
set_option maxRecDepth 100000 in
set_option maxHeartbeats 8000000 in
theorem items2 {σ : Type} (g : Nat) (s : ByteArray) (hs : s.size ≤ 1048576) (endc : Int) (p : Nat) (cap : Array Value) (Inv : World → Nat → σ → Prop) (Fr : World → Prop) (step : Nat → σ → Option (σ × Nat))
  (hRd : ∀ W q st, Inv W q st → ∃ rg tw, Rdr W g s q rg tw)
  (hFr : ∀ W q st, Inv W q st → Fr W)
  (hMove : ∀ W W' q r st rg tw, q ≤ r → Inv W q st → Rdr W g s q rg tw → Rdr W' g s r rg tw → Tch W W' (fun k => k = g) → Inv W' r st)
  (hLt : ∀ q st st' r, step q st = some (st', r) → q + 1 ≤ r ∧ r ≤ s.size)
  (hOne : ∀ W q st, Inv W q st → q ≤ s.size → p + 1 ≤ q → Calls Tryz.prog 88 cap W fun e W' => (∀ st' r, step q st = some (st', r) → e = .returned (.tuple #[]) ∧ Inv W' r st') ∧ (step q st = none → e = .panicked noForm ∧ Fr W'))
  (hFm : ∀ W W', Fr W → Tch W W' (fun k => k = g) → Fr W')
  (w : World) (st0 : σ) (h : Inv w p st0) (hp : p < s.size) (he : 0 ≤ endc ∧ endc ≤ 255 ∧ endc ≠ 44) :
  Calls Tryz.prog 86 #[.pointer (some ⟨g, 0, none⟩), .int .u8 endc, .func (.func 88) #[] cap] w fun e w' => (∀ st q, itF s step endc p st0 = some (st, q) → e = .returned (.tuple #[]) ∧ Inv w' q st) ∧ (itF s step endc p st0 = none → e = .panicked noForm ∧ Fr w') := by
 obtain ⟨rg, tw, hR⟩ := hRd w p st0 h
 have HR := Lib.hid hR
 have HI := Lib.hid h
 have HP := Lib.hid hRd
 have HF := Lib.hid hFr
 have HM := Lib.hid hMove
 have HL := Lib.hid hLt
 have HO := Lib.hid hOne
 have HQ := Lib.hid hFm
 obtain ⟨h0, h1, hf⟩ := hR.at_
 clear h hRd hFr hMove hLt hOne hFm hR
 go_enter Tryz.func86, Tryz.ntmps86
 go_wp2_with fail
 have HR1 := Lib.hid (Rdr.set HR.out ((p : Int) + 1) (p + 1) (by simp))
 have HT1 := Lib.hid (Tch.setCell (Tch.refl w (fun k => k = g)) (p := ⟨g, 1, none⟩) (.inl rfl) (.int .i64 ((p : Int) + 1)))
 clear h0 h1 hf
 generalize w.setCell ⟨g, 1, none⟩ (.int .i64 ((p : Int) + 1)) = w1 at HR1 HT1 ⊢
 refine (blanks g s (p + 1) rg tw _ HR1.out (by omega) hs).mono ?_
 rintro e w2 ⟨rfl, hR2, ht2⟩
 have HR2 := Lib.hid hR2
 have HT2 := Lib.hid (Tch.then_ HT1.out ht2 (fun k hk => .inl hk))
 have HI2 := Lib.hid (HM.out w w2 p (skip s (p + 1)) st0 rg tw (Nat.le_trans (Nat.le_succ p) (runF_le isB s (p + 1)).1) HI.out HR.out hR2 HT2.out)
 have hle := runF_le isB s (p + 1)
 have HE := Lib.hid (show itF s step endc p st0 = if isAt s (skip s (p + 1)) endc = true then some (st0, skip s (p + 1) + 1) else itG s step endc s.size (skip s (p + 1)) st0 from rfl)
 have hq1 : p + 1 ≤ skip s (p + 1) := by unfold skip; omega
 have hq2 : skip s (p + 1) ≤ s.size := by unfold skip; exact hle.2 (by omega)
 clear hR2 ht2 HR1 HT1 hle HI HR HT2
 generalize skip s (p + 1) = q at HR2 HI2 HE hq1 hq2
 by_cases hqs : q < s.size
 ·go_wp2_with fail
  refine (peek_ok g s q rg tw _ HR2.out hqs hs).mono ?_
  rintro e w3 ⟨rfl, hb3⟩
  have HR3 := Lib.hid (Rdr.below HR2.out hb3)
  have HI3 := Lib.hid (HM.out w2 w3 q q st0 rg tw (Nat.le_refl _) HI2.out HR2.out HR3.out (Tch.of_below hb3 _))
  clear hb3 HI2 HR2
  have hia : isAt s q endc = decide (bt s (q : Int) = endc) := by unfold isAt; rw [decide_eq_true hqs, Bool.true_and]
  by_cases heq : bt s (q : Int) = endc
  ·have d1 : (bt s (q : Int) == endc) = true := beq_iff_eq.2 heq
   have hE := HE.out
   rw [hia, decide_eq_true heq, if_pos rfl] at hE
   have HE2 := Lib.hid hE
   clear hE HE hia heq
   obtain ⟨h0, h1, hf⟩ := HR3.out.at_
   go_wp2_with fail
   refine bodyPost_ret (results_none rfl _ _ _) rfl ?_
   rw [HE2.out]
   refine ⟨fun st q' hh => ?_, fun hh => by cases hh⟩
   cases hh
   exact ⟨rfl, HM.out w3 _ q (q + 1) st0 rg tw (Nat.le_succ _) HI3.out HR3.out (Rdr.set HR3.out _ _ (by simp)) (Tch.setCell (Tch.refl w3 (fun k => k = g)) (p := ⟨g, 1, none⟩) (.inl rfl) _)⟩
  ·have d1 : (bt s (q : Int) == endc) = false := beq_eq_false_iff_ne.2 heq
   have hE := HE.out
   rw [hia, decide_eq_false heq, if_neg (by simp)] at hE
   have HE2 := Lib.hid hE
   clear hE HE hia heq
   go_wp2_with fail
   go_loopw [] (fun wr => ∃ (q : Nat) (st : σ) (k : Nat), Hid (p + 1 ≤ q ∧ q ≤ s.size ∧ s.size < q + k) ∧ Hid (Inv wr q st) ∧ Hid (itF s step endc p st0 = itG s step endc k q st)) (fun wr => s.size - posAt wr g)
   case atStart => exact ⟨q, st0, s.size, Lib.hid ⟨hq1, hq2, by omega⟩, HI3, HE2⟩
   case round =>
    clear HI3 HE2 HR3 hq1 hq2 hqs d1
    obtain ⟨q, st, k, HB, HI, HE⟩ := hrel
    obtain ⟨hb1, hb2, hb3⟩ := HB.out
    cases k with
    | zero => omega
    | succ k =>
    obtain ⟨rg, tw, hR⟩ := HP.out _ _ _ HI.out
    have HPW := Lib.hid (posAt_is hR)
    clear hR
    have hE := HE.out
    rw [itG] at hE
    have HE2 := Lib.hid hE
    clear hE HE
    go_wp2_with fail
    refine (HO.out wr q st HI.out hb2 hb1).mono ?_
    rintro e w4 ⟨hok, hno⟩
    cases hst : step q st with
    | none =>
     obtain ⟨rfl, hfr⟩ := hno hst
     have hE := HE2.out
     rw [hst] at hE
     have HE3 := Lib.hid hE
     clear hE hok hno hst HE2
     go_wp2_with fail
     rw [HE3.out]
     exact ⟨rfl, fun st q hh => (by cases hh), fun _ => ⟨rfl, hfr⟩⟩
    | some x =>
     obtain ⟨st2, r⟩ := x
     obtain ⟨rfl, hI4⟩ := hok st2 r hst
     have hle := HL.out _ _ _ _ hst
     obtain ⟨rg4, tw4, hR4⟩ := HP.out _ _ _ hI4
     have HI4 := Lib.hid hI4
     have HR4 := Lib.hid hR4
     have hE := HE2.out
     rw [hst] at hE
     have HE3 := Lib.hid (show itF s step endc p st0 = if isAt s (skip s r) endc = true then some (st2, skip s r + 1) else if isAt s (skip s r) 44 = true then itG s step endc k (skip s (skip s r + 1)) st2 else none from hE)
     clear hE hok hno hst HE2 hI4 hR4 HI
     go_wp2_with fail
     refine (blanks g s r rg4 tw4 _ HR4.out hle.2 hs).mono ?_
     rintro e w5 ⟨rfl, hR5, ht5⟩
     have HR5 := Lib.hid hR5
     have HI5 := Lib.hid (HM.out w4 w5 r (skip s r) st2 rg4 tw4 (runF_le isB s r).1 HI4.out HR4.out hR5 ht5)
     have hle2 := runF_le isB s r
     have hr1 : q + 1 ≤ skip s r := by unfold skip; omega
     have hr2 : skip s r ≤ s.size := by unfold skip; exact hle2.2 hle.2
     clear hR5 ht5 HR4 HI4 hle2 hle
     generalize skip s r = r1 at HR5 HI5 HE3 hr1 hr2
     by_cases hrs : r1 < s.size
     ·go_wp2_with fail
      refine (peek_ok g s r1 rg4 tw4 _ HR5.out hrs hs).mono ?_
      rintro e w6 ⟨rfl, hb6⟩
      have HR6 := Lib.hid (Rdr.below HR5.out hb6)
      have HI6 := Lib.hid (HM.out w5 w6 r1 r1 st2 rg4 tw4 (Nat.le_refl _) HI5.out HR5.out HR6.out (Tch.of_below hb6 _))
      clear hb6 HI5 HR5
      have hia : ∀ c, isAt s r1 c = decide (bt s (r1 : Int) = c) := fun c => by unfold isAt; rw [decide_eq_true hrs, Bool.true_and]
      obtain ⟨h0, h1, hf⟩ := HR6.out.at_
      have HR7 := Lib.hid (Rdr.set HR6.out ((r1 : Int) + 1) (r1 + 1) (by simp))
      have HI7 := Lib.hid (HM.out w6 _ r1 (r1 + 1) st2 rg4 tw4 (Nat.le_succ _) HI6.out HR6.out HR7.out (Tch.setCell (Tch.refl w6 (fun k => k = g)) (p := ⟨g, 1, none⟩) (.inl rfl) _))
      by_cases heq : bt s (r1 : Int) = endc
      ·have d1 : (bt s (r1 : Int) == endc) = true := beq_iff_eq.2 heq
       have hE := HE3.out
       rw [hia, decide_eq_true heq, if_pos rfl] at hE
       have HE4 := Lib.hid hE
       clear hE HE3 hia heq
       go_wp2_with fail
       refine bodyPost_ret (results_none rfl _ _ _) rfl ?_
       rw [HE4.out]
       refine ⟨fun st q' hh => ?_, fun hh => by cases hh⟩
       cases hh
       exact ⟨rfl, HI7.out⟩
      ·have d1 : (bt s (r1 : Int) == endc) = false := beq_eq_false_iff_ne.2 heq
       by_cases hcm : bt s (r1 : Int) = 44
       ·have d2 : (bt s (r1 : Int) != 44) = false := by rw [hcm]; rfl
        have hE := HE3.out
        rw [hia, decide_eq_false heq, if_neg (by simp), hia, decide_eq_true hcm, if_pos rfl] at hE
        have HE4 := Lib.hid hE
        clear hE HE3 hia heq hcm
        go_wp2_with fail
        have HR8 := HR7
        have HI8 := HI7
        clear HR7 HI7 HR6 HI6 h0 h1 hf d1 d2
        generalize w6.setCell ⟨g, 1, none⟩ (.int .i64 ((r1 : Int) + 1)) = w7 at HR8 HI8 ⊢
        refine (blanks g s (r1 + 1) rg4 tw4 _ HR8.out (by omega) hs).mono ?_
        rintro e w8 ⟨rfl, hR9, ht9⟩
        have HR9 := Lib.hid hR9
        have HI9 := Lib.hid (HM.out w7 w8 (r1 + 1) (skip s (r1 + 1)) st2 rg4 tw4 (runF_le isB s (r1 + 1)).1 HI8.out HR8.out hR9 ht9)
        have hle3 := runF_le isB s (r1 + 1)
        have hr3 : q + 1 ≤ skip s (r1 + 1) := by unfold skip; omega
        have hr4 : skip s (r1 + 1) ≤ s.size := by unfold skip; exact hle3.2 (by omega)
        clear hR9 ht9
        go_wp2_with fail
        go_roundw
        case rel => exact ⟨skip s (r1 + 1), st2, k, Lib.hid ⟨by omega, hr4, by omega⟩, HI9, HE4⟩
        case measure =>
         rw [HPW.out, posAt_is HR9.out]
         omega
       ·have d2 : (bt s (r1 : Int) != 44) = true := bne_iff_ne.2 hcm
        have hE := HE3.out
        rw [hia, decide_eq_false heq, if_neg (by simp), hia, decide_eq_false hcm, if_neg (by simp)] at hE
        have HE4 := Lib.hid hE
        clear hE HE3 hia heq hcm
        go_wp2_with fail
        rw [HE4.out]
        exact ⟨rfl, fun st q hh => (by cases hh), fun _ => ⟨rfl, HF.out _ _ _ HI7.out⟩⟩
     ·go_wp2_with fail
      refine (peek_no g s r1 rg4 tw4 _ HR5.out (by omega) hs).mono ?_
      rintro e w6 ⟨rfl, hb6⟩
      have hia : ∀ c, isAt s r1 c = false := fun c => by unfold isAt; rw [decide_eq_false hrs, Bool.false_and]
      have hE := HE3.out
      rw [hia, if_neg (by simp), hia, if_neg (by simp)] at hE
      have HE4 := Lib.hid hE
      clear hE HE3 hia
      go_wp2_with fail
      rw [HE4.out]
      exact ⟨rfl, fun st q hh => (by cases hh), fun _ => ⟨rfl, HQ.out _ _ (HF.out _ _ _ HI5.out) (Tch.of_below hb6 _)⟩⟩
 ·go_wp2_with fail
  refine (peek_no g s q rg tw _ HR2.out (by omega) hs).mono ?_
  rintro e w3 ⟨rfl, hb3⟩
  have hia : isAt s q endc = false := by unfold isAt; rw [decide_eq_false hqs, Bool.false_and]
  have hE := HE.out
  have hst : itG s step endc s.size q st0 = none := by
   cases hz : s.size with
   | zero => rfl
   | succ k =>
    rw [itG]
    cases hy : step q st0 with
    | none => rfl
    | some x =>
     have := HL.out q st0 x.1 x.2 hy
     omega
  rw [hia, if_neg (by simp), hst] at hE
  have HE4 := Lib.hid hE
  clear hE HE hia hst
  go_wp2_with fail
  rw [HE4.out]
  exact ⟨rfl, fun st q hh => (by cases hh), fun _ => ⟨rfl, HQ.out _ _ (HF.out _ _ _ HI2.out) (Tch.of_below hb3 _)⟩⟩
end Go.Proofs.YtbonodglnilkfaaGreatDoor.Read
