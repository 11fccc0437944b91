/- The reader of JSON: the contracts by hand of items, with each of its two closures. -/
import Derived.Test.YtndagnkhjlgjgaaGreatDoorProg
import Derived.Below
import Derived.Deep.Draws
import Derived.Deep.AppendLies
import Derived.Maps.AppendAt
import Derived.OwnWalk
import Derived.Laws.BytesArg
import Derived.Laws.MakeOwn
import Derived.Laws.OwnMore
import Derived.Deep.OwnRows
import Derived.Tactics
import Derived.Lib.ConvBytes
import Derived.Laws.Slices
import Derived.WalkKit
import Derived.KernelRfl
import Derived.RowKit3
import Derived.Deep.LoopGhost
import Derived.Deep.QuietTactic
import Derived.BigQuiet
import Derived.WideLaws
import Derived.Deep.DeepCutAuto
import Derived.Deep.CutBlock
import Derived.Deep.RegionHeld3
import Derived.Laws.Rows
import Derived.Lib.AppendStr
import Derived.ArgAppend
import Derived.Laws.IdiomCopy
import Derived.OrdersHeld
import Derived.Laws.BitsLemmas
import Derived.RowKit
import Derived.Test.YtndagnkhjlgjgaaGreatDoorTxt
namespace Go.Proofs.YtndagnkhjlgjgaaGreatDoor.Read
open Go Go.RowKit YtndagnkhjlgjgaaGreatDoorW.PrintWords Str Tchs Tree
set_option linter.unusedVariables false
set_option linter.unusedSimpArgs false
def itG {σ : Type} (s : ByteArray) (step : Nat → σ → Option (σ × Nat)) (e : Int) : Nat → Nat → σ → Option (σ × Nat)
 | 0, _, _ => none
 | k + 1, q, st => match step q st with
  | none => none
  | some (st', r) => if isAt s (skip s r) e = true then some (st', skip s r + 1) else if isAt s (skip s r) 44 = true then itG s step e k (skip s (skip s r + 1)) st' else none
def itF {σ : Type} (s : ByteArray) (step : Nat → σ → Option (σ × Nat)) (e : Int) (p : Nat) (st : σ) : Option (σ × Nat) :=
 if isAt s (skip s (p + 1)) e = true then some (st, skip s (p + 1) + 1) else itG s step e s.size (skip s (p + 1)) st
set_option maxRecDepth 100000 in
set_option maxHeartbeats 8000000 in
theorem items1 {σ : Type} (g : Nat) (s : ByteArray) (hs : s.size ≤ 1048576) (endc : Int) (p : Nat) (cap : Array Value) (Inv : World → Nat → σ → Prop) (Fr : World → Prop) (step : Nat → σ → Option (σ × Nat))
  (hRd : ∀ W q st, Inv W q st → ∃ rg tw, Rdr W g s q rg tw)
  (hFr : ∀ W q st, Inv W q st → Fr W)
  (hMove : ∀ W W' q r st rg tw, q ≤ r → Inv W q st → Rdr W g s q rg tw → Rdr W' g s r rg tw → Tch W W' (fun k => k = g) → Inv W' r st)
  (hLt : ∀ q st st' r, step q st = some (st', r) → q + 1 ≤ r ∧ r ≤ s.size)
  (hOne : ∀ W q st, Inv W q st → q ≤ s.size → p + 1 ≤ q → Calls Tryz.prog 131 cap W fun e W' => (∀ st' r, step q st = some (st', r) → e = .returned (.tuple #[]) ∧ Inv W' r st') ∧ (step q st = none → e = .panicked noForm ∧ Fr W'))
  (hFm : ∀ W W', Fr W → Tch W W' (fun k => k = g) → Fr W')
  (w : World) (st0 : σ) (h : Inv w p st0) (hp : p < s.size) (he : 0 ≤ endc ∧ endc ≤ 255 ∧ endc ≠ 44) :
  Calls Tryz.prog 130 #[.pointer (some ⟨g, 0, none⟩), .int .u8 endc, .func (.func 131) #[] cap] w fun e w' => (∀ st q, itF s step endc p st0 = some (st, q) → e = .returned (.tuple #[]) ∧ Inv w' q st) ∧ (itF s step endc p st0 = none → e = .panicked noForm ∧ Fr w') := by
 obtain ⟨rg, tw, hR⟩ := hRd w p st0 h
 have HR := Lib.hid hR
 have HI := Lib.hid h
 have HP := Lib.hid hRd
 have HF := Lib.hid hFr
 have HM := Lib.hid hMove
 have HL := Lib.hid hLt
 have HO := Lib.hid hOne
 have HQ := Lib.hid hFm
 obtain ⟨h0, h1, hf⟩ := hR.at_
 clear h hRd hFr hMove hLt hOne hFm hR
 go_enter Tryz.func130, Tryz.ntmps130
 go_wp2_with fail
 have HR1 := Lib.hid (Rdr.set HR.out ((p : Int) + 1) (p + 1) (by simp))
 have HT1 := Lib.hid (Tch.setCell (Tch.refl w (fun k => k = g)) (p := ⟨g, 1, none⟩) (.inl rfl) (.int .i64 ((p : Int) + 1)))
 clear h0 h1 hf
 generalize w.setCell ⟨g, 1, none⟩ (.int .i64 ((p : Int) + 1)) = w1 at HR1 HT1 ⊢
 refine (blanks g s (p + 1) rg tw _ HR1.out (by omega) hs).mono ?_
 rintro e w2 ⟨rfl, hR2, ht2⟩
 have HR2 := Lib.hid hR2
 have HT2 := Lib.hid (Tch.then_ HT1.out ht2 (fun k hk => .inl hk))
 have HI2 := Lib.hid (HM.out w w2 p (skip s (p + 1)) st0 rg tw (Nat.le_trans (Nat.le_succ p) (runF_le isB s (p + 1)).1) HI.out HR.out hR2 HT2.out)
 have hle := runF_le isB s (p + 1)
 have HE := Lib.hid (show itF s step endc p st0 = if isAt s (skip s (p + 1)) endc = true then some (st0, skip s (p + 1) + 1) else itG s step endc s.size (skip s (p + 1)) st0 from rfl)
 have hq1 : p + 1 ≤ skip s (p + 1) := by unfold skip; omega
 have hq2 : skip s (p + 1) ≤ s.size := by unfold skip; exact hle.2 (by omega)
 clear hR2 ht2 HR1 HT1 hle HI HR HT2
 generalize skip s (p + 1) = q at HR2 HI2 HE hq1 hq2
 by_cases hqs : q < s.size
 ·go_wp2_with fail
  refine (peek_ok g s q rg tw _ HR2.out hqs hs).mono ?_
  rintro e w3 ⟨rfl, hb3⟩
  have HR3 := Lib.hid (Rdr.below HR2.out hb3)
  have HI3 := Lib.hid (HM.out w2 w3 q q st0 rg tw (Nat.le_refl _) HI2.out HR2.out HR3.out (Tch.of_below hb3 _))
  clear hb3 HI2 HR2
  have hia : isAt s q endc = decide (bt s (q : Int) = endc) := by unfold isAt; rw [decide_eq_true hqs, Bool.true_and]
  by_cases heq : bt s (q : Int) = endc
  ·have d1 : (bt s (q : Int) == endc) = true := beq_iff_eq.2 heq
   have hE := HE.out
   rw [hia, decide_eq_true heq, if_pos rfl] at hE
   have HE2 := Lib.hid hE
   clear hE HE hia heq
   obtain ⟨h0, h1, hf⟩ := HR3.out.at_
   go_wp2_with fail
   refine bodyPost_ret (results_none rfl _ _ _) rfl ?_
   rw [HE2.out]
   refine ⟨fun st q' hh => ?_, fun hh => by cases hh⟩
   cases hh
   exact ⟨rfl, HM.out w3 _ q (q + 1) st0 rg tw (Nat.le_succ _) HI3.out HR3.out (Rdr.set HR3.out _ _ (by simp)) (Tch.setCell (Tch.refl w3 (fun k => k = g)) (p := ⟨g, 1, none⟩) (.inl rfl) _)⟩
  ·have d1 : (bt s (q : Int) == endc) = false := beq_eq_false_iff_ne.2 heq
   have hE := HE.out
   rw [hia, decide_eq_false heq, if_neg (by simp)] at hE
   have HE2 := Lib.hid hE
   clear hE HE hia heq
   go_wp2_with fail
   go_loopw [] (fun wr => ∃ (q : Nat) (st : σ) (k : Nat), Hid (p + 1 ≤ q ∧ q ≤ s.size ∧ s.size < q + k) ∧ Hid (Inv wr q st) ∧ Hid (itF s step endc p st0 = itG s step endc k q st)) (fun wr => s.size - posAt wr g)
   case atStart => exact ⟨q, st0, s.size, Lib.hid ⟨hq1, hq2, by omega⟩, HI3, HE2⟩
   case round =>
    clear HI3 HE2 HR3 hq1 hq2 hqs d1
    obtain ⟨q, st, k, HB, HI, HE⟩ := hrel
    obtain ⟨hb1, hb2, hb3⟩ := HB.out
    cases k with
    | zero => omega
    | succ k =>
    obtain ⟨rg, tw, hR⟩ := HP.out _ _ _ HI.out
    have HPW := Lib.hid (posAt_is hR)
    clear hR
    have hE := HE.out
    rw [itG] at hE
    have HE2 := Lib.hid hE
    clear hE HE
    go_wp2_with fail
    refine (HO.out wr q st HI.out hb2 hb1).mono ?_
    rintro e w4 ⟨hok, hno⟩
    cases hst : step q st with
    | none =>
     obtain ⟨rfl, hfr⟩ := hno hst
     have hE := HE2.out
     rw [hst] at hE
     have HE3 := Lib.hid hE
     clear hE hok hno hst HE2
     go_wp2_with fail
     rw [HE3.out]
     exact ⟨rfl, fun st q hh => (by cases hh), fun _ => ⟨rfl, hfr⟩⟩
    | some x =>
     obtain ⟨st2, r⟩ := x
     obtain ⟨rfl, hI4⟩ := hok st2 r hst
     have hle := HL.out _ _ _ _ hst
     obtain ⟨rg4, tw4, hR4⟩ := HP.out _ _ _ hI4
     have HI4 := Lib.hid hI4
     have HR4 := Lib.hid hR4
     have hE := HE2.out
     rw [hst] at hE
     have HE3 := Lib.hid (show itF s step endc p st0 = if isAt s (skip s r) endc = true then some (st2, skip s r + 1) else if isAt s (skip s r) 44 = true then itG s step endc k (skip s (skip s r + 1)) st2 else none from hE)
     clear hE hok hno hst HE2 hI4 hR4 HI
     go_wp2_with fail
     refine (blanks g s r rg4 tw4 _ HR4.out hle.2 hs).mono ?_
     rintro e w5 ⟨rfl, hR5, ht5⟩
     have HR5 := Lib.hid hR5
     have HI5 := Lib.hid (HM.out w4 w5 r (skip s r) st2 rg4 tw4 (runF_le isB s r).1 HI4.out HR4.out hR5 ht5)
     have hle2 := runF_le isB s r
     have hr1 : q + 1 ≤ skip s r := by unfold skip; omega
     have hr2 : skip s r ≤ s.size := by unfold skip; exact hle2.2 hle.2
     clear hR5 ht5 HR4 HI4 hle2 hle
     generalize skip s r = r1 at HR5 HI5 HE3 hr1 hr2
     by_cases hrs : r1 < s.size
     ·go_wp2_with fail
      refine (peek_ok g s r1 rg4 tw4 _ HR5.out hrs hs).mono ?_
      rintro e w6 ⟨rfl, hb6⟩
      have HR6 := Lib.hid (Rdr.below HR5.out hb6)
      have HI6 := Lib.hid (HM.out w5 w6 r1 r1 st2 rg4 tw4 (Nat.le_refl _) HI5.out HR5.out HR6.out (Tch.of_below hb6 _))
      clear hb6 HI5 HR5
      have hia : ∀ c, isAt s r1 c = decide (bt s (r1 : Int) = c) := fun c => by unfold isAt; rw [decide_eq_true hrs, Bool.true_and]
      obtain ⟨h0, h1, hf⟩ := HR6.out.at_
      have HR7 := Lib.hid (Rdr.set HR6.out ((r1 : Int) + 1) (r1 + 1) (by simp))
      have HI7 := Lib.hid (HM.out w6 _ r1 (r1 + 1) st2 rg4 tw4 (Nat.le_succ _) HI6.out HR6.out HR7.out (Tch.setCell (Tch.refl w6 (fun k => k = g)) (p := ⟨g, 1, none⟩) (.inl rfl) _))
      by_cases heq : bt s (r1 : Int) = endc
      ·have d1 : (bt s (r1 : Int) == endc) = true := beq_iff_eq.2 heq
       have hE := HE3.out
       rw [hia, decide_eq_true heq, if_pos rfl] at hE
       have HE4 := Lib.hid hE
       clear hE HE3 hia heq
       go_wp2_with fail
       refine bodyPost_ret (results_none rfl _ _ _) rfl ?_
       rw [HE4.out]
       refine ⟨fun st q' hh => ?_, fun hh => by cases hh⟩
       cases hh
       exact ⟨rfl, HI7.out⟩
      ·have d1 : (bt s (r1 : Int) == endc) = false := beq_eq_false_iff_ne.2 heq
       by_cases hcm : bt s (r1 : Int) = 44
       ·have d2 : (bt s (r1 : Int) != 44) = false := by rw [hcm]; rfl
        have hE := HE3.out
        rw [hia, decide_eq_false heq, if_neg (by simp), hia, decide_eq_true hcm, if_pos rfl] at hE
        have HE4 := Lib.hid hE
        clear hE HE3 hia heq hcm
        go_wp2_with fail
        have HR8 := HR7
        have HI8 := HI7
        clear HR7 HI7 HR6 HI6 h0 h1 hf d1 d2
        generalize w6.setCell ⟨g, 1, none⟩ (.int .i64 ((r1 : Int) + 1)) = w7 at HR8 HI8 ⊢
        refine (blanks g s (r1 + 1) rg4 tw4 _ HR8.out (by omega) hs).mono ?_
        rintro e w8 ⟨rfl, hR9, ht9⟩
        have HR9 := Lib.hid hR9
        have HI9 := Lib.hid (HM.out w7 w8 (r1 + 1) (skip s (r1 + 1)) st2 rg4 tw4 (runF_le isB s (r1 + 1)).1 HI8.out HR8.out hR9 ht9)
        have hle3 := runF_le isB s (r1 + 1)
        have hr3 : q + 1 ≤ skip s (r1 + 1) := by unfold skip; omega
        have hr4 : skip s (r1 + 1) ≤ s.size := by unfold skip; exact hle3.2 (by omega)
        clear hR9 ht9
        go_wp2_with fail
        go_roundw
        case rel => exact ⟨skip s (r1 + 1), st2, k, Lib.hid ⟨by omega, hr4, by omega⟩, HI9, HE4⟩
        case measure =>
         rw [HPW.out, posAt_is HR9.out]
         omega
       ·have d2 : (bt s (r1 : Int) != 44) = true := bne_iff_ne.2 hcm
        have hE := HE3.out
        rw [hia, decide_eq_false heq, if_neg (by simp), hia, decide_eq_false hcm, if_neg (by simp)] at hE
        have HE4 := Lib.hid hE
        clear hE HE3 hia heq hcm
        go_wp2_with fail
        rw [HE4.out]
        exact ⟨rfl, fun st q hh => (by cases hh), fun _ => ⟨rfl, HF.out _ _ _ HI7.out⟩⟩
     ·go_wp2_with fail
      refine (peek_no g s r1 rg4 tw4 _ HR5.out (by omega) hs).mono ?_
      rintro e w6 ⟨rfl, hb6⟩
      have hia : ∀ c, isAt s r1 c = false := fun c => by unfold isAt; rw [decide_eq_false hrs, Bool.false_and]
      have hE := HE3.out
      rw [hia, if_neg (by simp), hia, if_neg (by simp)] at hE
      have HE4 := Lib.hid hE
      clear hE HE3 hia
      go_wp2_with fail
      rw [HE4.out]
      exact ⟨rfl, fun st q hh => (by cases hh), fun _ => ⟨rfl, HQ.out _ _ (HF.out _ _ _ HI5.out) (Tch.of_below hb6 _)⟩⟩
 ·go_wp2_with fail
  refine (peek_no g s q rg tw _ HR2.out (by omega) hs).mono ?_
  rintro e w3 ⟨rfl, hb3⟩
  have hia : isAt s q endc = false := by unfold isAt; rw [decide_eq_false hqs, Bool.false_and]
  have hE := HE.out
  have hst : itG s step endc s.size q st0 = none := by
   cases hz : s.size with
   | zero => rfl
   | succ k =>
    rw [itG]
    cases hy : step q st0 with
    | none => rfl
    | some x =>
     have := HL.out q st0 x.1 x.2 hy
     omega
  rw [hia, if_neg (by simp), hst] at hE
  have HE4 := Lib.hid hE
  clear hE HE hia hst
  go_wp2_with fail
  rw [HE4.out]
  exact ⟨rfl, fun st q hh => (by cases hh), fun _ => ⟨rfl, HQ.out _ _ (HF.out _ _ _ HI2.out) (Tch.of_below hb3 _)⟩⟩
set_option maxRecDepth 100000 in
set_option maxHeartbeats 8000000 in
theorem items2 {σ : Type} (g : Nat) (s : ByteArray) (hs : s.size ≤ 1048576) (endc : Int) (p : Nat) (cap : Array Value) (Inv : World → Nat → σ → Prop) (Fr : World → Prop) (step : Nat → σ → Option (σ × Nat))
  (hRd : ∀ W q st, Inv W q st → ∃ rg tw, Rdr W g s q rg tw)
  (hFr : ∀ W q st, Inv W q st → Fr W)
  (hMove : ∀ W W' q r st rg tw, q ≤ r → Inv W q st → Rdr W g s q rg tw → Rdr W' g s r rg tw → Tch W W' (fun k => k = g) → Inv W' r st)
  (hLt : ∀ q st st' r, step q st = some (st', r) → q + 1 ≤ r ∧ r ≤ s.size)
  (hOne : ∀ W q st, Inv W q st → q ≤ s.size → p + 1 ≤ q → Calls Tryz.prog 132 cap W fun e W' => (∀ st' r, step q st = some (st', r) → e = .returned (.tuple #[]) ∧ Inv W' r st') ∧ (step q st = none → e = .panicked noForm ∧ Fr W'))
  (hFm : ∀ W W', Fr W → Tch W W' (fun k => k = g) → Fr W')
  (w : World) (st0 : σ) (h : Inv w p st0) (hp : p < s.size) (he : 0 ≤ endc ∧ endc ≤ 255 ∧ endc ≠ 44) :
  Calls Tryz.prog 130 #[.pointer (some ⟨g, 0, none⟩), .int .u8 endc, .func (.func 132) #[] cap] w fun e w' => (∀ st q, itF s step endc p st0 = some (st, q) → e = .returned (.tuple #[]) ∧ Inv w' q st) ∧ (itF s step endc p st0 = none → e = .panicked noForm ∧ Fr w') := by
 obtain ⟨rg, tw, hR⟩ := hRd w p st0 h
 have HR := Lib.hid hR
 have HI := Lib.hid h
 have HP := Lib.hid hRd
 have HF := Lib.hid hFr
 have HM := Lib.hid hMove
 have HL := Lib.hid hLt
 have HO := Lib.hid hOne
 have HQ := Lib.hid hFm
 obtain ⟨h0, h1, hf⟩ := hR.at_
 clear h hRd hFr hMove hLt hOne hFm hR
 go_enter Tryz.func130, Tryz.ntmps130
 go_wp2_with fail
 have HR1 := Lib.hid (Rdr.set HR.out ((p : Int) + 1) (p + 1) (by simp))
 have HT1 := Lib.hid (Tch.setCell (Tch.refl w (fun k => k = g)) (p := ⟨g, 1, none⟩) (.inl rfl) (.int .i64 ((p : Int) + 1)))
 clear h0 h1 hf
 generalize w.setCell ⟨g, 1, none⟩ (.int .i64 ((p : Int) + 1)) = w1 at HR1 HT1 ⊢
 refine (blanks g s (p + 1) rg tw _ HR1.out (by omega) hs).mono ?_
 rintro e w2 ⟨rfl, hR2, ht2⟩
 have HR2 := Lib.hid hR2
 have HT2 := Lib.hid (Tch.then_ HT1.out ht2 (fun k hk => .inl hk))
 have HI2 := Lib.hid (HM.out w w2 p (skip s (p + 1)) st0 rg tw (Nat.le_trans (Nat.le_succ p) (runF_le isB s (p + 1)).1) HI.out HR.out hR2 HT2.out)
 have hle := runF_le isB s (p + 1)
 have HE := Lib.hid (show itF s step endc p st0 = if isAt s (skip s (p + 1)) endc = true then some (st0, skip s (p + 1) + 1) else itG s step endc s.size (skip s (p + 1)) st0 from rfl)
 have hq1 : p + 1 ≤ skip s (p + 1) := by unfold skip; omega
 have hq2 : skip s (p + 1) ≤ s.size := by unfold skip; exact hle.2 (by omega)
 clear hR2 ht2 HR1 HT1 hle HI HR HT2
 generalize skip s (p + 1) = q at HR2 HI2 HE hq1 hq2
 by_cases hqs : q < s.size
 ·go_wp2_with fail
  refine (peek_ok g s q rg tw _ HR2.out hqs hs).mono ?_
  rintro e w3 ⟨rfl, hb3⟩
  have HR3 := Lib.hid (Rdr.below HR2.out hb3)
  have HI3 := Lib.hid (HM.out w2 w3 q q st0 rg tw (Nat.le_refl _) HI2.out HR2.out HR3.out (Tch.of_below hb3 _))
  clear hb3 HI2 HR2
  have hia : isAt s q endc = decide (bt s (q : Int) = endc) := by unfold isAt; rw [decide_eq_true hqs, Bool.true_and]
  by_cases heq : bt s (q : Int) = endc
  ·have d1 : (bt s (q : Int) == endc) = true := beq_iff_eq.2 heq
   have hE := HE.out
   rw [hia, decide_eq_true heq, if_pos rfl] at hE
   have HE2 := Lib.hid hE
   clear hE HE hia heq
   obtain ⟨h0, h1, hf⟩ := HR3.out.at_
   go_wp2_with fail
   refine bodyPost_ret (results_none rfl _ _ _) rfl ?_
   rw [HE2.out]
   refine ⟨fun st q' hh => ?_, fun hh => by cases hh⟩
   cases hh
   exact ⟨rfl, HM.out w3 _ q (q + 1) st0 rg tw (Nat.le_succ _) HI3.out HR3.out (Rdr.set HR3.out _ _ (by simp)) (Tch.setCell (Tch.refl w3 (fun k => k = g)) (p := ⟨g, 1, none⟩) (.inl rfl) _)⟩
  ·have d1 : (bt s (q : Int) == endc) = false := beq_eq_false_iff_ne.2 heq
   have hE := HE.out
   rw [hia, decide_eq_false heq, if_neg (by simp)] at hE
   have HE2 := Lib.hid hE
   clear hE HE hia heq
   go_wp2_with fail
   go_loopw [] (fun wr => ∃ (q : Nat) (st : σ) (k : Nat), Hid (p + 1 ≤ q ∧ q ≤ s.size ∧ s.size < q + k) ∧ Hid (Inv wr q st) ∧ Hid (itF s step endc p st0 = itG s step endc k q st)) (fun wr => s.size - posAt wr g)
   case atStart => exact ⟨q, st0, s.size, Lib.hid ⟨hq1, hq2, by omega⟩, HI3, HE2⟩
   case round =>
    clear HI3 HE2 HR3 hq1 hq2 hqs d1
    obtain ⟨q, st, k, HB, HI, HE⟩ := hrel
    obtain ⟨hb1, hb2, hb3⟩ := HB.out
    cases k with
    | zero => omega
    | succ k =>
    obtain ⟨rg, tw, hR⟩ := HP.out _ _ _ HI.out
    have HPW := Lib.hid (posAt_is hR)
    clear hR
    have hE := HE.out
    rw [itG] at hE
    have HE2 := Lib.hid hE
    clear hE HE
    go_wp2_with fail
    refine (HO.out wr q st HI.out hb2 hb1).mono ?_
    rintro e w4 ⟨hok, hno⟩
    cases hst : step q st with
    | none =>
     obtain ⟨rfl, hfr⟩ := hno hst
     have hE := HE2.out
     rw [hst] at hE
     have HE3 := Lib.hid hE
     clear hE hok hno hst HE2
     go_wp2_with fail
     rw [HE3.out]
     exact ⟨rfl, fun st q hh => (by cases hh), fun _ => ⟨rfl, hfr⟩⟩
    | some x =>
     obtain ⟨st2, r⟩ := x
     obtain ⟨rfl, hI4⟩ := hok st2 r hst
     have hle := HL.out _ _ _ _ hst
     obtain ⟨rg4, tw4, hR4⟩ := HP.out _ _ _ hI4
     have HI4 := Lib.hid hI4
     have HR4 := Lib.hid hR4
     have hE := HE2.out
     rw [hst] at hE
     have HE3 := Lib.hid (show itF s step endc p st0 = if isAt s (skip s r) endc = true then some (st2, skip s r + 1) else if isAt s (skip s r) 44 = true then itG s step endc k (skip s (skip s r + 1)) st2 else none from hE)
     clear hE hok hno hst HE2 hI4 hR4 HI
     go_wp2_with fail
     refine (blanks g s r rg4 tw4 _ HR4.out hle.2 hs).mono ?_
     rintro e w5 ⟨rfl, hR5, ht5⟩
     have HR5 := Lib.hid hR5
     have HI5 := Lib.hid (HM.out w4 w5 r (skip s r) st2 rg4 tw4 (runF_le isB s r).1 HI4.out HR4.out hR5 ht5)
     have hle2 := runF_le isB s r
     have hr1 : q + 1 ≤ skip s r := by unfold skip; omega
     have hr2 : skip s r ≤ s.size := by unfold skip; exact hle2.2 hle.2
     clear hR5 ht5 HR4 HI4 hle2 hle
     generalize skip s r = r1 at HR5 HI5 HE3 hr1 hr2
     by_cases hrs : r1 < s.size
     ·go_wp2_with fail
      refine (peek_ok g s r1 rg4 tw4 _ HR5.out hrs hs).mono ?_
      rintro e w6 ⟨rfl, hb6⟩
      have HR6 := Lib.hid (Rdr.below HR5.out hb6)
      have HI6 := Lib.hid (HM.out w5 w6 r1 r1 st2 rg4 tw4 (Nat.le_refl _) HI5.out HR5.out HR6.out (Tch.of_below hb6 _))
      clear hb6 HI5 HR5
      have hia : ∀ c, isAt s r1 c = decide (bt s (r1 : Int) = c) := fun c => by unfold isAt; rw [decide_eq_true hrs, Bool.true_and]
      obtain ⟨h0, h1, hf⟩ := HR6.out.at_
      have HR7 := Lib.hid (Rdr.set HR6.out ((r1 : Int) + 1) (r1 + 1) (by simp))
      have HI7 := Lib.hid (HM.out w6 _ r1 (r1 + 1) st2 rg4 tw4 (Nat.le_succ _) HI6.out HR6.out HR7.out (Tch.setCell (Tch.refl w6 (fun k => k = g)) (p := ⟨g, 1, none⟩) (.inl rfl) _))
      by_cases heq : bt s (r1 : Int) = endc
      ·have d1 : (bt s (r1 : Int) == endc) = true := beq_iff_eq.2 heq
       have hE := HE3.out
       rw [hia, decide_eq_true heq, if_pos rfl] at hE
       have HE4 := Lib.hid hE
       clear hE HE3 hia heq
       go_wp2_with fail
       refine bodyPost_ret (results_none rfl _ _ _) rfl ?_
       rw [HE4.out]
       refine ⟨fun st q' hh => ?_, fun hh => by cases hh⟩
       cases hh
       exact ⟨rfl, HI7.out⟩
      ·have d1 : (bt s (r1 : Int) == endc) = false := beq_eq_false_iff_ne.2 heq
       by_cases hcm : bt s (r1 : Int) = 44
       ·have d2 : (bt s (r1 : Int) != 44) = false := by rw [hcm]; rfl
        have hE := HE3.out
        rw [hia, decide_eq_false heq, if_neg (by simp), hia, decide_eq_true hcm, if_pos rfl] at hE
        have HE4 := Lib.hid hE
        clear hE HE3 hia heq hcm
        go_wp2_with fail
        have HR8 := HR7
        have HI8 := HI7
        clear HR7 HI7 HR6 HI6 h0 h1 hf d1 d2
        generalize w6.setCell ⟨g, 1, none⟩ (.int .i64 ((r1 : Int) + 1)) = w7 at HR8 HI8 ⊢
        refine (blanks g s (r1 + 1) rg4 tw4 _ HR8.out (by omega) hs).mono ?_
        rintro e w8 ⟨rfl, hR9, ht9⟩
        have HR9 := Lib.hid hR9
        have HI9 := Lib.hid (HM.out w7 w8 (r1 + 1) (skip s (r1 + 1)) st2 rg4 tw4 (runF_le isB s (r1 + 1)).1 HI8.out HR8.out hR9 ht9)
        have hle3 := runF_le isB s (r1 + 1)
        have hr3 : q + 1 ≤ skip s (r1 + 1) := by unfold skip; omega
        have hr4 : skip s (r1 + 1) ≤ s.size := by unfold skip; exact hle3.2 (by omega)
        clear hR9 ht9
        go_wp2_with fail
        go_roundw
        case rel => exact ⟨skip s (r1 + 1), st2, k, Lib.hid ⟨by omega, hr4, by omega⟩, HI9, HE4⟩
        case measure =>
         rw [HPW.out, posAt_is HR9.out]
         omega
       ·have d2 : (bt s (r1 : Int) != 44) = true := bne_iff_ne.2 hcm
        have hE := HE3.out
        rw [hia, decide_eq_false heq, if_neg (by simp), hia, decide_eq_false hcm, if_neg (by simp)] at hE
        have HE4 := Lib.hid hE
        clear hE HE3 hia heq hcm
        go_wp2_with fail
        rw [HE4.out]
        exact ⟨rfl, fun st q hh => (by cases hh), fun _ => ⟨rfl, HF.out _ _ _ HI7.out⟩⟩
     ·go_wp2_with fail
      refine (peek_no g s r1 rg4 tw4 _ HR5.out (by omega) hs).mono ?_
      rintro e w6 ⟨rfl, hb6⟩
      have hia : ∀ c, isAt s r1 c = false := fun c => by unfold isAt; rw [decide_eq_false hrs, Bool.false_and]
      have hE := HE3.out
      rw [hia, if_neg (by simp), hia, if_neg (by simp)] at hE
      have HE4 := Lib.hid hE
      clear hE HE3 hia
      go_wp2_with fail
      rw [HE4.out]
      exact ⟨rfl, fun st q hh => (by cases hh), fun _ => ⟨rfl, HQ.out _ _ (HF.out _ _ _ HI5.out) (Tch.of_below hb6 _)⟩⟩
 ·go_wp2_with fail
  refine (peek_no g s q rg tw _ HR2.out (by omega) hs).mono ?_
  rintro e w3 ⟨rfl, hb3⟩
  have hia : isAt s q endc = false := by unfold isAt; rw [decide_eq_false hqs, Bool.false_and]
  have hE := HE.out
  have hst : itG s step endc s.size q st0 = none := by
   cases hz : s.size with
   | zero => rfl
   | succ k =>
    rw [itG]
    cases hy : step q st0 with
    | none => rfl
    | some x =>
     have := HL.out q st0 x.1 x.2 hy
     omega
  rw [hia, if_neg (by simp), hst] at hE
  have HE4 := Lib.hid hE
  clear hE HE hia hst
  go_wp2_with fail
  rw [HE4.out]
  exact ⟨rfl, fun st q hh => (by cases hh), fun _ => ⟨rfl, HQ.out _ _ (HF.out _ _ _ HI2.out) (Tch.of_below hb3 _)⟩⟩
end Go.Proofs.YtndagnkhjlgjgaaGreatDoor.Read
namespace Go.Proofs.YtndagnkhjlgjgaaGreatDoor.PJt
open Go.RowKit YtndagnkhjlgjgaaGreatDoorW.PrintWords YtndagnkhjlgjgaaGreatDoorW.PrintLast YtndagnkhjlgjgaaGreatDoorW.PrintMore
attribute [local go_sem] max2_int min2_int max_two min_two max_three min_three max_four min_four
set_option linter.unusedVariables false
set_option linter.unusedSimpArgs false
def errW : Option Int → Value
 | none => .nilIface
 | some c => .iface 0 (.int .i64 c)
theorem errW_none : errW none = .nilIface := rfl
theorem errW_some (c : Int) : errW (some c) = .iface 0 (.int .i64 c) := rfl
theorem info5 : (Tryz.prog.info? 5).map (fun i => (i.zero, i.size, i.bytes)) = some (some (.int .u8 0), 1, 1) := by kernel_rfl
theorem info9 : (Tryz.prog.info? 9).map (fun i => (i.zero, i.size, i.bytes)) = some (some (.string ⟨#[]⟩), 1, 16) := by kernel_rfl
theorem info92 : (Tryz.prog.info? 92).map (fun i => (i.zero, i.size, i.bytes)) = some (some (.agg #[(.string ⟨#[]⟩), (.string ⟨#[]⟩)]), 2, 32) := by kernel_rfl
structure S92 where
 f0 : ByteArray
 f1 : ByteArray
def z92 : S92 := ⟨(⟨#[]⟩ : ByteArray), (⟨#[]⟩ : ByteArray)⟩
def k92 : Kd S92 := Kd.iso (Kd.pair Kd.string Kd.string) (fun x : S92 => (x.f0, x.f1))
theorem k92_open {w : World} {x : S92} {cs : List Value} (h : k92.K w x cs) : cs = [.string x.f0, .string x.f1] := by
 obtain ⟨_, _, rfl, rfl, rfl⟩ := h
 exact rfl
theorem k92_openM {w : World} {base : Nat} {ok : Nat → Prop} {x : S92} {cs : List Value} (h : k92.M w base ok x cs) : cs = [.string x.f0, .string x.f1] := by
 obtain ⟨_, _, rfl, rfl, rfl⟩ := h
 exact rfl
theorem k92_mkM (w : World) (base : Nat) (ok : Nat → Prop) (x : S92)  : k92.M w base ok x [.string x.f0, .string x.f1] := ⟨[.string x.f0], [.string x.f1], rfl, rfl, rfl⟩
def rd_T92 (xs : List S92) (i : Int) : S92 := xs.getD i.toNat z92
theorem at_T92 {w : World} {A : Option Addr} {n : Nat} {xs : List S92} (h : Kd.C k92 w A n xs) (i : Int) (h0 : 0 ≤ i) (h1 : i < n) : ∃ ad , A = some ad ∧ w.cell? (ad.add (i.toNat * 2)) = some (.string (rd_T92 xs i).f0) ∧ w.cell? ⟨(ad.add (i.toNat * 2)).block, (ad.add (i.toNat * 2)).off + 1, none⟩ = some (.string (rd_T92 xs i).f1) := by
 obtain ⟨ad, c, e, _, hK, bb⟩ := Kd.C_get h z92 i h0 h1
 have hc : ∀ j u, c[j]? = some u → w.cell? (ad.add (i.toNat * 2 + j)) = some u := bb
 obtain rfl := k92_open hK
 exact ⟨ad, e, hc 0 _ rfl, by rw [← add_field _ _ 1 (by omega)]; exact hc 1 _ rfl⟩
end Go.Proofs.YtndagnkhjlgjgaaGreatDoor.PJt
namespace Go.Proofs.YtndagnkhjlgjgaaGreatDoor.Own
open Go Go.RowKit YtndagnkhjlgjgaaGreatDoorW.PrintWords PJt
set_option linter.unusedVariables false
def strings_IndexByte.f (a0 : ByteArray) (a1 : Int) : Option Int := some (Lib.indexByte a0.data.toList a1.toNat.toUInt8)
theorem strings_IndexByte.calls (a0 : ByteArray) (a1 : Int) (r : Int) (w : World) (h : strings_IndexByte.f a0 a1 = some r) :
  Calls Tryz.prog 134 #[.string a0, .int .u8 a1] w fun e w' => e = .returned (.int .i64 r) ∧ Drawn0 w w' := by
 obtain rfl := Option.some.inj h
 refine (Tryz.strings_IndexByte a0 a1 w).mono ?_
 rintro e w' ⟨he, rfl⟩
 exact ⟨he, Drawn0.refl _⟩
structure Rec where
 str : ByteArray → Int → Option (ByteArray × Int × Bool)
 join : List S92 → Option ByteArray
 big : ByteArray → Option Bool
 val : ByteArray → Int → Option (ByteArray × Int × Bool × Bool × Bool)
 dec : Int → Option ByteArray
 sz : ByteArray → Option (Int × Int)
 hstr : ∀ (a0 : ByteArray) (a1 : Int) (r1 : ByteArray) (r2 : Int) (r3 : Bool) (w : World), str a0 a1 = some (r1, r2, r3) →
  Calls Tryz.prog 92 #[.string a0, .int .i64 a1] w fun e w' => e = .returned (.tuple #[.string r1, .int .i64 r2, .bool r3]) ∧ Below w.heap.size w w'
 hmk : ∀ (A0 : Option Addr) (c0 : Nat) (l0 : List S92) (r : ByteArray) (w : World), Kd.C k92 w A0 l0.length l0 → l0.length ≤ c0 → join l0 = some r →
  Calls Tryz.prog 120 #[.slice A0 l0.length c0] w fun e w' => e = .returned (.string r) ∧ Below w.heap.size w w'
 hbig : ∀ (a0 : ByteArray) (r : Bool) (w : World), big a0 = some r →
  Calls Tryz.prog 124 #[.string a0] w fun e w' => e = .returned (.bool r) ∧ Drawn0 w w'
 hval : ∀ (a0 : ByteArray) (a1 : Int) (r1 : ByteArray) (r2 : Int) (r3 r4 r5 : Bool) (w : World), val a0 a1 = some (r1, r2, r3, r4, r5) →
  Calls Tryz.prog 49 #[.string a0, .int .i64 a1] w fun e w' => e = .returned (.agg #[.string r1, .int .i64 r2, .bool r3, .bool r4, .bool r5]) ∧ Below w.heap.size w w'
 hdec : ∀ (a0 : Int) (r : ByteArray) (w : World), dec a0 = some r →
  Calls Tryz.prog 99 #[.int .i64 a0] w fun e w' => e = .returned (.string r) ∧ Below w.heap.size w w'
 hsz : ∀ (a0 : ByteArray) (r1 r2 : Int) (w : World), sz a0 = some (r1, r2) →
  Calls Tryz.prog 52 #[.string a0] w fun e w' => e = .returned (.tuple #[.int .i64 r1, .int .i64 r2]) ∧ Below w.heap.size w w'
variable [Inhabited Rec]
def spec_l1String.f (a0 : ByteArray) (a1 : Int) : Option (ByteArray × Int × Bool) := (default : Rec).str a0 a1
theorem spec_l1String.calls (a0 : ByteArray) (a1 : Int) (r1 : ByteArray) (r2 : Int) (r3 : Bool) (w : World) (h : spec_l1String.f a0 a1 = some (r1, r2, r3)) :
  Calls Tryz.prog 92 #[.string a0, .int .i64 a1] w fun e w' => e = .returned (.tuple #[.string r1, .int .i64 r2, .bool r3]) ∧ Below w.heap.size w w' := (default : Rec).hstr a0 a1 r1 r2 r3 w h
def spec_l1Make.f (l0 : List S92) : Option ByteArray := (default : Rec).join l0
theorem spec_l1Make.calls (A0 : Option Addr) (c0 : Nat) (l0 : List S92) (r : ByteArray) (w : World) (hr0 : Kd.C k92 w A0 l0.length l0) (hc0 : l0.length ≤ c0) (h : spec_l1Make.f l0 = some r) :
  Calls Tryz.prog 120 #[.slice A0 l0.length c0] w fun e w' => e = .returned (.string r) ∧ Below w.heap.size w w' := (default : Rec).hmk A0 c0 l0 r w hr0 hc0 h
def spec_l1TooBig.f (a0 : ByteArray) : Option Bool := (default : Rec).big a0
theorem spec_l1TooBig.calls (a0 : ByteArray) (r : Bool) (w : World) (h : spec_l1TooBig.f a0 = some r) :
  Calls Tryz.prog 124 #[.string a0] w fun e w' => e = .returned (.bool r) ∧ Drawn0 w w' := (default : Rec).hbig a0 r w h
def spec_l1Value.f (a0 : ByteArray) (a1 : Int) : Option (ByteArray × Int × Bool × Bool × Bool) := (default : Rec).val a0 a1
theorem spec_l1Value.calls (a0 : ByteArray) (a1 : Int) (r1 : ByteArray) (r2 : Int) (r3 r4 r5 : Bool) (w : World) (h : spec_l1Value.f a0 a1 = some (r1, r2, r3, r4, r5)) :
  Calls Tryz.prog 49 #[.string a0, .int .i64 a1] w fun e w' => e = .returned (.agg #[.string r1, .int .i64 r2, .bool r3, .bool r4, .bool r5]) ∧ Below w.heap.size w w' := (default : Rec).hval a0 a1 r1 r2 r3 r4 r5 w h
def spec_l1Dec.f (a0 : Int) : Option ByteArray := (default : Rec).dec a0
theorem spec_l1Dec.calls (a0 : Int) (r : ByteArray) (w : World) (h : spec_l1Dec.f a0 = some r) :
  Calls Tryz.prog 99 #[.int .i64 a0] w fun e w' => e = .returned (.string r) ∧ Below w.heap.size w w' := (default : Rec).hdec a0 r w h
def spec_l1Sizes.f (a0 : ByteArray) : Option (Int × Int) := (default : Rec).sz a0
theorem spec_l1Sizes.calls (a0 : ByteArray) (r1 r2 : Int) (w : World) (h : spec_l1Sizes.f a0 = some (r1, r2)) :
  Calls Tryz.prog 52 #[.string a0] w fun e w' => e = .returned (.tuple #[.int .i64 r1, .int .i64 r2]) ∧ Below w.heap.size w w' := (default : Rec).hsz a0 r1 r2 w h
end Go.Proofs.YtndagnkhjlgjgaaGreatDoor.Own
namespace Go.Proofs.YtndagnkhjlgjgaaGreatDoor.Read
open Go Go.RowKit YtndagnkhjlgjgaaGreatDoorW.PrintWords Str Tchs Tree
set_option linter.unusedVariables false
set_option linter.unusedSimpArgs false
abbrev L7 : List UInt8 := [57, 50, 50, 51, 51, 55, 50, 48, 51, 54, 56, 53, 52, 55, 55, 53, 56, 48, 55]
abbrev L8 : List UInt8 := [57, 50, 50, 51, 51, 55, 50, 48, 51, 54, 56, 53, 52, 55, 55, 53, 56, 48, 56]
def tooD (lim : List UInt8) (d : ByteArray) : Bool := if d.size = 19 then (!Op.bytesLess d.toList lim && !(d.toList == lim)) else decide ((19 : Int) < (d.size : Int))
def tooB (x : ByteArray) : Bool := if bt x 0 = 45 then tooD L8 (x.extract 1 x.size) else tooD L7 x
set_option maxRecDepth 100000 in
set_option maxHeartbeats 4000000 in
theorem l1TooBig (x : ByteArray) (w : World) (hx : 0 < x.size) :
  Calls Tryz.prog 124 #[.string x] w fun e w' => e = .returned (.bool (tooB x)) ∧ Drawn0 w w' := by
 have i1 : (0 : Int) < (x.size : Int) := by omega
 have hb : bt x 0 = ((x[0]'hx).toNat : Int) := by simp [bt, hx]
 have i2 : (1 : Int) ≤ (x.size : Int) := by omega
 go_enter Tryz.func124, Tryz.ntmps124
 by_cases h : bt x 0 = 45
 ·have HE := Lib.hid (show tooB x = tooD L8 (x.extract 1 x.size) by unfold tooB; rw [if_pos h])
  have d1 : (((x[0]'hx).toNat : Int) == 45) = true := by rw [← hb, h]; rfl
  have hz : (x.extract 1 x.size).size = x.size - 1 := by simp
  have HZ := Lib.hid hz
  clear hz
  by_cases hs : x.size - 1 = 19
  ·have d2 : (((x.size - 1 : Nat) : Int) != 19) = false := by simp [hs]
   have HS := Lib.hid hs
   clear hs
   go_wp2_with fail
   go_ret
   rw [HE.out]
   unfold tooD
   rw [if_pos (by rw [HZ.out]; exact HS.out)]
   exact ⟨rfl, Drawn0.refl _⟩
  ·have d2 : (((x.size - 1 : Nat) : Int) != 19) = true := by simp; omega
   have HS := Lib.hid hs
   clear hs
   go_wp2_with fail
   go_ret
   rw [HE.out]
   unfold tooD
   rw [if_neg (by rw [HZ.out]; exact HS.out), HZ.out]
   exact ⟨rfl, Drawn0.refl _⟩
 ·have HE := Lib.hid (show tooB x = tooD L7 x by unfold tooB; rw [if_neg h])
  have d1 : (((x[0]'hx).toNat : Int) == 45) = false := by rw [← hb]; simpa using h
  by_cases hs : x.size = 19
  ·have d2 : ((x.size : Int) != 19) = false := by simp [hs]
   have HS := Lib.hid hs
   clear hs
   go_wp2_with fail
   go_ret
   rw [HE.out]
   unfold tooD
   rw [if_pos HS.out]
   exact ⟨rfl, Drawn0.refl _⟩
  ·have d2 : ((x.size : Int) != 19) = true := by simp; omega
   have HS := Lib.hid hs
   clear hs
   go_wp2_with fail
   go_ret
   rw [HE.out]
   unfold tooD
   rw [if_neg HS.out]
   exact ⟨rfl, Drawn0.refl _⟩
end Go.Proofs.YtndagnkhjlgjgaaGreatDoor.Read
