-- Printed
import Derived.Test.YtndagnkhjlgjgaaGreatDoorPJtx2
import Derived.Test.YtndagnkhjlgjgaaGreatDoorPJtx9
namespace Go.Proofs.YtndagnkhjlgjgaaGreatDoor.PJt
open Go.RowKit Own Xtra YtndagnkhjlgjgaaGreatDoorW.PrintWords YtndagnkhjlgjgaaGreatDoorW.PrintLast YtndagnkhjlgjgaaGreatDoorW.PrintMore
attribute [local go_sem] max2_int min2_int max_two min_two max_three min_three max_four min_four
set_option linter.unusedVariables false
set_option linter.unusedSimpArgs false
mutual
def spec_l1Index.j0 : Nat → ByteArray → Bool → Option (Int)
 | 0, _, _ => none
 | k + 1, x0, cK => if cK = true then (some (-1)) else (spec_l1Index.l0 k x0 0 0)
def spec_l1Index.l0 : Nat → ByteArray → Int → Int → Option (Int)
 | 0, _, _, _ => none
 | k + 1, x0, x3, x4 => if x4 < (x0.size : Int) then (if 0 ≤ x4 then ((spec_l1Digit.f (bt x0 x4)).bind fun bM => (if bM = true then (spec_l1Index.l0 k x0 (wrap64 ((wrap64 (x3 * 10)) + (((bt x0 x4) - 48) % 256))) (wrap64 (x4 + 1))) else (some (-1)))) else (none)) else (some x3)
end
def spec_l1Index.f (k : Nat) (a0 : ByteArray) : Option (Int) := if (a0.size : Int) < 1 then (spec_l1Index.j0 k a0 true) else (if (a0.size : Int) > 6 then (spec_l1Index.j0 k a0 true) else (if 0 < (a0.size : Int) then (if (bt a0 0) = 48 then (spec_l1Index.j0 k a0 (decide ((a0.size : Int) > 1))) else (spec_l1Index.j0 k a0 false)) else (none)))
set_option maxHeartbeats 8000000 in
set_option maxRecDepth 100000 in
theorem spec_l1Index.calls (k : Nat) (a0 : ByteArray) (r : Int) (w : World) (h : spec_l1Index.f k a0 = some r) :
  Calls Tryz.prog 98 #[.string a0] w fun e w' => e = .returned (.int .i64 r) ∧ Drawn0 w w' := by
 have H : (if (a0.size : Int) < 1 then (spec_l1Index.j0 k a0 true) else (if (a0.size : Int) > 6 then (spec_l1Index.j0 k a0 true) else (if 0 < (a0.size : Int) then (if (bt a0 0) = 48 then (spec_l1Index.j0 k a0 (decide ((a0.size : Int) > 1))) else (spec_l1Index.j0 k a0 false)) else (none)))) = some r := h; clear h; have cf := zam H; clear H
 go_enter Tryz.func98, Tryz.ntmps98
 go_upto_region 1 with (fail)
 go_cut [22] (fun v22 wc => ∃ (kq : Nat) (bx : Bool), v22 = .bool bx ∧ Aside0 (spec_l1Index.j0 kq a0 bx = some r) ∧ Aside0 (kq ≤ k) ∧ Drawn0 w wc)
 case first =>
  have H := cf.out; clear cf
  by_cases c3 : (a0.size : Int) < 1
  ·rw [if_pos c3] at H
   have bp := decide_eq_true c3; have cg : decide (a0.size < 1) = true := decide_eq_true (by omega); clear c3
   (first | rw [bp] | (simp only [i64_w, i32_w, IntKind.wrap_u8, IntKind.wrap_u32]; rw [bp]) | skip)
   have H' := zam H; clear H
   go_wp2
   go_meet
   case rel => exact ⟨_, (true), zrs, H', ⟨zlo0⟩, by repeat (first | exact Drawn0.refl _ | apply Drawn0.step)⟩
  ·rw [if_neg c3] at H
   have bp := decide_eq_false c3; have cg : decide (a0.size < 1) = false := decide_eq_false (by omega); clear c3
   (first | rw [bp] | (simp only [i64_w, i32_w, IntKind.wrap_u8, IntKind.wrap_u32]; rw [bp]) | skip)
   by_cases c4 : (a0.size : Int) > 6
   ·rw [if_pos c4] at H
    have bq := zgt c4; have bH : decide (6 < a0.size) = true := decide_eq_true (by omega); clear c4; have H' := zam H; clear H
    go_wp2
    go_meet
    case rel => exact ⟨_, (true), zrs, H', ⟨zlo0⟩, by repeat (first | exact Drawn0.refl _ | apply Drawn0.step)⟩
   ·rw [if_neg c4] at H
    have bq := zgt' c4; have bH : decide (6 < a0.size) = false := decide_eq_false (by omega); clear c4
    by_cases c5 : 0 < (a0.size : Int)
    ·rw [if_pos c5] at H
     have cL := decide_eq_true c5; have cM : decide (0 < a0.size) = true := decide_eq_true (by omega); clear c5
     by_cases c7 : (bt a0 0) = 48
     ·rw [if_pos c7] at H
      have ch := beq_iff_eq.mpr c7; have cj := bne_eq_false_iff_eq.mpr c7; clear c7; have H' := zam H; clear H; have p6 : 0 ≤ (0 : Int) := (by omega); have q6 : 0 < a0.size := (by have : (0 : Int) < (a0.size : Int) := of_decide_eq_true zas; omega)
      have cN : ∀ h : 0 < a0.size, ((a0[0]'h).toNat : Int) = bt a0 0 := bt_at a0 0
      clear p6; have qi6 : (0 < (a0.size : Int)) = True := eq_true (of_decide_eq_true zas); replace q6 := eq_true q6
      go_wp2
      go_meet
      case rel => exact ⟨_, (decide ((a0.size : Int) > 1)), zrs, H', ⟨zlo0⟩, by repeat (first | exact Drawn0.refl _ | apply Drawn0.step)⟩
     ·rw [if_neg c7] at H
      have ch := beq_eq_false_iff_ne.mpr c7; have cj := bne_iff_ne.mpr c7; have H' := zam H; clear H; have p6 : 0 ≤ (0 : Int) := (by omega); have q6 : 0 < a0.size := (by have : (0 : Int) < (a0.size : Int) := of_decide_eq_true zas; omega)
      have cN : ∀ h : 0 < a0.size, ((a0[0]'h).toNat : Int) = bt a0 0 := bt_at a0 0
      clear p6; have qi6 : (0 < (a0.size : Int)) = True := eq_true (of_decide_eq_true zas); replace q6 := eq_true q6
      go_wp2
      go_meet
      case rel => exact ⟨_, (false), zrs, H', ⟨zlo0⟩, by repeat (first | exact Drawn0.refl _ | apply Drawn0.step)⟩
    ·rw [if_neg c5] at H
     exact absurd H (by simp)
 case rest =>
  clear cf; obtain ⟨kq, bx, rfl, HA, cz, ⟨mc1, rfl⟩⟩ := hcut
  cases kq with
  | zero => exact absurd HA.out (by simp [spec_l1Index.j0])
  | succ kj1 =>
   have H := HA.out; clear HA
   simp only [spec_l1Index.j0] at H
   by_cases c8 : bx = true
   ·subst c8
    rw [if_pos rfl] at H; obtain rfl := Option.some.inj H
    go_wp2
    go_ret
    exact ⟨by first | rfl | (simp; done) | (simp [*]; done), by repeat (first | exact Drawn0.refl _ | apply Drawn0.step)⟩
   ·replace c8 := Bool.eq_false_iff.mpr c8
    subst c8; rw [if_neg (show ¬ (false = true) by decide)] at H; have H' := zam H; clear H
    go_wp2
    (try simp only [Act.put, List.setIfInBounds_toArray, List.set_cons_zero, List.set_cons_succ])
    go_loopg [3, 4] kj1 (fun kq v3 v4 w' => ∃ (bJ : Int) (bb : Int), v3 = .int .i64 bJ ∧ v4 = .int .i64 bb ∧ Aside0 (spec_l1Index.l0 kq a0 bJ bb = some r) ∧ Aside0 (kq ≤ kj1) ∧ Drawn0 w w')
    case atStart => exact ⟨(0), (0), zrs, zrs, H', ⟨Nat.le_refl _⟩, by repeat (first | exact Drawn0.refl _ | apply Drawn0.step)⟩
    case round =>
     clear H'; obtain ⟨bJ, bb, rfl, rfl, HA, HK2, ⟨m2, rfl⟩⟩ := hrel
     cases gk with
     | zero => exact absurd HA.out (by simp [spec_l1Index.l0])
     | succ k2 =>
      have H := HA.out; clear HA
      simp only [spec_l1Index.l0] at H
      by_cases c9 : bb < (a0.size : Int)
      ·rw [if_pos c9] at H
       have bS := decide_eq_true c9; clear c9
       by_cases bK : 0 ≤ bb
       ·rw [if_pos bK] at H
        have bT := decide_eq_true bK; clear bK; replace H := Option.bind_eq_some_iff.mp H; obtain ⟨bM, bV, H⟩ := H; have cB := zam bV; clear bV
        by_cases cb : bM = true
        ·subst cb
         rw [if_pos rfl] at H; have H' := zam H; clear H; have cP := zet (0 ≤ (bb : Int)); have cQ := zet (bb < (a0.size : Int)); have ck := bt_at a0 bb
         go_wp2_with (first | ((with_reducible refine gate_callee (f := 123) rfl ?_); refine goesL_ (some 32) rfl rfl Tryz.func123 (by kernel_rfl) rfl #[.int .u8 (bt a0 bb)] rfl zar ?_; (with_reducible refine (spec_l1Digit.calls (bt a0 bb) true _ cB.out).mono ?_); rintro e w' ⟨rfl, ⟨nd, rfl⟩⟩; refine ⟨_, rfl, ?_⟩; have cC : 0 ≤ (bb : Int) := of_decide_eq_true zas; have cD : bb < (a0.size : Int) := of_decide_eq_true zas; have cR := bt_at a0 bb; replace cC := eq_true cC; replace cD := eq_true cD))
         go_roundg k2
         case measure => have := cz.out; have := HK2.out; omega
         case rel => exact ⟨(wrap64 ((wrap64 (bJ * 10)) + (((bt a0 bb) - 48) % 256))), (wrap64 (bb + 1)), zrs, zrs, H', ⟨zlo2 cz.out HK2.out⟩, by repeat (first | exact Drawn0.refl _ | apply Drawn0.step)⟩
        ·replace cb := Bool.eq_false_iff.mpr cb
         subst cb; rw [if_neg (show ¬ (false = true) by decide)] at H; obtain rfl := Option.some.inj H; have cP := zet (0 ≤ (bb : Int)); have cQ := zet (bb < (a0.size : Int)); have ck := bt_at a0 bb
         go_wp2_with (first | ((with_reducible refine gate_callee (f := 123) rfl ?_); refine goesL_ (some 32) rfl rfl Tryz.func123 (by kernel_rfl) rfl #[.int .u8 (bt a0 bb)] rfl zar ?_; (with_reducible refine (spec_l1Digit.calls (bt a0 bb) false _ cB.out).mono ?_); rintro e w' ⟨rfl, ⟨nd, rfl⟩⟩; refine ⟨_, rfl, ?_⟩))
         go_ret
         exact ⟨by first | rfl | (simp; done) | (simp [*]; done), by repeat (first | exact Drawn0.refl _ | apply Drawn0.step)⟩
       ·rw [if_neg bK] at H
        exact absurd H (by simp)
      ·rw [if_neg c9] at H
       have bS := decide_eq_false c9; clear c9; obtain rfl := Option.some.inj H
       go_wp2
       go_ret
       exact ⟨by first | rfl | (simp; done) | (simp [*]; done), by repeat (first | exact Drawn0.refl _ | apply Drawn0.step)⟩
section
variable [Inhabited Rec]
def spec_l1Child.j0 : Nat → ByteArray → ByteArray → Bool → Option (Int)
 | 0, _, _, _ => none
 | k + 1, x0, x1, cS => if cS = true then (some (-1)) else ((spec_l1Parts.f k x0).bind fun bD => ((spec_l1Find.f k bD x1).bind fun bN => (some bN)))
def spec_l1Child.f (k : Nat) (a0 : ByteArray) (a1 : ByteArray) : Option (Int) := if 0 < (a0.size : Int) then (if (bt a0 0) = 91 then ((spec_l1Index.f k a1).bind fun bC => (spec_l1Child.j0 k a0 a1 (decide (bC < 0)))) else (spec_l1Child.j0 k a0 a1 false)) else (none)
set_option maxHeartbeats 8000000 in
set_option maxRecDepth 100000 in
theorem spec_l1Child.calls (k : Nat) (a0 : ByteArray) (a1 : ByteArray) (r : Int) (w : World) (h : spec_l1Child.f k a0 a1 = some r) :
  Calls Tryz.prog 56 #[.string a0, .string a1] w fun e w' => e = .returned (.int .i64 r) ∧ Below w.heap.size w w' := by
 have HB := zam (Below.refl w.heap.size w); have H : (if 0 < (a0.size : Int) then (if (bt a0 0) = 91 then ((spec_l1Index.f k a1).bind fun bC => (spec_l1Child.j0 k a0 a1 (decide (bC < 0)))) else (spec_l1Child.j0 k a0 a1 false)) else (none)) = some r := h; clear h; have cm := zam H; clear H
 go_enter Tryz.func56, Tryz.ntmps56
 go_upto_region 1 with (fail)
 go_cut [12] (fun v12 wc => ∃ (kq : Nat) (bz : Bool), v12 = .bool bz ∧ Aside0 (spec_l1Child.j0 kq a0 a1 bz = some r) ∧ Aside0 (kq ≤ k) ∧ Aside0 (Below w.heap.size w wc))
 case first =>
  have H := cm.out; clear cm
  by_cases c4 : 0 < (a0.size : Int)
  ·rw [if_pos c4] at H
   have bq := decide_eq_true c4; have bH : decide (0 < a0.size) = true := decide_eq_true (by omega); clear c4
   (first | rw [bq] | (simp only [i64_w, i32_w, IntKind.wrap_u8, IntKind.wrap_u32]; rw [bq]) | skip)
   by_cases c6 : (bt a0 0) = 91
   ·rw [if_pos c6] at H
    have bP := beq_iff_eq.mpr c6; have cn := bne_eq_false_iff_eq.mpr c6; clear c6; replace H := Option.bind_eq_some_iff.mp H; obtain ⟨bC, bW, H⟩ := H; have A7 := zam bW; clear bW; have H' := zam H; clear H; have p5 : 0 ≤ (0 : Int) := (by omega); have q5 : 0 < a0.size := (by have : (0 : Int) < (a0.size : Int) := of_decide_eq_true zas; omega)
    have cT : ∀ h : 0 < a0.size, ((a0[0]'h).toNat : Int) = bt a0 0 := bt_at a0 0
    clear p5; have qi5 : (0 < (a0.size : Int)) = True := eq_true (of_decide_eq_true zas); replace q5 := eq_true q5
    go_wp2_with (first | (go_at_call 98; (with_reducible refine (spec_l1Index.calls k a1 bC _ A7.out).mono ?_); rintro e w' ⟨rfl, ⟨nd, rfl⟩⟩))
    go_meet
    case rel => exact ⟨_, (decide (bC < 0)), zrs, H', ⟨zlo0⟩, ⟨zbl HB.out⟩⟩
   ·rw [if_neg c6] at H
    have bP := beq_eq_false_iff_ne.mpr c6; have cn := bne_iff_ne.mpr c6; have H' := zam H; clear H; have p5 : 0 ≤ (0 : Int) := (by omega); have q5 : 0 < a0.size := (by have : (0 : Int) < (a0.size : Int) := of_decide_eq_true zas; omega)
    have cT : ∀ h : 0 < a0.size, ((a0[0]'h).toNat : Int) = bt a0 0 := bt_at a0 0
    clear p5; have qi5 : (0 < (a0.size : Int)) = True := eq_true (of_decide_eq_true zas); replace q5 := eq_true q5
    go_wp2
    go_meet
    case rel => exact ⟨_, (false), zrs, H', ⟨zlo0⟩, ⟨zbl HB.out⟩⟩
  ·rw [if_neg c4] at H
   exact absurd H (by simp)
 case rest =>
  clear cm; obtain ⟨kq, bz, rfl, HA, db, HB⟩ := hcut
  cases kq with
  | zero => exact absurd HA.out (by simp [spec_l1Child.j0])
  | succ kj2 =>
   have H := HA.out; clear HA
   simp only [spec_l1Child.j0] at H
   by_cases c8 : bz = true
   ·subst c8
    rw [if_pos rfl] at H; obtain rfl := Option.some.inj H
    go_wp2
    go_ret
    exact ⟨zer, zbl HB.out⟩
   ·replace c8 := Bool.eq_false_iff.mpr c8
    subst c8; rw [if_neg (show ¬ (false = true) by decide)] at H; replace H := Option.bind_eq_some_iff.mp H; obtain ⟨bD, cF, H⟩ := H; have A9 := zam cF; clear cF; replace H := Option.bind_eq_some_iff.mp H; obtain ⟨bN, bX, H⟩ := H; have cV := zam bX; clear bX; obtain rfl := Option.some.inj H
    go_wp2_with (first | ((with_reducible refine gate_callee (f := 57) rfl ?_); refine goesL_ (some 14) rfl rfl Tryz.func57 (by kernel_rfl) rfl #[.string a0] rfl zar ?_; (with_reducible refine (spec_l1Parts.calls kj2 a0 bD _ A9.out).mono ?_); rintro e cW ⟨v285, rfl, bB, hb⟩; refine ⟨_, rfl, ?_⟩; have bF := zam (Kd.R_lower bB (below_size (zbl HB.out))); replace HB := zam (below_step (zbl HB.out) hb); (try clear hb); (try clear hb2); (try clear hk); (try clear hi); (try clear bB); obtain ⟨cp, cq, eo12⟩ := Kd.R_slice bF.out; subst eo12) | ((with_reducible refine gate_callee (f := 70) rfl ?_); refine goesL_ (some 16) rfl rfl Tryz.func70 (by kernel_rfl) rfl #[.slice cp bD.length cq, .string a1] rfl zar ?_; (with_reducible refine (spec_l1Find.calls kj2 _ _ bD a1 bN _ ?side1 ?side2 cV.out).mono ?_); (case side1 => repeat (first | exact (Kd.R_reads' bF.out).2.2 | (with_reducible refine Kd.C_alloc ?_ _) | (with_reducible refine Kd.C_drewN ?_ _) | (with_reducible refine Kd.C_drew ?_))); (case side2 => exact (Kd.R_reads' bF.out).2.1); rintro e w' ⟨rfl, ⟨nd, rfl⟩⟩; refine ⟨_, rfl, ?_⟩))
    go_ret
    exact ⟨zer, zbl HB.out⟩
def spec_l1Get.l0 : Nat → ByteArray → List ByteArray → Int → Option (ByteArray × Bool)
 | 0, _, _, _ => none
 | k + 1, x0, x1, x6 => if x6 < (x1.length : Int) then (if 0 ≤ x6 then ((spec_l1Child.f k x0 (rdOf ByteArray.empty x1 x6)).bind fun bg => (if bg < 0 then (some ((⟨#[]⟩ : ByteArray), false)) else ((spec_l1Parts.f k x0).bind fun br => (if 0 ≤ bg then (if bg < (br.length : Int) then (spec_l1Get.l0 k ((rd_T92 br bg).f1) x1 (wrap64 (x6 + 1))) else (none)) else (none))))) else (none)) else (some (x0, true))
def spec_l1Get.f (k : Nat) (a0 : ByteArray) (l1 : List ByteArray) : Option (ByteArray × Bool) := spec_l1Get.l0 k a0 l1 0
set_option maxHeartbeats 8000000 in
set_option maxRecDepth 100000 in
theorem spec_l1Get.calls (k : Nat) (a0 : ByteArray) (A1 : Option Addr) (c1 : Nat) (l1 : List ByteArray) (r1 : ByteArray) (r2 : Bool) (w : World) (hr1 : Kd.C Kd.string w A1 l1.length l1) (cG : l1.length ≤ c1) (h : spec_l1Get.f k a0 l1 = some (r1, r2)) :
  Calls Tryz.prog 29 #[.string a0, .slice A1 l1.length c1] w fun e w' => e = .returned (.tuple #[.string r1, .bool r2]) ∧ Below w.heap.size w w' := by
 have HR1 := zam hr1; have dc := zam cG; clear hr1 cG; have HB := zam (Below.refl w.heap.size w); have H : (spec_l1Get.l0 k a0 l1 0) = some (r1, r2) := h; clear h; have H' := zam H; clear H
 go_enter Tryz.func29, Tryz.ntmps29
 go_wp2
 (try simp only [Act.put, List.setIfInBounds_toArray, List.set_cons_zero, List.set_cons_succ])
 go_loopg [0, 6] k (fun kq v0 v6 w' => ∃ (bh : ByteArray) (bf : Int), v0 = .string bh ∧ v6 = .int .i64 bf ∧ Aside0 (spec_l1Get.l0 kq bh l1 bf = some (r1, r2)) ∧ Aside0 (kq ≤ k) ∧ Aside0 (Below w.heap.size w w'))
 case atStart => exact ⟨(a0), (0), zrs, zrs, H', ⟨Nat.le_refl _⟩, ⟨zbl HB.out⟩⟩
 case round =>
  clear H'; obtain ⟨bh, bf, rfl, rfl, HA, HK1, HB⟩ := hrel
  cases gk with
  | zero => exact absurd HA.out (by simp [spec_l1Get.l0])
  | succ k1 =>
   have H := HA.out; clear HA
   simp only [spec_l1Get.l0] at H
   by_cases c3 : bf < (l1.length : Int)
   ·rw [if_pos c3] at H
    have bp := decide_eq_true c3; clear c3
    by_cases c4 : 0 ≤ bf
    ·rw [if_pos c4] at H
     have bq := decide_eq_true c4; clear c4; replace H := Option.bind_eq_some_iff.mp H; obtain ⟨bg, bY, H⟩ := H; have A5 := zam bY; clear bY
     by_cases c6 : bg < 0
     ·rw [if_pos c6] at H
      have bP := decide_eq_true c6; clear c6
      simp only [Option.some.injEq, Prod.mk.injEq] at H
      obtain ⟨rfl, rfl⟩ := H; have bs : 0 ≤ (bf : Int) := of_decide_eq_true zas; have bv : bf < (l1.length : Int) := of_decide_eq_true zas; obtain ⟨ad288, e288, bc⟩ := Kd.at_string HR1.out bf bs bv
      cases e288
      replace bc := (HB.out.cell (World.block_lt_of_cell? w _ bc)).trans bc; replace bs := eq_true bs; replace bv := eq_true bv
      go_wp2_with (first | ((with_reducible refine gate_callee (f := 56) rfl ?_); refine goesL_ (some 19) rfl rfl Tryz.func56 (by kernel_rfl) rfl #[.string bh, .string (rdOf ByteArray.empty l1 bf)] rfl zar ?_; (with_reducible refine (spec_l1Child.calls k1 bh (rdOf ByteArray.empty l1 bf) bg _ A5.out).mono ?_); rintro e w7 ⟨rfl, hb⟩; refine ⟨_, rfl, ?_⟩; replace HB := zam (below_step (zbl HB.out) hb); (try clear hb); (try clear hb2); (try clear hk); (try clear hi)))
      go_ret2
      exact ⟨zer, zbl HB.out⟩
     ·rw [if_neg c6] at H
      have bP := decide_eq_false c6; clear c6; replace H := Option.bind_eq_some_iff.mp H; obtain ⟨br, cH, H⟩ := H; have A8 := zam cH; clear cH
      by_cases c9 : 0 ≤ bg
      ·rw [if_pos c9] at H
       have bS := decide_eq_true c9; clear c9
       by_cases bK : bg < (br.length : Int)
       ·rw [if_pos bK] at H
        have bT := decide_eq_true bK; clear bK; have H' := zam H; clear H; have bs : 0 ≤ (bf : Int) := of_decide_eq_true zas; have bv : bf < (l1.length : Int) := of_decide_eq_true zas; obtain ⟨ad288, e288, bc⟩ := Kd.at_string HR1.out bf bs bv
        cases e288
        replace bc := (HB.out.cell (World.block_lt_of_cell? w _ bc)).trans bc; replace bs := eq_true bs; replace bv := eq_true bv
        go_wp2_with (first | ((with_reducible refine gate_callee (f := 56) rfl ?_); refine goesL_ (some 19) rfl rfl Tryz.func56 (by kernel_rfl) rfl #[.string bh, .string (rdOf ByteArray.empty l1 bf)] rfl zar ?_; (with_reducible refine (spec_l1Child.calls k1 bh (rdOf ByteArray.empty l1 bf) bg _ A5.out).mono ?_); rintro e cW ⟨rfl, hb⟩; refine ⟨_, rfl, ?_⟩; replace HB := zam (below_step (zbl HB.out) hb); (try clear hb); (try clear hb2); (try clear hk); (try clear hi)) | ((with_reducible refine gate_callee (f := 57) rfl ?_); refine goesL_ (some 23) rfl rfl Tryz.func57 (by kernel_rfl) rfl #[.string bh] rfl zar ?_; (with_reducible refine (spec_l1Parts.calls k1 bh br _ A8.out).mono ?_); rintro e cX ⟨v291, rfl, bB, hb⟩; refine ⟨_, rfl, ?_⟩; have bL := zam (Kd.R_lower bB (below_size (zbl HB.out))); replace HB := zam (below_step (zbl HB.out) hb); (try clear hb); (try clear hb2); (try clear hk); (try clear hi); (try clear bB); obtain ⟨cY, cZ, eo13⟩ := Kd.R_slice bL.out; subst eo13; have bQ : 0 ≤ (bg : Int) := of_decide_eq_true zas; have bR : bg < (br.length : Int) := of_decide_eq_true zas; obtain ⟨ad293, e293, cc, cd⟩ := at_T92 (Kd.R_reads' bL.out).2.2 bg bQ bR; cases e293; replace bQ := eq_true bQ; replace bR := eq_true bR))
        go_roundg k1
        case measure => have := HK1.out; omega
        case rel => exact ⟨((rd_T92 br bg).f1), (wrap64 (bf + 1)), zrs, zrs, H', ⟨zlo HK1.out⟩, ⟨zbl HB.out⟩⟩
       ·rw [if_neg bK] at H
        exact absurd H (by simp)
      ·rw [if_neg c9] at H
       exact absurd H (by simp)
    ·rw [if_neg c4] at H
     exact absurd H (by simp)
   ·rw [if_neg c3] at H
    have bp := decide_eq_false c3; clear c3
    simp only [Option.some.injEq, Prod.mk.injEq] at H
    obtain ⟨rfl, rfl⟩ := H
    go_wp2
    go_ret2
    exact ⟨zer, zbl HB.out⟩
end
end Go.Proofs.YtndagnkhjlgjgaaGreatDoor.PJt
