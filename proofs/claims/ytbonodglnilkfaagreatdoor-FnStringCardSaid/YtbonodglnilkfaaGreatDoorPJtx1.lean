-- Written by a turned copy of the kit print (wip/patch_print.py of this repo), this session
import Derived.Test.YtbonodglnilkfaaGreatDoorPJtx0
import Derived.Test.YtbonodglnilkfaaGreatDoorOwn
import Derived.Test.YtbonodglnilkfaaGreatDoorPJsx1
namespace Go.Proofs.YtbonodglnilkfaaGreatDoor.PJt
open Go.RowKit Go.Proofs.YtbonodglnilkfaaGreatDoor.Own Go.Proofs.YtbonodglnilkfaaGreatDoor.Xtra Go.Proofs.YtbonodglnilkfaaGreatDoorW.PrintWords Go.Proofs.YtbonodglnilkfaaGreatDoorW.PrintLast Go.Proofs.YtbonodglnilkfaaGreatDoorW.PrintMore
attribute [local go_sem] max2_int min2_int max_two min_two max_three min_three max_four min_four   -- for this text's walks alone
set_option linter.unusedVariables false
set_option linter.unusedSimpArgs false
abbrev spec_l1Quoted.f (k : Nat) (a0 : ByteArray) : Option (ByteArray) := Go.Proofs.YtbonodglnilkfaaGreatDoor.PJs.spec_l1Quoted.f k a0
theorem spec_l1Quoted.calls (k : Nat) (a0 : ByteArray) (r : ByteArray) (w : World) (h : spec_l1Quoted.f k a0 = some r) :
  Calls Tryz.prog 29 #[.string a0] w fun e w' => e = .returned (.string r) ∧ Below w.heap.size w w' := Go.Proofs.YtbonodglnilkfaaGreatDoor.PJs.spec_l1Quoted.calls k a0 r w h
abbrev spec_l1At.f (a0 : ByteArray) (a1 : Int) (a2 : Int) : Option (Bool) := Go.Proofs.YtbonodglnilkfaaGreatDoor.PJs.spec_l1At.f a0 a1 a2
theorem spec_l1At.calls (a0 : ByteArray) (a1 : Int) (a2 : Int) (r : Bool) (w : World) (h : spec_l1At.f a0 a1 a2 = some r) :
  Calls Tryz.prog 37 #[.string a0, .int .i64 a1, .int .u8 a2] w fun e w' => e = .returned (.bool r) ∧ Drawn0 w w' := Go.Proofs.YtbonodglnilkfaaGreatDoor.PJs.spec_l1At.calls a0 a1 a2 r w h
def spec_l1Skip.l0 : Nat → ByteArray → Int → Option (Int)
 | 0, _, _ => none
 | k + 1, x0, x1 => if x1 < (x0.size : Int) then (if 0 ≤ x1 then (if (bt x0 x1) = 32 then (spec_l1Skip.l0 k x0 (wrap64 (x1 + 1))) else (if (bt x0 x1) = 9 then (spec_l1Skip.l0 k x0 (wrap64 (x1 + 1))) else (if (bt x0 x1) = 10 then (spec_l1Skip.l0 k x0 (wrap64 (x1 + 1))) else (if (bt x0 x1) = 13 then (spec_l1Skip.l0 k x0 (wrap64 (x1 + 1))) else (some x1))))) else (none)) else (some x1)
def spec_l1Skip.f (k : Nat) (a0 : ByteArray) (a1 : Int) : Option (Int) := spec_l1Skip.l0 k a0 a1
set_option maxHeartbeats 8000000 in
set_option maxRecDepth 100000 in
theorem spec_l1Skip.calls (k : Nat) (a0 : ByteArray) (a1 : Int) (r : Int) (w : World) (h : spec_l1Skip.f k a0 a1 = some r) :
  Calls Tryz.prog 18 #[.string a0, .int .i64 a1] w fun e w' => e = .returned (.int .i64 r) ∧ Drawn0 w w' := by
 have H : (spec_l1Skip.l0 k a0 a1) = some r := h
 clear h
 have H' := zam H
 clear H
 go_enter Tryz.func18, Tryz.ntmps18
 go_wp2
 (try simp only [Act.put, List.setIfInBounds_toArray, List.set_cons_zero, List.set_cons_succ])
 go_loopg [1] k (fun kq v1 w' => ∃ (bb : Int), v1 = .int .i64 bb ∧ Aside0 (spec_l1Skip.l0 kq a0 bb = some r) ∧ Aside0 (kq ≤ k) ∧ Drawn0 w w')
 case atStart => exact ⟨(a1), zrs, H', ⟨Nat.le_refl _⟩, by repeat (first | exact Drawn0.refl _ | apply Drawn0.step)⟩
 case round =>
  clear H'
  obtain ⟨bb, rfl, HA, HK1, ⟨m1, rfl⟩⟩ := hrel
  cases gk with
  | zero => exact absurd HA.out (by simp [spec_l1Skip.l0])
  | succ k1 =>
   have H := HA.out
   clear HA
   simp only [spec_l1Skip.l0] at H
   by_cases c3 : bb < (a0.size : Int)
   ·rw [if_pos c3] at H
    have fN := decide_eq_true c3
    clear c3
    by_cases c4 : 0 ≤ bb
    ·rw [if_pos c4] at H
     have cm := decide_eq_true c4
     clear c4
     by_cases c6 : (bt a0 bb) = 32
     ·rw [if_pos c6] at H
      have fP := beq_iff_eq.mpr c6
      have fQ := bne_eq_false_iff_eq.mpr c6
      clear c6
      have H' := zam H
      clear H
      have p5 := zet (0 ≤ (bb : Int))
      have q5 := zet (bb < (a0.size : Int))
      have fg := bt_at a0 bb
      go_wp2
      go_roundg k1
      case measure => have := HK1.out; omega
      case rel => exact ⟨(wrap64 (bb + 1)), zrs, H', ⟨zlo HK1.out⟩, by repeat (first | exact Drawn0.refl _ | apply Drawn0.step)⟩
     ·rw [if_neg c6] at H
      have fP := beq_eq_false_iff_ne.mpr c6
      have fQ := bne_iff_ne.mpr c6
      by_cases c8 : (bt a0 bb) = 9
      ·rw [if_pos c8] at H
       have bL := beq_iff_eq.mpr c8
       have cB := bne_eq_false_iff_eq.mpr c8
       clear c8
       have H' := zam H
       clear H
       have p5 := zet (0 ≤ (bb : Int))
       have q5 := zet (bb < (a0.size : Int))
       have fg := bt_at a0 bb
       have p7 := zet (0 ≤ (bb : Int))
       have q7 := zet (bb < (a0.size : Int))
       have fR := bt_at a0 bb
       go_wp2
       go_roundg k1
       case measure => have := HK1.out; omega
       case rel => exact ⟨(wrap64 (bb + 1)), zrs, H', ⟨zlo HK1.out⟩, by repeat (first | exact Drawn0.refl _ | apply Drawn0.step)⟩
      ·rw [if_neg c8] at H
       have bL := beq_eq_false_iff_ne.mpr c8
       have cB := bne_iff_ne.mpr c8
       by_cases ck : (bt a0 bb) = 10
       ·rw [if_pos ck] at H
        have dM := beq_iff_eq.mpr ck
        have dN := bne_eq_false_iff_eq.mpr ck
        clear ck
        have H' := zam H
        clear H
        have p5 := zet (0 ≤ (bb : Int))
        have q5 := zet (bb < (a0.size : Int))
        have fg := bt_at a0 bb
        have p7 := zet (0 ≤ (bb : Int))
        have q7 := zet (bb < (a0.size : Int))
        have fR := bt_at a0 bb
        have p9 := zet (0 ≤ (bb : Int))
        have q9 := zet (bb < (a0.size : Int))
        have fY := bt_at a0 bb
        go_wp2
        go_roundg k1
        case measure => have := HK1.out; omega
        case rel => exact ⟨(wrap64 (bb + 1)), zrs, H', ⟨zlo HK1.out⟩, by repeat (first | exact Drawn0.refl _ | apply Drawn0.step)⟩
       ·rw [if_neg ck] at H
        have dM := beq_eq_false_iff_ne.mpr ck
        have dN := bne_iff_ne.mpr ck
        by_cases cJ : (bt a0 bb) = 13
        ·rw [if_pos cJ] at H
         have dP := beq_iff_eq.mpr cJ
         have dQ := bne_eq_false_iff_eq.mpr cJ
         clear cJ
         have H' := zam H
         clear H
         have p5 := zet (0 ≤ (bb : Int))
         have q5 := zet (bb < (a0.size : Int))
         have fg := bt_at a0 bb
         have p7 := zet (0 ≤ (bb : Int))
         have q7 := zet (bb < (a0.size : Int))
         have fR := bt_at a0 bb
         have p9 := zet (0 ≤ (bb : Int))
         have q9 := zet (bb < (a0.size : Int))
         have fY := bt_at a0 bb
         have gg := zet (0 ≤ (bb : Int))
         have gh := zet (bb < (a0.size : Int))
         have fS := bt_at a0 bb
         go_wp2
         go_roundg k1
         case measure => have := HK1.out; omega
         case rel => exact ⟨(wrap64 (bb + 1)), zrs, H', ⟨zlo HK1.out⟩, by repeat (first | exact Drawn0.refl _ | apply Drawn0.step)⟩
        ·rw [if_neg cJ] at H
         have dP := beq_eq_false_iff_ne.mpr cJ
         have dQ := bne_iff_ne.mpr cJ
         obtain rfl := Option.some.inj H
         have p5 := zet (0 ≤ (bb : Int))
         have q5 := zet (bb < (a0.size : Int))
         have fg := bt_at a0 bb
         have p7 := zet (0 ≤ (bb : Int))
         have q7 := zet (bb < (a0.size : Int))
         have fR := bt_at a0 bb
         have p9 := zet (0 ≤ (bb : Int))
         have q9 := zet (bb < (a0.size : Int))
         have fY := bt_at a0 bb
         have gg := zet (0 ≤ (bb : Int))
         have gh := zet (bb < (a0.size : Int))
         have fS := bt_at a0 bb
         go_wp2
         go_ret
         exact ⟨by first | rfl | (simp; done) | (simp [*]; done), by repeat (first | exact Drawn0.refl _ | apply Drawn0.step)⟩
    ·rw [if_neg c4] at H
     exact absurd H (by simp)
   ·rw [if_neg c3] at H
    have fN := decide_eq_false c3
    clear c3
    obtain rfl := Option.some.inj H
    go_wp2
    go_ret
    exact ⟨by first | rfl | (simp; done) | (simp [*]; done), by repeat (first | exact Drawn0.refl _ | apply Drawn0.step)⟩
end Go.Proofs.YtbonodglnilkfaaGreatDoor.PJt
