-- Printed
import Derived.Test.YtndagnkhjlgjgaaGreatDoorPJsx1
namespace Go.Proofs.YtndagnkhjlgjgaaGreatDoor.PJs
open Go.RowKit YtndagnkhjlgjgaaGreatDoorW.PrintWords YtndagnkhjlgjgaaGreatDoorW.PrintLast YtndagnkhjlgjgaaGreatDoorW.PrintMore
attribute [local go_sem] max2_int min2_int max_two min_two max_three min_three max_four min_four
set_option linter.unusedVariables false
set_option linter.unusedSimpArgs false
def spec_l1Simple.l0 : Nat → Int → ByteArray → List Int → Int → Option (Int)
 | 0, _, _, _, _ => none
 | k + 1, x0, x3, x4, x5 => if x5 < (x3.size : Int) then (if 0 ≤ x5 then (if (bt x3 x5) = x0 then (if x5 < (x4.length : Int) then (some (wrap64 (rd x4 x5))) else (none)) else (spec_l1Simple.l0 k x0 x3 x4 (wrap64 (x5 + 1)))) else (none)) else (some (-1))
def spec_l1Simple.f (k : Nat) (a0 : Int) : Option (Int) := spec_l1Simple.l0 k a0 (⟨#[34, 92, 47, 98, 102, 110, 114, 116]⟩ : ByteArray) (([34, 92, 47, 8, 12, 10, 13, 9] : List Int)) 0
theorem spec_l1Simple.mono_l : ∀ k, (∀ y0 y1 y2 y3, LeO (spec_l1Simple.l0 k y0 y1 y2 y3) (spec_l1Simple.l0 (k + 1) y0 y1 y2 y3))
 | 0 => fun _ _ _ _ r h => by simp [spec_l1Simple.l0] at h
 | k + 1 => by
  have ih0 := spec_l1Simple.mono_l k
  ·intro y0 y1 y2 y3
   unfold spec_l1Simple.l0
   repeat' first
   | (with_reducible exact ih0 _ _ _ _)
   | (with_reducible exact LeO.refl _)
   | (with_reducible exact LeO.none _)
   | (with_reducible refine LeO.ite ?_ ?_)
   | (with_reducible refine LeO.bind ?_ (fun _ => ?_))
   | exact ih0 _ _ _ _
   | exact LeO.none _
   | refine LeO.ite ?_ ?_
   | refine LeO.bind ?_ (fun _ => ?_)
theorem spec_l1Simple.mono : ∀ a0 k, LeO (spec_l1Simple.f k a0) (spec_l1Simple.f (k + 1) a0) := by
 intro a0 k
 have ih0 := spec_l1Simple.mono_l k
 unfold spec_l1Simple.f
 repeat' first
   | (with_reducible exact ih0 _ _ _ _)
   | (with_reducible exact LeO.refl _)
   | (with_reducible exact LeO.none _)
   | (with_reducible refine LeO.ite ?_ ?_)
   | (with_reducible refine LeO.bind ?_ (fun _ => ?_))
   | exact ih0 _ _ _ _
   | exact LeO.none _
   | refine LeO.ite ?_ ?_
   | refine LeO.bind ?_ (fun _ => ?_)
set_option maxHeartbeats 8000000 in
set_option maxRecDepth 100000 in
theorem spec_l1Simple.calls (k : Nat) (a0 : Int) (r : Int) (w : World) (h : spec_l1Simple.f k a0 = some r) :
  Calls Tryz.prog 161 #[.int .u8 a0] w fun e w' => e = .returned (.int .i64 r) ∧ Below w.heap.size w w' := by
 have HB := zam (Below.refl w.heap.size w); have H : (spec_l1Simple.l0 k a0 (⟨#[34, 92, 47, 98, 102, 110, 114, 116]⟩ : ByteArray) (([34, 92, 47, 8, 12, 10, 13, 9] : List Int)) 0) = some r := h; clear h
 obtain ⟨bp, bg⟩ : ∃ y_ : List Int, y_ = (([34, 92, 47, 8, 12, 10, 13, 9] : List Int)) := ⟨_, rfl⟩
 replace H : (spec_l1Simple.l0 k a0 (⟨#[34, 92, 47, 98, 102, 110, 114, 116]⟩ : ByteArray) bp 0) = some r := by first | (rw [bg]; with_reducible exact H) | (have H2_ := (Option.bind_some _ _).symm.trans H; rw [bg]; with_reducible exact H2_) | (have H2_ := (Option.bind_some _ _).symm.trans H; with_reducible exact H2_) | with_reducible exact H | (rw [bg]; exact H) | exact H
 have bx := zam bg; clear bg; have H' := zam H; clear H
 go_enter Tryz.func161, Tryz.ntmps161
 go_wp2_with (first | ((with_reducible refine gate_dst (N := 6) rfl ?_); refine Kd.R_lit (Kd.int .u8) _ 5 ?hg (N := 6) ?hd (xs := ([34, 92, 47, 8, 12, 10, 13, 9] : List Int)) (inner := [.int .u8 34, .int .u8 92, .int .u8 47, .int .u8 8, .int .u8 12, .int .u8 10, .int .u8 13, .int .u8 9]) (ok := fun _ => True) (okp := fun _ => True) ?hr ?hp (fun _ hk => hk) trivial (Below.refl _ _) (Nat.le_refl _) (by simp) ?_; (case hd => rfl); (case hg => rfl); (case hr => first | (go_simp; done) | (go_simp; rfl)); (case hp => exact (Reps.one (show Kd.M (Kd.int .u8) _ _ _ 34 [.int .u8 34] from rfl) (Reps.one (show Kd.M (Kd.int .u8) _ _ _ 92 [.int .u8 92] from rfl) (Reps.one (show Kd.M (Kd.int .u8) _ _ _ 47 [.int .u8 47] from rfl) (Reps.one (show Kd.M (Kd.int .u8) _ _ _ 8 [.int .u8 8] from rfl) (Reps.one (show Kd.M (Kd.int .u8) _ _ _ 12 [.int .u8 12] from rfl) (Reps.one (show Kd.M (Kd.int .u8) _ _ _ 10 [.int .u8 10] from rfl) (Reps.one (show Kd.M (Kd.int .u8) _ _ _ 13 [.int .u8 13] from rfl) (Reps.one (show Kd.M (Kd.int .u8) _ _ _ 9 [.int .u8 9] from rfl) (Reps.none _ _)))))))))); intro v121 w2 bG hb hg_ hnew_; clear hg_ hnew_; (first | rw [← bx.out] at bG | (simp only [Int.reduceToNat] at bG; rw [← bx.out] at bG)); have bH := zam (Kd.R_lower bG (below_size (zbl HB.out))); replace HB := zam (below_step (zbl HB.out) hb); clear hb bG))
 go_loopg [5] k (fun kq v5 w' => ∃ (bb : Int), v5 = .int .i64 bb ∧ Aside0 (spec_l1Simple.l0 kq a0 (⟨#[34, 92, 47, 98, 102, 110, 114, 116]⟩ : ByteArray) bp bb = some r) ∧ Aside0 (kq ≤ k) ∧ Aside0 (Kd.R (Kd.int .u8) 5 w' w.heap.size (fun _ => True) v121 bp) ∧ Aside0 (Below w.heap.size w w'))
 case atStart => exact ⟨(0), zrs, H', ⟨Nat.le_refl _⟩, ⟨zkr bH.out⟩, ⟨zbl HB.out⟩⟩
 case round =>
  clear H'; obtain ⟨bb, rfl, HA, HK1, HO_4, HB⟩ := hrel
  cases gk with
  | zero => exact absurd HA.out (by simp [spec_l1Simple.l0])
  | succ k1 =>
   have H := HA.out; clear HA
   simp only [spec_l1Simple.l0] at H
   by_cases c4 : bb < ((⟨#[34, 92, 47, 98, 102, 110, 114, 116]⟩ : ByteArray).size : Int)
   ·rw [if_pos c4] at H
    have bj := decide_eq_true c4; have bT : decide (bb < 8) = true := decide_eq_true (by exact c4); clear c4
    by_cases c5 : 0 ≤ bb
    ·rw [if_pos c5] at H
     have bk := decide_eq_true c5; clear c5
     by_cases c7 : (bt (⟨#[34, 92, 47, 98, 102, 110, 114, 116]⟩ : ByteArray) bb) = a0
     ·rw [if_pos c7] at H
      have bz := beq_iff_eq.mpr c7; have bV := bne_eq_false_iff_eq.mpr c7; clear c7
      by_cases c8 : bb < (bp.length : Int)
      ·rw [if_pos c8] at H
       have bv := decide_eq_true c8; clear c8; obtain rfl := Option.some.inj H; have p6 := zet (0 ≤ (bb : Int)); have q6 := zet (bb < (8 : Int)); have cp := bt_at (⟨#[34, 92, 47, 98, 102, 110, 114, 116]⟩ : ByteArray) bb; obtain ⟨cz, cB, eo9⟩ := Kd.R_slice HO_4.out; subst eo9; have bB : 0 ≤ (bb : Int) := of_decide_eq_true zas; have bC : bb < (bp.length : Int) := of_decide_eq_true zas; obtain ⟨ad123, e123, bM⟩ := Kd.at_int (Kd.R_reads' HO_4.out).2.2 bb bB bC
       cases e123
       replace bB := eq_true bB; replace bC := eq_true bC
       go_wp2
       go_ret
       exact ⟨zer, zbl HB.out⟩
      ·rw [if_neg c8] at H
       exact absurd H (by simp)
     ·rw [if_neg c7] at H
      have bz := beq_eq_false_iff_ne.mpr c7; have bV := bne_iff_ne.mpr c7; have H' := zam H; clear H; have p6 := zet (0 ≤ (bb : Int)); have q6 := zet (bb < (8 : Int)); have cp := bt_at (⟨#[34, 92, 47, 98, 102, 110, 114, 116]⟩ : ByteArray) bb
      go_wp2
      go_roundg k1
      case measure => have := HK1.out; omega
      case rel => exact ⟨(wrap64 (bb + 1)), zrs, H', ⟨zlo HK1.out⟩, ⟨zkr HO_4.out⟩, ⟨zbl HB.out⟩⟩
    ·rw [if_neg c5] at H
     exact absurd H (by simp)
   ·rw [if_neg c4] at H
    have bj := decide_eq_false c4; have bT : decide (bb < 8) = false := decide_eq_false (by exact c4); clear c4; obtain rfl := Option.some.inj H
    go_wp2
    go_ret
    exact ⟨zer, zbl HB.out⟩
def spec_l1Digit.f (a0 : Int) : Option (Bool) := if a0 ≥ 48 then (some (decide (a0 ≤ 57))) else (some false)
set_option maxHeartbeats 8000000 in
set_option maxRecDepth 100000 in
theorem spec_l1Digit.calls (a0 : Int) (r : Bool) (w : World) (h : spec_l1Digit.f a0 = some r) :
  Calls Tryz.prog 123 #[.int .u8 a0] w fun e w' => e = .returned (.bool r) ∧ Drawn0 w w' := by
 have H : (if a0 ≥ 48 then (some (decide (a0 ≤ 57))) else (some false)) = some r := h; clear h
 by_cases c2 : a0 ≥ 48
 ·rw [if_pos c2] at H
  have bW := zge c2; clear c2; obtain rfl := Option.some.inj H
  go_enter Tryz.func123, Tryz.ntmps123
  go_wp2
  go_ret
  exact ⟨by first | rfl | (simp; done) | (simp [*]; done), by repeat (first | exact Drawn0.refl _ | apply Drawn0.step)⟩
 ·rw [if_neg c2] at H
  have bW := zge' c2; clear c2; obtain rfl := Option.some.inj H
  go_enter Tryz.func123, Tryz.ntmps123
  go_wp2
  go_ret
  exact ⟨by first | rfl | (simp; done) | (simp [*]; done), by repeat (first | exact Drawn0.refl _ | apply Drawn0.step)⟩
def spec_l1Hex.j0 : Nat → Int → Bool → Option (Int)
 | 0, _, _ => none
 | k + 1, x0, cq => if cq = true then (some (((x0 - 97) % 256) + 10)) else (if x0 ≥ 65 then (if x0 ≤ 70 then (some (((x0 - 65) % 256) + 10)) else (some (-1))) else (some (-1)))
def spec_l1Hex.f (k : Nat) (a0 : Int) : Option (Int) := (spec_l1Digit.f a0).bind fun bq => (if bq = true then (some ((a0 - 48) % 256)) else (if a0 ≥ 97 then (spec_l1Hex.j0 k a0 (decide (a0 ≤ 102))) else (spec_l1Hex.j0 k a0 false)))
theorem spec_l1Hex.mono_l : ∀ k, (∀ y0 y1, LeO (spec_l1Hex.j0 k y0 y1) (spec_l1Hex.j0 (k + 1) y0 y1))
 | 0 => fun _ _ r h => by simp [spec_l1Hex.j0] at h
 | k + 1 => by
  have ih0 := spec_l1Hex.mono_l k
  ·intro y0 y1
   unfold spec_l1Hex.j0
   repeat' first
   | (with_reducible exact ih0 _ _)
   | (with_reducible exact LeO.refl _)
   | (with_reducible exact LeO.none _)
   | (with_reducible refine LeO.ite ?_ ?_)
   | (with_reducible refine LeO.bind ?_ (fun _ => ?_))
   | exact ih0 _ _
   | exact LeO.none _
   | refine LeO.ite ?_ ?_
   | refine LeO.bind ?_ (fun _ => ?_)
theorem spec_l1Hex.mono : ∀ a0 k, LeO (spec_l1Hex.f k a0) (spec_l1Hex.f (k + 1) a0) := by
 intro a0 k
 have ih0 := spec_l1Hex.mono_l k
 unfold spec_l1Hex.f
 repeat' first
   | (with_reducible exact ih0 _ _)
   | (with_reducible exact LeO.refl _)
   | (with_reducible exact LeO.none _)
   | (with_reducible refine LeO.ite ?_ ?_)
   | (with_reducible refine LeO.bind ?_ (fun _ => ?_))
   | exact ih0 _ _
   | exact LeO.none _
   | refine LeO.ite ?_ ?_
   | refine LeO.bind ?_ (fun _ => ?_)
set_option maxHeartbeats 8000000 in
set_option maxRecDepth 100000 in
theorem spec_l1Hex.calls (k : Nat) (a0 : Int) (r : Int) (w : World) (h : spec_l1Hex.f k a0 = some r) :
  Calls Tryz.prog 190 #[.int .u8 a0] w fun e w' => e = .returned (.int .i64 r) ∧ Drawn0 w w' := by
 have H : ((spec_l1Digit.f a0).bind fun bq => (if bq = true then (some ((a0 - 48) % 256)) else (if a0 ≥ 97 then (spec_l1Hex.j0 k a0 (decide (a0 ≤ 102))) else (spec_l1Hex.j0 k a0 false)))) = some r := h; clear h; replace H := Option.bind_eq_some_iff.mp H; obtain ⟨bq, cd, H⟩ := H; have A2 := zam cd; clear cd
 by_cases c3 : bq = true
 ·subst c3
  rw [if_pos rfl] at H; obtain rfl := Option.some.inj H
  go_enter Tryz.func190, Tryz.ntmps190
  go_wp2_with (first | ((with_reducible refine gate_callee (f := 123) rfl ?_); refine goesL_ (some 4) rfl rfl Tryz.func123 (by kernel_rfl) rfl #[.int .u8 a0] rfl zar ?_; (with_reducible refine (spec_l1Digit.calls a0 true _ A2.out).mono ?_); rintro e w' ⟨rfl, ⟨nd, rfl⟩⟩; refine ⟨_, rfl, ?_⟩))
  go_ret
  exact ⟨by first | rfl | (simp; done) | (simp [*]; done), by repeat (first | exact Drawn0.refl _ | apply Drawn0.step)⟩
 ·replace c3 := Bool.eq_false_iff.mpr c3
  subst c3; rw [if_neg (show ¬ (false = true) by decide)] at H; have bX := zam H; clear H
  go_enter Tryz.func190, Tryz.ntmps190
  go_upto_region 3 with (first | ((with_reducible refine gate_callee (f := 123) rfl ?_); refine goesL_ (some 4) rfl rfl Tryz.func123 (by kernel_rfl) rfl #[.int .u8 a0] rfl zar ?_; (with_reducible refine (spec_l1Digit.calls a0 false _ A2.out).mono ?_); rintro e w' ⟨rfl, ⟨nd, rfl⟩⟩; refine ⟨_, rfl, ?_⟩))
  (try simp only [Act.put, List.setIfInBounds_toArray, List.set_cons_zero, List.set_cons_succ])
  go_cut [13] (fun v13 wc => ∃ (kq : Nat) (bm : Bool), v13 = .bool bm ∧ Aside0 (spec_l1Hex.j0 kq a0 bm = some r) ∧ Aside0 (kq ≤ k) ∧ Drawn0 w wc)
  case first =>
   have H := bX.out; clear bX
   by_cases c5 : a0 ≥ 97
   ·rw [if_pos c5] at H
    have bk := zge c5; clear c5
    (first | rw [bk] | (simp only [i64_w, i32_w, IntKind.wrap_u8, IntKind.wrap_u32]; rw [bk]) | skip)
    have H' := zam H; clear H
    go_wp2
    go_meet
    case rel => exact ⟨_, (decide (a0 ≤ 102)), zrs, H', ⟨zlo0⟩, by repeat (first | exact Drawn0.refl _ | apply Drawn0.step)⟩
   ·rw [if_neg c5] at H
    have bk := zge' c5; clear c5
    (first | rw [bk] | (simp only [i64_w, i32_w, IntKind.wrap_u8, IntKind.wrap_u32]; rw [bk]) | skip)
    have H' := zam H; clear H
    go_wp2
    go_meet
    case rel => exact ⟨_, (false), zrs, H', ⟨zlo0⟩, by repeat (first | exact Drawn0.refl _ | apply Drawn0.step)⟩
  case rest =>
   clear bX; obtain ⟨kq, bm, rfl, HA, cC, ⟨mc3, rfl⟩⟩ := hcut
   cases kq with
   | zero => exact absurd HA.out (by simp [spec_l1Hex.j0])
   | succ kj3 =>
    have H := HA.out; clear HA
    simp only [spec_l1Hex.j0] at H
    by_cases c6 : bm = true
    ·subst c6
     rw [if_pos rfl] at H; obtain rfl := Option.some.inj H
     go_wp2
     go_ret
     exact ⟨by first | rfl | (simp; done) | (simp [*]; done), by repeat (first | exact Drawn0.refl _ | apply Drawn0.step)⟩
    ·replace c6 := Bool.eq_false_iff.mpr c6
     subst c6; rw [if_neg (show ¬ (false = true) by decide)] at H
     by_cases c7 : a0 ≥ 65
     ·rw [if_pos c7] at H
      have bz := zge c7; clear c7
      by_cases c8 : a0 ≤ 70
      ·rw [if_pos c8] at H
       have bv := decide_eq_true c8; clear c8; obtain rfl := Option.some.inj H
       go_wp2
       go_ret
       exact ⟨by first | rfl | (simp; done) | (simp [*]; done), by repeat (first | exact Drawn0.refl _ | apply Drawn0.step)⟩
      ·rw [if_neg c8] at H
       have bv := decide_eq_false c8; clear c8; obtain rfl := Option.some.inj H
       go_wp2
       go_ret
       exact ⟨by first | rfl | (simp; done) | (simp [*]; done), by repeat (first | exact Drawn0.refl _ | apply Drawn0.step)⟩
     ·rw [if_neg c7] at H
      have bz := zge' c7; clear c7; obtain rfl := Option.some.inj H
      go_wp2
      go_ret
      exact ⟨by first | rfl | (simp; done) | (simp [*]; done), by repeat (first | exact Drawn0.refl _ | apply Drawn0.step)⟩
mutual
def spec_l1Unit.j0 : Nat → ByteArray → Int → Bool → Option (Int)
 | 0, _, _, _ => none
 | k + 1, x0, x1, cr => if cr = true then (some (-1)) else (spec_l1Unit.l0 k x0 x1 0 2)
def spec_l1Unit.l0 : Nat → ByteArray → Int → Int → Int → Option (Int)
 | 0, _, _, _, _ => none
 | k + 1, x0, x1, x5, x6 => if x6 < 6 then (if 0 ≤ (wrap64 (x1 + x6)) then (if (wrap64 (x1 + x6)) < (x0.size : Int) then ((spec_l1Hex.f k (bt x0 (wrap64 (x1 + x6)))).bind fun bd => (if bd < 0 then (some (-1)) else (spec_l1Unit.l0 k x0 x1 (wrap64 ((wrap64 (x5 * 16)) + bd)) (wrap64 (x6 + 1))))) else (none)) else (none)) else (some x5)
end
def spec_l1Unit.f (k : Nat) (a0 : ByteArray) (a1 : Int) : Option (Int) := if (wrap64 (a1 + 6)) > (a0.size : Int) then (spec_l1Unit.j0 k a0 a1 true) else (if 0 ≤ a1 then (if a1 < (a0.size : Int) then (if (bt a0 a1) = 92 then (if 0 ≤ (wrap64 (a1 + 1)) then (if (wrap64 (a1 + 1)) < (a0.size : Int) then (spec_l1Unit.j0 k a0 a1 ((bt a0 (wrap64 (a1 + 1))) != 117)) else (none)) else (none)) else (spec_l1Unit.j0 k a0 a1 true)) else (none)) else (none))
set_option maxHeartbeats 8000000 in
set_option maxRecDepth 100000 in
theorem spec_l1Unit.calls (k : Nat) (a0 : ByteArray) (a1 : Int) (r : Int) (w : World) (h : spec_l1Unit.f k a0 a1 = some r) :
  Calls Tryz.prog 162 #[.string a0, .int .i64 a1] w fun e w' => e = .returned (.int .i64 r) ∧ Drawn0 w w' := by
 have H : (if (wrap64 (a1 + 6)) > (a0.size : Int) then (spec_l1Unit.j0 k a0 a1 true) else (if 0 ≤ a1 then (if a1 < (a0.size : Int) then (if (bt a0 a1) = 92 then (if 0 ≤ (wrap64 (a1 + 1)) then (if (wrap64 (a1 + 1)) < (a0.size : Int) then (spec_l1Unit.j0 k a0 a1 ((bt a0 (wrap64 (a1 + 1))) != 117)) else (none)) else (none)) else (spec_l1Unit.j0 k a0 a1 true)) else (none)) else (none))) = some r := h; clear h; have bY := zam H; clear H
 go_enter Tryz.func162, Tryz.ntmps162
 go_upto_region 1 with (fail)
 go_cut [25] (fun v25 wc => ∃ (kq : Nat) (bn : Bool), v25 = .bool bn ∧ Aside0 (spec_l1Unit.j0 kq a0 a1 bn = some r) ∧ Aside0 (kq ≤ k) ∧ Drawn0 w wc)
 case first =>
  have H := bY.out; clear bY
  by_cases c4 : (wrap64 (a1 + 6)) > (a0.size : Int)
  ·rw [if_pos c4] at H
   have bj := zgt c4; clear c4
   (first | rw [bj] | (simp only [i64_w, i32_w, IntKind.wrap_u8, IntKind.wrap_u32]; rw [bj]) | skip)
   have H' := zam H; clear H
   go_wp2
   go_meet
   case rel => exact ⟨_, (true), zrs, H', ⟨zlo0⟩, by repeat (first | exact Drawn0.refl _ | apply Drawn0.step)⟩
  ·rw [if_neg c4] at H
   have bj := zgt' c4; clear c4
   (first | rw [bj] | (simp only [i64_w, i32_w, IntKind.wrap_u8, IntKind.wrap_u32]; rw [bj]) | skip)
   by_cases c5 : 0 ≤ a1
   ·rw [if_pos c5] at H
    have bk := decide_eq_true c5; clear c5
    by_cases c6 : a1 < (a0.size : Int)
    ·rw [if_pos c6] at H
     have ct := decide_eq_true c6; clear c6
     by_cases c8 : (bt a0 a1) = 92
     ·rw [if_pos c8] at H
      have bv := beq_iff_eq.mpr c8; have bZ := bne_eq_false_iff_eq.mpr c8; clear c8
      obtain ⟨bs, bw⟩ : ∃ j_ : Int, (wrap64 (a1 + 1)) = j_ := ⟨_, rfl⟩
      replace H : (if 0 ≤ (bs) then (if (bs) < (a0.size : Int) then (spec_l1Unit.j0 k a0 a1 ((bt a0 (bs)) != 117)) else (none)) else (none)) = some r := by first | (rw [bw] at H; exact H) | (simp only [bw] at H ⊢; exact H)
      have cf : (IntKind.i64.wrap (a1 + 1)) = bs := (i64_w _).trans bw
      by_cases bN : 0 ≤ (bs)
      ·rw [if_pos bN] at H
       have cg := decide_eq_true bN; clear bN
       by_cases bP : (bs) < (a0.size : Int)
       ·rw [if_pos bP] at H
        have ch := decide_eq_true bP; clear bP; have H' := zam H; clear H; have p7 := zet (0 ≤ (a1 : Int)); have q7 := zet (a1 < (a0.size : Int)); have cv := bt_at a0 a1; have cD := zet (0 ≤ ((bs) : Int)); have cF := zet ((bs) < (a0.size : Int)); have cw := bt_at a0 (bs)
        go_wp2
        go_meet
        case rel => exact ⟨_, (((bt a0 (bs)) != 117)), (by first | rfl | (simp; done) | (simp only [← bw] <;> (first | rfl | simp)) | (simp [*]; done)), H', ⟨zlo0⟩, by repeat (first | exact Drawn0.refl _ | apply Drawn0.step)⟩
       ·rw [if_neg bP] at H
        exact absurd H (by simp)
      ·rw [if_neg bN] at H
       exact absurd H (by simp)
     ·rw [if_neg c8] at H
      have bv := beq_eq_false_iff_ne.mpr c8; have bZ := bne_iff_ne.mpr c8; have H' := zam H; clear H; have p7 := zet (0 ≤ (a1 : Int)); have q7 := zet (a1 < (a0.size : Int)); have cv := bt_at a0 a1
      go_wp2
      go_meet
      case rel => exact ⟨_, (true), zrs, H', ⟨zlo0⟩, by repeat (first | exact Drawn0.refl _ | apply Drawn0.step)⟩
    ·rw [if_neg c6] at H
     exact absurd H (by simp)
   ·rw [if_neg c5] at H
    exact absurd H (by simp)
 case rest =>
  clear bY; obtain ⟨kq, bn, rfl, HA, cj, ⟨mc2, rfl⟩⟩ := hcut
  cases kq with
  | zero => exact absurd HA.out (by simp [spec_l1Unit.j0])
  | succ kj2 =>
   have H := HA.out; clear HA
   simp only [spec_l1Unit.j0] at H
   by_cases bQ : bn = true
   ·subst bQ
    rw [if_pos rfl] at H; obtain rfl := Option.some.inj H
    go_wp2
    go_ret
    exact ⟨by first | rfl | (simp; done) | (simp [*]; done), by repeat (first | exact Drawn0.refl _ | apply Drawn0.step)⟩
   ·replace bQ := Bool.eq_false_iff.mpr bQ
    subst bQ; rw [if_neg (show ¬ (false = true) by decide)] at H; have H' := zam H; clear H
    go_wp2
    go_loopg [5, 6] kj2 (fun kq v5 v6 w' => ∃ (br : Int) (bh : Int), v5 = .int .i64 br ∧ v6 = .int .i64 bh ∧ Aside0 (spec_l1Unit.l0 kq a0 a1 br bh = some r) ∧ Aside0 (kq ≤ kj2) ∧ Drawn0 w w')
    case atStart => exact ⟨(0), (2), zrs, zrs, H', ⟨Nat.le_refl _⟩, by repeat (first | exact Drawn0.refl _ | apply Drawn0.step)⟩
    case round =>
     clear H'; obtain ⟨br, bh, rfl, rfl, HA, HK2, ⟨m2, rfl⟩⟩ := hrel
     cases gk with
     | zero => exact absurd HA.out (by simp [spec_l1Unit.l0])
     | succ k2 =>
      have H := HA.out; clear HA
      simp only [spec_l1Unit.l0] at H
      by_cases bD : bh < 6
      ·rw [if_pos bD] at H
       have bJ := decide_eq_true bD; clear bD
       obtain ⟨bc, bf⟩ : ∃ j_ : Int, (wrap64 (a1 + bh)) = j_ := ⟨_, rfl⟩
       replace H : (if 0 ≤ (bc) then (if (bc) < (a0.size : Int) then ((spec_l1Hex.f k2 (bt a0 (bc))).bind fun bd => (if bd < 0 then (some (-1)) else (spec_l1Unit.l0 k2 a0 a1 (wrap64 ((wrap64 (br * 16)) + bd)) (wrap64 (bh + 1))))) else (none)) else (none)) = some r := by first | (rw [bf] at H; exact H) | (simp only [bf] at H ⊢; exact H)
       have cb : (IntKind.i64.wrap (a1 + bh)) = bc := (i64_w _).trans bf
       by_cases bR : 0 ≤ (bc)
       ·rw [if_pos bR] at H
        have ck := decide_eq_true bR; clear bR
        by_cases bS : (bc) < (a0.size : Int)
        ·rw [if_pos bS] at H
         have cm := decide_eq_true bS; clear bS; replace H := Option.bind_eq_some_iff.mp H; obtain ⟨bd, bK, H⟩ := H; have cn := zam bK; clear bK
         by_cases bF : bd < 0
         ·rw [if_pos bF] at H
          have bL := decide_eq_true bF; clear bF; obtain rfl := Option.some.inj H; have cx := zet (0 ≤ ((bc) : Int)); have cy := zet ((bc) < (a0.size : Int)); have cc := bt_at a0 (bc)
          go_wp2_with (first | ((with_reducible refine gate_callee (f := 190) rfl ?_); refine goesL_ (some 35) rfl rfl Tryz.func190 (by kernel_rfl) rfl #[.int .u8 (bt a0 (bc))] rfl (by (try simp only [List.map_toArray, List.map_cons, List.map_nil]); first | done | (simp only [bf]; rfl) | rfl | (simp only [List.length_drop, List.length_take]; rfl)) ?_; (with_reducible refine (spec_l1Hex.calls k2 (bt a0 (bc)) bd _ cn.out).mono ?_); rintro e w' ⟨rfl, ⟨nd, rfl⟩⟩; refine ⟨_, rfl, ?_⟩))
          go_ret
          exact ⟨by first | rfl | (simp; done) | (simp only [← bf] <;> (first | rfl | simp)) | (simp [*]; done), by repeat (first | exact Drawn0.refl _ | apply Drawn0.step)⟩
         ·rw [if_neg bF] at H
          have bL := decide_eq_false bF; clear bF; have H' := zam H; clear H; have cx := zet (0 ≤ ((bc) : Int)); have cy := zet ((bc) < (a0.size : Int)); have cc := bt_at a0 (bc)
          go_wp2_with (first | ((with_reducible refine gate_callee (f := 190) rfl ?_); refine goesL_ (some 35) rfl rfl Tryz.func190 (by kernel_rfl) rfl #[.int .u8 (bt a0 (bc))] rfl (by (try simp only [List.map_toArray, List.map_cons, List.map_nil]); first | done | (simp only [bf]; rfl) | rfl | (simp only [List.length_drop, List.length_take]; rfl)) ?_; (with_reducible refine (spec_l1Hex.calls k2 (bt a0 (bc)) bd _ cn.out).mono ?_); rintro e w' ⟨rfl, ⟨nd, rfl⟩⟩; refine ⟨_, rfl, ?_⟩))
          go_roundg k2
          case measure => have := cj.out; have := HK2.out; omega
          case rel => exact ⟨(wrap64 ((wrap64 (br * 16)) + bd)), (wrap64 (bh + 1)), zrs, zrs, H', ⟨zlo2 cj.out HK2.out⟩, by repeat (first | exact Drawn0.refl _ | apply Drawn0.step)⟩
        ·rw [if_neg bS] at H
         exact absurd H (by simp)
       ·rw [if_neg bR] at H
        exact absurd H (by simp)
      ·rw [if_neg bD] at H
       have bJ := decide_eq_false bD; clear bD; obtain rfl := Option.some.inj H
       go_wp2
       go_ret
       exact ⟨by first | rfl | (simp; done) | (simp [*]; done), by repeat (first | exact Drawn0.refl _ | apply Drawn0.step)⟩
end Go.Proofs.YtndagnkhjlgjgaaGreatDoor.PJs
