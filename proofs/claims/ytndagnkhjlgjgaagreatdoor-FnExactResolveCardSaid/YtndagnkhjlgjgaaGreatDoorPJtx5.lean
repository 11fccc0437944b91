-- Printed
import Derived.Test.YtndagnkhjlgjgaaGreatDoorPJtx2
namespace Go.Proofs.YtndagnkhjlgjgaaGreatDoor.PJt
open Go.RowKit Own Xtra YtndagnkhjlgjgaaGreatDoorW.PrintWords YtndagnkhjlgjgaaGreatDoorW.PrintLast YtndagnkhjlgjgaaGreatDoorW.PrintMore
attribute [local go_sem] max2_int min2_int max_two min_two max_three min_three max_four min_four
set_option linter.unusedVariables false
set_option linter.unusedSimpArgs false
def spec_l1Word.f (a0 : ByteArray) (a1 : Int) (a2 : ByteArray) : Option (Bool) := if (wrap64 (a1 + (a2.size : Int))) ≤ (a0.size : Int) then (if 0 ≤ a1 then (if a1 ≤ (wrap64 (a1 + (a2.size : Int))) then (some ((a0.extract (a1 : Int).toNat ((wrap64 (a1 + (a2.size : Int))) : Int).toNat).toList == a2.toList)) else (none)) else (none)) else (some false)
set_option maxHeartbeats 8000000 in
set_option maxRecDepth 100000 in
theorem spec_l1Word.calls (a0 : ByteArray) (a1 : Int) (a2 : ByteArray) (r : Bool) (w : World) (h : spec_l1Word.f a0 a1 a2 = some r) :
  Calls Tryz.prog 94 #[.string a0, .int .i64 a1, .string a2] w fun e w' => e = .returned (.bool r) ∧ Drawn0 w w' := by
 have H : (if (wrap64 (a1 + (a2.size : Int))) ≤ (a0.size : Int) then (if 0 ≤ a1 then (if a1 ≤ (wrap64 (a1 + (a2.size : Int))) then (some ((a0.extract (a1 : Int).toNat ((wrap64 (a1 + (a2.size : Int))) : Int).toNat).toList == a2.toList)) else (none)) else (none)) else (some false)) = some r := h; clear h
 by_cases c4 : (wrap64 (a1 + (a2.size : Int))) ≤ (a0.size : Int)
 ·rw [if_pos c4] at H
  have fq := decide_eq_true c4; clear c4
  by_cases c5 : 0 ≤ a1
  ·rw [if_pos c5] at H
   have gd := eq_true c5; have gf := decide_eq_true c5; clear c5
   by_cases c6 : a1 ≤ (wrap64 (a1 + (a2.size : Int)))
   ·rw [if_pos c6] at H
    have gg := eq_true c6; have gh := decide_eq_true c6; have gj := eq_true (of_decide_eq_true zas : (wrap64 (a1 + (a2.size : Int))) ≤ (a0.size : Int)); obtain rfl := Option.some.inj H
    go_enter Tryz.func94, Tryz.ntmps94
    go_wp2
    go_ret
    exact ⟨by first | rfl | (simp; done) | (simp [*]; done), by repeat (first | exact Drawn0.refl _ | apply Drawn0.step)⟩
   ·rw [if_neg c6] at H
    exact absurd H (by simp)
  ·rw [if_neg c5] at H
   exact absurd H (by simp)
 ·rw [if_neg c4] at H
  have fq := decide_eq_false c4; clear c4; obtain rfl := Option.some.inj H
  go_enter Tryz.func94, Tryz.ntmps94
  go_wp2
  go_ret
  exact ⟨by first | rfl | (simp; done) | (simp [*]; done), by repeat (first | exact Drawn0.refl _ | apply Drawn0.step)⟩
section
variable [Inhabited Rec]
mutual
def spec_l1Number.j0 : Nat → ByteArray → Int → Int → Option (ByteArray × Int × Bool × Bool × Bool)
 | 0, _, _, _ => none
 | k + 1, x0, x1, x5 => if x1 ≥ (x0.size : Int) then (spec_l1Number.j1 k x0 x1 x5 true) else (if 0 ≤ x1 then (if x1 < (x0.size : Int) then ((spec_l1Digit.f (bt x0 x1)).bind fun bB => (spec_l1Number.j1 k x0 x1 x5 (!bB))) else (none)) else (none))
def spec_l1Number.j1 : Nat → ByteArray → Int → Int → Bool → Option (ByteArray × Int × Bool × Bool × Bool)
 | 0, _, _, _, _ => none
 | k + 1, x0, x1, x5, gm => if gm = true then (some ((⟨#[]⟩ : ByteArray), 0, false, false, false)) else (if 0 ≤ x1 then (if x1 < (x0.size : Int) then (if (bt x0 x1) = 48 then (if 0 ≤ x5 then (if x5 ≤ (wrap64 (x1 + 1)) then (if (wrap64 (x1 + 1)) ≤ (x0.size : Int) then (if (x0.extract (x5 : Int).toNat ((wrap64 (x1 + 1)) : Int).toNat).toList = ([45, 48] : List UInt8) then ((spec_l1TooBig.f (⟨#[48]⟩ : ByteArray)).bind fun bq => (some ((⟨#[48]⟩ : ByteArray), wrap64 (x1 + 1), true, bq, false))) else ((spec_l1TooBig.f (x0.extract (x5 : Int).toNat ((wrap64 (x1 + 1)) : Int).toNat)).bind fun br => (some (x0.extract (x5 : Int).toNat ((wrap64 (x1 + 1)) : Int).toNat, wrap64 (x1 + 1), true, br, false)))) else (none)) else (none)) else (none)) else (spec_l1Number.l0 k x0 x1 x5)) else (none)) else (none))
def spec_l1Number.l0 : Nat → ByteArray → Int → Int → Option (ByteArray × Int × Bool × Bool × Bool)
 | 0, _, _, _ => none
 | k + 1, x0, x1, x5 => if x1 < (x0.size : Int) then (if 0 ≤ x1 then ((spec_l1Digit.f (bt x0 x1)).bind fun bC => (if bC = true then (spec_l1Number.l0 k x0 (wrap64 (x1 + 1)) x5) else (if 0 ≤ x5 then (if x5 ≤ x1 then (if x1 ≤ (x0.size : Int) then (if (x0.extract (x5 : Int).toNat (x1 : Int).toNat).toList = ([45, 48] : List UInt8) then ((spec_l1TooBig.f (⟨#[48]⟩ : ByteArray)).bind fun bs => (some ((⟨#[48]⟩ : ByteArray), x1, true, bs, false))) else ((spec_l1TooBig.f (x0.extract (x5 : Int).toNat (x1 : Int).toNat)).bind fun bv => (some (x0.extract (x5 : Int).toNat (x1 : Int).toNat, x1, true, bv, false)))) else (none)) else (none)) else (none)))) else (none)) else (if 0 ≤ x5 then (if x5 ≤ x1 then (if x1 ≤ (x0.size : Int) then (if (x0.extract (x5 : Int).toNat (x1 : Int).toNat).toList = ([45, 48] : List UInt8) then ((spec_l1TooBig.f (⟨#[48]⟩ : ByteArray)).bind fun bw => (some ((⟨#[48]⟩ : ByteArray), x1, true, bw, false))) else ((spec_l1TooBig.f (x0.extract (x5 : Int).toNat (x1 : Int).toNat)).bind fun bx => (some (x0.extract (x5 : Int).toNat (x1 : Int).toNat, x1, true, bx, false)))) else (none)) else (none)) else (none))
end
def spec_l1Number.f (k : Nat) (a0 : ByteArray) (a1 : Int) : Option (ByteArray × Int × Bool × Bool × Bool) := (spec_l1At.f a0 a1 45).bind fun bp => (if bp = true then (spec_l1Number.j0 k a0 (wrap64 (a1 + 1)) a1) else (spec_l1Number.j0 k a0 a1 a1))
set_option maxHeartbeats 8000000 in
set_option maxRecDepth 100000 in
theorem spec_l1Number.calls (k : Nat) (a0 : ByteArray) (a1 : Int) (r1 : ByteArray) (r2 : Int) (r3 : Bool) (r4 : Bool) (r5 : Bool) (w : World) (h : spec_l1Number.f k a0 a1 = some (r1, r2, r3, r4, r5)) :
  Calls Tryz.prog 95 #[.string a0, .int .i64 a1] w fun e w' => e = .returned (.agg #[.string r1, .int .i64 r2, .bool r3, .bool r4, .bool r5]) ∧ Below w.heap.size w w' := by
 have hu82 := Tryz.underlying82; have HB := zam (Below.refl w.heap.size w); have H : ((spec_l1At.f a0 a1 45).bind fun bp => (if bp = true then (spec_l1Number.j0 k a0 (wrap64 (a1 + 1)) a1) else (spec_l1Number.j0 k a0 a1 a1))) = some (r1, r2, r3, r4, r5) := h; clear h; replace H := Option.bind_eq_some_iff.mp H; obtain ⟨bp, bJ, H⟩ := H; have A3 := zam bJ; clear bJ; have fr := zam H; clear H
 go_enter Tryz.func95, Tryz.ntmps95
 go_upto_if 10 with (first | ((with_reducible refine gate_dst (N := 4) rfl ?_); refine zbox (N := 4) (cs := #[.string (⟨#[]⟩ : ByteArray), .int .i64 0, .bool false, .bool false, .bool false]) (t := 82) ?_; intro bf hg w5 hbox hb; have bc := zam (hbox); have fv := zam ((by rw [hg]; exact (below_size (zbl HB.out)) : w.heap.size ≤ bf)); have bd := zam ((by rw [hg]; exact (below_size (zbl HB.out)) : w.heap.size ≤ bf)); replace HB := zam (below_step (zbl HB.out) hb); clear hb hbox hg) | ((with_reducible refine gate_callee (f := 89) rfl ?_); refine goesL_ (some 10) rfl rfl Tryz.func89 (by kernel_rfl) rfl #[.string a0, .int .i64 a1, .int .u8 45] rfl zar ?_; (with_reducible refine (spec_l1At.calls a0 a1 45 bp _ A3.out).mono ?_); rintro e w' ⟨rfl, ⟨nd, rfl⟩⟩; refine ⟨_, rfl, ?_⟩))
 (try simp only [Act.put, List.setIfInBounds_toArray, List.set_cons_zero, List.set_cons_succ])
 go_cut [1] (fun v1 wc => ∃ (kq : Nat) (bb : Int), v1 = .int .i64 bb ∧ Aside0 (spec_l1Number.j0 kq a0 bb a1 = some (r1, r2, r3, r4, r5)) ∧ Aside0 (kq ≤ k) ∧ Aside0 (wc.heap[bf]? = some (.cells #[.string (⟨#[]⟩ : ByteArray), .int .i64 0, .bool false, .bool false, .bool false] 82 (0, 0))) ∧ Aside0 (Below w.heap.size w wc))
 case first =>
  have H := fr.out; clear fr
  by_cases c6 : bp = true
  ·subst c6
   rw [if_pos rfl] at H; have H' := zam H; clear H
   go_wp2
   go_meet
   case rel => exact ⟨_, (wrap64 (a1 + 1)), zrs, H', ⟨zlo0⟩, ⟨zbk bc.out⟩, ⟨zbl1 HB.out bd.out⟩⟩
  ·replace c6 := Bool.eq_false_iff.mpr c6
   subst c6; rw [if_neg (show ¬ (false = true) by decide)] at H; have H' := zam H; clear H
   go_wp2
   go_meet
   case rel => exact ⟨_, (a1), zrs, H', ⟨zlo0⟩, ⟨zbk bc.out⟩, ⟨zbl1 HB.out bd.out⟩⟩
 case rest =>
  clear fr; obtain ⟨kq, bb, rfl, HA, ct, bc, HB⟩ := hcut
  cases kq with
  | zero => exact absurd HA.out (by simp [spec_l1Number.j0])
  | succ kj3 =>
   have H := HA.out; clear HA
   simp only [spec_l1Number.j0] at H
   have ft := zam H; clear H
   go_upto_region 4 with (fail)
   go_cut [23] (fun v23 wc => ∃ (kq : Nat) (bn : Bool), v23 = .bool bn ∧ Aside0 (spec_l1Number.j1 kq a0 bb a1 bn = some (r1, r2, r3, r4, r5)) ∧ Aside0 (kq ≤ kj3) ∧ Aside0 (wc.heap[bf]? = some (.cells #[.string (⟨#[]⟩ : ByteArray), .int .i64 0, .bool false, .bool false, .bool false] 82 (0, 0))) ∧ Aside0 (Below w.heap.size w wc))
   case first =>
    have H := ft.out; clear ft
    by_cases c8 : bb ≥ (a0.size : Int)
    ·rw [if_pos c8] at H
     have bz := zge c8; clear c8
     (first | rw [bz] | (simp only [i64_w, i32_w, IntKind.wrap_u8, IntKind.wrap_u32]; rw [bz]) | skip)
     have H' := zam H; clear H
     go_wp2
     go_meet
     case rel => exact ⟨_, (true), zrs, H', ⟨zlo ct.out⟩, ⟨zbk bc.out⟩, ⟨zbl1 HB.out bd.out⟩⟩
    ·rw [if_neg c8] at H
     have bz := zge' c8; clear c8
     (first | rw [bz] | (simp only [i64_w, i32_w, IntKind.wrap_u8, IntKind.wrap_u32]; rw [bz]) | skip)
     by_cases c9 : 0 ≤ bb
     ·rw [if_pos c9] at H
      have gn := decide_eq_true c9; clear c9
      by_cases cv : bb < (a0.size : Int)
      ·rw [if_pos cv] at H
       have fw := decide_eq_true cv; clear cv; replace H := Option.bind_eq_some_iff.mp H; obtain ⟨bB, bL, H⟩ := H; have gp := zam bL; clear bL; have H' := zam H; clear H; have gy := zet (0 ≤ (bb : Int)); have gz := zet (bb < (a0.size : Int)); have gq := bt_at a0 bb
       go_wp2_with (first | (go_at_call 123; (with_reducible refine (spec_l1Digit.calls (bt a0 bb) bB _ gp.out).mono ?_); rintro e w' ⟨rfl, ⟨nd, rfl⟩⟩))
       go_meet
       case rel => exact ⟨_, (!bB), zrs, H', ⟨zlo ct.out⟩, ⟨zbk bc.out⟩, ⟨zbl1 HB.out bd.out⟩⟩
      ·rw [if_neg cv] at H
       exact absurd H (by simp)
     ·rw [if_neg c9] at H
      exact absurd H (by simp)
   case rest =>
    clear ft; obtain ⟨kq, bn, rfl, HA, fx, bc, HB⟩ := hcut
    cases kq with
    | zero => exact absurd HA.out (by simp [spec_l1Number.j1])
    | succ kj6 =>
     have H := HA.out; clear HA
     simp only [spec_l1Number.j1] at H
     by_cases cw : bn = true
     ·subst cw
      rw [if_pos rfl] at H
      simp only [Option.some.injEq, Prod.mk.injEq] at H
      obtain ⟨rfl, rfl, rfl, rfl, rfl⟩ := H; obtain ⟨cx, cy, cz, cB, cC, cD, cF, cG, cH, cJ⟩ := cells5 bc.out
      go_wp2
      refine bodyPost_ret (results_cell_row rfl _ _ bf 82 #[.string (⟨#[]⟩ : ByteArray), .int .i64 0, .bool false, .bool false, .bool false] (0, 0) _ rfl (by refine zbk ?_; refine blk_put (cs := #[.string (⟨#[]⟩ : ByteArray), .int .i64 0, .bool false, .bool false, .bool false]) ?_ 4 _ rfl; refine zbk ?_; refine blk_put (cs := #[.string (⟨#[]⟩ : ByteArray), .int .i64 0, .bool false, .bool false, .bool false]) ?_ 3 _ rfl; refine zbk ?_; refine blk_put (cs := #[.string (⟨#[]⟩ : ByteArray), .int .i64 0, .bool false, .bool false, .bool false]) ?_ 2 _ rfl; refine zbk ?_; refine blk_put (cs := #[.string (⟨#[]⟩ : ByteArray), .int .i64 0, .bool false, .bool false, .bool false]) ?_ 1 _ rfl; refine zbk ?_; refine blk_put (cs := #[.string (⟨#[]⟩ : ByteArray), .int .i64 0, .bool false, .bool false, .bool false]) ?_ 0 _ rfl; refine zbk ?_; exact bc.out) Tryz.underlying82 rfl (by kernel_rfl)) rfl ?_
      exact ⟨zer, zbl1 HB.out bd.out⟩
     ·replace cw := Bool.eq_false_iff.mpr cw
      subst cw; rw [if_neg (show ¬ (false = true) by decide)] at H
      by_cases cK : 0 ≤ bb
      ·rw [if_pos cK] at H
       have fy := decide_eq_true cK; clear cK
       by_cases cL : bb < (a0.size : Int)
       ·rw [if_pos cL] at H
        have fz := decide_eq_true cL; clear cL
        by_cases bD : (bt a0 bb) = 48
        ·rw [if_pos bD] at H
         have bM := beq_iff_eq.mpr bD; have bN := bne_eq_false_iff_eq.mpr bD; clear bD
         by_cases bP : 0 ≤ a1
         ·rw [if_pos bP] at H
          have fB := eq_true bP; have fC := decide_eq_true bP; clear bP
          by_cases cM : a1 ≤ (wrap64 (bb + 1))
          ·rw [if_pos cM] at H
           have fD := eq_true cM; have fF := decide_eq_true cM
           by_cases cN : (wrap64 (bb + 1)) ≤ (a0.size : Int)
           ·rw [if_pos cN] at H
            have fG := eq_true cN; have fH := decide_eq_true cN
            by_cases bF : (a0.extract (a1 : Int).toNat ((wrap64 (bb + 1)) : Int).toNat).toList = ([45, 48] : List UInt8)
            ·rw [if_pos bF] at H
             have bQ := beq_iff_eq.mpr bF; have bR := bne_eq_false_iff_eq.mpr bF; clear bF; replace H := Option.bind_eq_some_iff.mp H; obtain ⟨bq, bS, H⟩ := H; have gr := zam bS; clear bS
             simp only [Option.some.injEq, Prod.mk.injEq] at H
             obtain ⟨rfl, rfl, rfl, rfl, rfl⟩ := H; have fJ := zet (0 ≤ (bb : Int)); have fK := zet (bb < (a0.size : Int)); have bT := bt_at a0 bb
             go_wp2_with (first | ((with_reducible refine gate_callee (f := 124) rfl ?_); refine goesL_ (some 52) rfl rfl Tryz.func124 (by kernel_rfl) rfl #[.string (⟨#[48]⟩ : ByteArray)] rfl zar ?_; (with_reducible refine (spec_l1TooBig.calls (⟨#[48]⟩ : ByteArray) bq _ gr.out).mono ?_); rintro e w' ⟨rfl, ⟨nd, rfl⟩⟩; refine ⟨_, rfl, ?_⟩; (try (rw [drewN_self wc]; generalize hq_ : World.drewN wc _ = wc; replace bc := zam (blk_at hq_ bc.out); replace HB := zam (below_at hq_ HB.out); clear hq_)); obtain ⟨cP, cQ, cR, cS, cT, cV, cW, cX, cY, cZ⟩ := cells5 bc.out))
             refine bodyPost_ret (results_cell_row rfl _ _ bf 82 #[.string (⟨#[48]⟩ : ByteArray), .int .i64 (wrap64 (bb + 1)), .bool true, .bool bq, .bool false] (0, 0) _ rfl (by refine zbk ?_; refine blk_put (cs := #[.string (⟨#[48]⟩ : ByteArray), .int .i64 (wrap64 (bb + 1)), .bool true, .bool bq, .bool false]) ?_ 4 _ rfl; refine zbk ?_; refine blk_put (cs := #[.string (⟨#[48]⟩ : ByteArray), .int .i64 (wrap64 (bb + 1)), .bool true, .bool false, .bool false]) ?_ 3 _ rfl; refine zbk ?_; refine blk_put (cs := #[.string (⟨#[48]⟩ : ByteArray), .int .i64 (wrap64 (bb + 1)), .bool false, .bool false, .bool false]) ?_ 2 _ rfl; refine zbk ?_; refine blk_put (cs := #[.string (⟨#[48]⟩ : ByteArray), .int .i64 0, .bool false, .bool false, .bool false]) ?_ 1 _ rfl; refine zbk ?_; refine blk_put (cs := #[.string (⟨#[]⟩ : ByteArray), .int .i64 0, .bool false, .bool false, .bool false]) ?_ 0 _ rfl; refine zbk ?_; exact bc.out) Tryz.underlying82 rfl (by kernel_rfl)) rfl ?_
             exact ⟨zer, zbl1 HB.out bd.out⟩
            ·rw [if_neg bF] at H
             have bQ := beq_eq_false_iff_ne.mpr bF; have bR := bne_iff_ne.mpr bF; replace H := Option.bind_eq_some_iff.mp H; obtain ⟨br, bV, H⟩ := H; have gs := zam bV; clear bV
             simp only [Option.some.injEq, Prod.mk.injEq] at H
             obtain ⟨rfl, rfl, rfl, rfl, rfl⟩ := H; have fJ := zet (0 ≤ (bb : Int)); have fK := zet (bb < (a0.size : Int)); have bT := bt_at a0 bb
             go_wp2_with (first | ((with_reducible refine gate_callee (f := 124) rfl ?_); refine goesL_ (some 52) rfl rfl Tryz.func124 (by kernel_rfl) rfl #[.string (a0.extract (a1 : Int).toNat ((wrap64 (bb + 1)) : Int).toNat)] rfl zar ?_; (with_reducible refine (spec_l1TooBig.calls (a0.extract (a1 : Int).toNat ((wrap64 (bb + 1)) : Int).toNat) br _ gs.out).mono ?_); rintro e w' ⟨rfl, ⟨nd, rfl⟩⟩; refine ⟨_, rfl, ?_⟩; (try (rw [drewN_self wc]; generalize hq_ : World.drewN wc _ = wc; replace bc := zam (blk_at hq_ bc.out); replace HB := zam (below_at hq_ HB.out); clear hq_)); obtain ⟨db, dc, dd, df, dg, dh, dj, dk, dm, dn⟩ := cells5 bc.out))
             refine bodyPost_ret (results_cell_row rfl _ _ bf 82 #[.string (a0.extract (a1 : Int).toNat ((wrap64 (bb + 1)) : Int).toNat), .int .i64 (wrap64 (bb + 1)), .bool true, .bool br, .bool false] (0, 0) _ rfl (by refine zbk ?_; refine blk_put (cs := #[.string (a0.extract (a1 : Int).toNat ((wrap64 (bb + 1)) : Int).toNat), .int .i64 (wrap64 (bb + 1)), .bool true, .bool br, .bool false]) ?_ 4 _ rfl; refine zbk ?_; refine blk_put (cs := #[.string (a0.extract (a1 : Int).toNat ((wrap64 (bb + 1)) : Int).toNat), .int .i64 (wrap64 (bb + 1)), .bool true, .bool false, .bool false]) ?_ 3 _ rfl; refine zbk ?_; refine blk_put (cs := #[.string (a0.extract (a1 : Int).toNat ((wrap64 (bb + 1)) : Int).toNat), .int .i64 (wrap64 (bb + 1)), .bool false, .bool false, .bool false]) ?_ 2 _ rfl; refine zbk ?_; refine blk_put (cs := #[.string (a0.extract (a1 : Int).toNat ((wrap64 (bb + 1)) : Int).toNat), .int .i64 0, .bool false, .bool false, .bool false]) ?_ 1 _ rfl; refine zbk ?_; refine blk_put (cs := #[.string (⟨#[]⟩ : ByteArray), .int .i64 0, .bool false, .bool false, .bool false]) ?_ 0 _ rfl; refine zbk ?_; exact bc.out) Tryz.underlying82 rfl (by kernel_rfl)) rfl ?_
             exact ⟨zer, zbl1 HB.out bd.out⟩
           ·rw [if_neg cN] at H
            exact absurd H (by simp)
          ·rw [if_neg cM] at H
           exact absurd H (by simp)
         ·rw [if_neg bP] at H
          exact absurd H (by simp)
        ·rw [if_neg bD] at H
         have bM := beq_eq_false_iff_ne.mpr bD; have bN := bne_iff_ne.mpr bD; have H' := zam H; clear H; have fJ := zet (0 ≤ (bb : Int)); have fK := zet (bb < (a0.size : Int)); have bT := bt_at a0 bb
         go_wp2
         (try simp only [Act.put, List.setIfInBounds_toArray, List.set_cons_zero, List.set_cons_succ])
         go_loopg [1] kj6 (fun kq v1 w' => ∃ (bb : Int), v1 = .int .i64 bb ∧ Aside0 (spec_l1Number.l0 kq a0 bb a1 = some (r1, r2, r3, r4, r5)) ∧ Aside0 (kq ≤ kj6) ∧ Aside0 (w'.heap[bf]? = some (.cells #[.string (⟨#[]⟩ : ByteArray), .int .i64 0, .bool false, .bool false, .bool false] 82 (0, 0))) ∧ Aside0 (Below w.heap.size w w'))
         case atStart => exact ⟨(bb), zrs, H', ⟨Nat.le_refl _⟩, ⟨zbk bc.out⟩, ⟨zbl1 HB.out bd.out⟩⟩
         case round =>
          clear H'; obtain ⟨bb, rfl, HA, HK3, bc, HB⟩ := hrel
          cases gk with
          | zero => exact absurd HA.out (by simp [spec_l1Number.l0])
          | succ k3 =>
           have H := HA.out; clear HA
           simp only [spec_l1Number.l0] at H
           by_cases bK : bb < (a0.size : Int)
           ·rw [if_pos bK] at H
            have bW := decide_eq_true bK; clear bK
            by_cases dp : 0 ≤ bb
            ·rw [if_pos dp] at H
             have fL := decide_eq_true dp; clear dp; replace H := Option.bind_eq_some_iff.mp H; obtain ⟨bC, bX, H⟩ := H; have bJ := zam bX; clear bX
             by_cases dq : bC = true
             ·subst dq
              rw [if_pos rfl] at H; have H' := zam H; clear H; have fM := zet (0 ≤ (bb : Int)); have fN := zet (bb < (a0.size : Int)); have bY := bt_at a0 bb
              go_wp2_with (first | (go_at_call 123; (with_reducible refine (spec_l1Digit.calls (bt a0 bb) true _ bJ.out).mono ?_); rintro e w' ⟨rfl, ⟨nd, rfl⟩⟩))
              go_roundg k3
              case measure => have := ct.out; have := fx.out; have := HK3.out; omega
              case rel => exact ⟨(wrap64 (bb + 1)), zrs, H', ⟨zlo3 ct.out fx.out HK3.out⟩, ⟨zbk bc.out⟩, ⟨zbl1 HB.out bd.out⟩⟩
             ·replace dq := Bool.eq_false_iff.mpr dq
              subst dq; rw [if_neg (show ¬ (false = true) by decide)] at H
              by_cases bZ : 0 ≤ a1
              ·rw [if_pos bZ] at H
               have fP := eq_true bZ; have fQ := decide_eq_true bZ; clear bZ
               by_cases cb : a1 ≤ bb
               ·rw [if_pos cb] at H
                have fR := eq_true cb; have fS := decide_eq_true cb; clear cb
                by_cases cc : bb ≤ (a0.size : Int)
                ·rw [if_pos cc] at H
                 have fT := eq_true cc; have fV := decide_eq_true cc; clear cc
                 by_cases bG : (a0.extract (a1 : Int).toNat (bb : Int).toNat).toList = ([45, 48] : List UInt8)
                 ·rw [if_pos bG] at H
                  have cd := beq_iff_eq.mpr bG; have cf := bne_eq_false_iff_eq.mpr bG; clear bG; replace H := Option.bind_eq_some_iff.mp H; obtain ⟨bs, cg, H⟩ := H; have gt := zam cg; clear cg
                  simp only [Option.some.injEq, Prod.mk.injEq] at H
                  obtain ⟨rfl, rfl, rfl, rfl, rfl⟩ := H; have fM := zet (0 ≤ (bb : Int)); have fN := zet (bb < (a0.size : Int)); have bY := bt_at a0 bb
                  go_wp2_with (first | (go_at_call 123; (with_reducible refine (spec_l1Digit.calls (bt a0 bb) false _ bJ.out).mono ?_); rintro e w' ⟨rfl, ⟨nd, rfl⟩⟩; (try (rw [drewN_self wr]; generalize hq_ : World.drewN wr _ = wr; replace bc := zam (blk_at hq_ bc.out); replace HB := zam (below_at hq_ HB.out); clear hq_; have hfqBK212_0 := blk_frozen bc.out 0; have bg := blk_cell bc.out 0; simp only [List.getElem?_toArray, List.getElem?_cons_zero, List.getElem?_cons_succ] at bg; have hfqBK212_1 := blk_frozen bc.out 1; have bh := blk_cell bc.out 1; simp only [List.getElem?_toArray, List.getElem?_cons_zero, List.getElem?_cons_succ] at bh; have hfqBK212_2 := blk_frozen bc.out 2; have bj := blk_cell bc.out 2; simp only [List.getElem?_toArray, List.getElem?_cons_zero, List.getElem?_cons_succ] at bj; have hfqBK212_3 := blk_frozen bc.out 3; have bk := blk_cell bc.out 3; simp only [List.getElem?_toArray, List.getElem?_cons_zero, List.getElem?_cons_succ] at bk; have hfqBK212_4 := blk_frozen bc.out 4; have bm := blk_cell bc.out 4; simp only [List.getElem?_toArray, List.getElem?_cons_zero, List.getElem?_cons_succ] at bm))) | ((with_reducible refine gate_callee (f := 124) rfl ?_); refine goesL_ (some 52) rfl rfl Tryz.func124 (by kernel_rfl) rfl #[.string (⟨#[48]⟩ : ByteArray)] rfl zar ?_; (with_reducible refine (spec_l1TooBig.calls (⟨#[48]⟩ : ByteArray) bs _ gt.out).mono ?_); rintro e w' ⟨rfl, ⟨nd, rfl⟩⟩; refine ⟨_, rfl, ?_⟩; (try (rw [drewN_self wr]; generalize hq_ : World.drewN wr _ = wr; replace bc := zam (blk_at hq_ bc.out); replace HB := zam (below_at hq_ HB.out); clear hq_)); obtain ⟨dr, ds, dt, dv, dw, dx, dy, dz, dB, dC⟩ := cells5 bc.out))
                  refine bodyPost_ret (results_cell_row rfl _ _ bf 82 #[.string (⟨#[48]⟩ : ByteArray), .int .i64 bb, .bool true, .bool bs, .bool false] (0, 0) _ rfl (by refine zbk ?_; refine blk_put (cs := #[.string (⟨#[48]⟩ : ByteArray), .int .i64 bb, .bool true, .bool bs, .bool false]) ?_ 4 _ rfl; refine zbk ?_; refine blk_put (cs := #[.string (⟨#[48]⟩ : ByteArray), .int .i64 bb, .bool true, .bool false, .bool false]) ?_ 3 _ rfl; refine zbk ?_; refine blk_put (cs := #[.string (⟨#[48]⟩ : ByteArray), .int .i64 bb, .bool false, .bool false, .bool false]) ?_ 2 _ rfl; refine zbk ?_; refine blk_put (cs := #[.string (⟨#[48]⟩ : ByteArray), .int .i64 0, .bool false, .bool false, .bool false]) ?_ 1 _ rfl; refine zbk ?_; refine blk_put (cs := #[.string (⟨#[]⟩ : ByteArray), .int .i64 0, .bool false, .bool false, .bool false]) ?_ 0 _ rfl; refine zbk ?_; exact bc.out) Tryz.underlying82 rfl (by kernel_rfl)) rfl ?_
                  exact ⟨zer, zbl1 HB.out bd.out⟩
                 ·rw [if_neg bG] at H
                  have cd := beq_eq_false_iff_ne.mpr bG; have cf := bne_iff_ne.mpr bG; replace H := Option.bind_eq_some_iff.mp H; obtain ⟨bv, ch, H⟩ := H; have gv := zam ch; clear ch
                  simp only [Option.some.injEq, Prod.mk.injEq] at H
                  obtain ⟨rfl, rfl, rfl, rfl, rfl⟩ := H; have fM := zet (0 ≤ (bb : Int)); have fN := zet (bb < (a0.size : Int)); have bY := bt_at a0 bb
                  go_wp2_with (first | (go_at_call 123; (with_reducible refine (spec_l1Digit.calls (bt a0 bb) false _ bJ.out).mono ?_); rintro e w' ⟨rfl, ⟨nd, rfl⟩⟩; (try (rw [drewN_self wr]; generalize hq_ : World.drewN wr _ = wr; replace bc := zam (blk_at hq_ bc.out); replace HB := zam (below_at hq_ HB.out); clear hq_; have hfqBK212_0 := blk_frozen bc.out 0; have bg := blk_cell bc.out 0; simp only [List.getElem?_toArray, List.getElem?_cons_zero, List.getElem?_cons_succ] at bg; have hfqBK212_1 := blk_frozen bc.out 1; have bh := blk_cell bc.out 1; simp only [List.getElem?_toArray, List.getElem?_cons_zero, List.getElem?_cons_succ] at bh; have hfqBK212_2 := blk_frozen bc.out 2; have bj := blk_cell bc.out 2; simp only [List.getElem?_toArray, List.getElem?_cons_zero, List.getElem?_cons_succ] at bj; have hfqBK212_3 := blk_frozen bc.out 3; have bk := blk_cell bc.out 3; simp only [List.getElem?_toArray, List.getElem?_cons_zero, List.getElem?_cons_succ] at bk; have hfqBK212_4 := blk_frozen bc.out 4; have bm := blk_cell bc.out 4; simp only [List.getElem?_toArray, List.getElem?_cons_zero, List.getElem?_cons_succ] at bm))) | ((with_reducible refine gate_callee (f := 124) rfl ?_); refine goesL_ (some 52) rfl rfl Tryz.func124 (by kernel_rfl) rfl #[.string (a0.extract (a1 : Int).toNat (bb : Int).toNat)] rfl zar ?_; (with_reducible refine (spec_l1TooBig.calls (a0.extract (a1 : Int).toNat (bb : Int).toNat) bv _ gv.out).mono ?_); rintro e w' ⟨rfl, ⟨nd, rfl⟩⟩; refine ⟨_, rfl, ?_⟩; (try (rw [drewN_self wr]; generalize hq_ : World.drewN wr _ = wr; replace bc := zam (blk_at hq_ bc.out); replace HB := zam (below_at hq_ HB.out); clear hq_)); obtain ⟨dD, dF, dG, dH, dJ, dK, dL, dM, dN, dP⟩ := cells5 bc.out))
                  refine bodyPost_ret (results_cell_row rfl _ _ bf 82 #[.string (a0.extract (a1 : Int).toNat (bb : Int).toNat), .int .i64 bb, .bool true, .bool bv, .bool false] (0, 0) _ rfl (by refine zbk ?_; refine blk_put (cs := #[.string (a0.extract (a1 : Int).toNat (bb : Int).toNat), .int .i64 bb, .bool true, .bool bv, .bool false]) ?_ 4 _ rfl; refine zbk ?_; refine blk_put (cs := #[.string (a0.extract (a1 : Int).toNat (bb : Int).toNat), .int .i64 bb, .bool true, .bool false, .bool false]) ?_ 3 _ rfl; refine zbk ?_; refine blk_put (cs := #[.string (a0.extract (a1 : Int).toNat (bb : Int).toNat), .int .i64 bb, .bool false, .bool false, .bool false]) ?_ 2 _ rfl; refine zbk ?_; refine blk_put (cs := #[.string (a0.extract (a1 : Int).toNat (bb : Int).toNat), .int .i64 0, .bool false, .bool false, .bool false]) ?_ 1 _ rfl; refine zbk ?_; refine blk_put (cs := #[.string (⟨#[]⟩ : ByteArray), .int .i64 0, .bool false, .bool false, .bool false]) ?_ 0 _ rfl; refine zbk ?_; exact bc.out) Tryz.underlying82 rfl (by kernel_rfl)) rfl ?_
                  exact ⟨zer, zbl1 HB.out bd.out⟩
                ·rw [if_neg cc] at H
                 exact absurd H (by simp)
               ·rw [if_neg cb] at H
                exact absurd H (by simp)
              ·rw [if_neg bZ] at H
               exact absurd H (by simp)
            ·rw [if_neg dp] at H
             exact absurd H (by simp)
           ·rw [if_neg bK] at H
            have bW := decide_eq_false bK; clear bK
            by_cases cj : 0 ≤ a1
            ·rw [if_pos cj] at H
             have fW := eq_true cj; have fX := decide_eq_true cj; clear cj
             by_cases ck : a1 ≤ bb
             ·rw [if_pos ck] at H
              have fY := eq_true ck; have fZ := decide_eq_true ck; clear ck
              by_cases cm : bb ≤ (a0.size : Int)
              ·rw [if_pos cm] at H
               have gb := eq_true cm; have gc := decide_eq_true cm; clear cm
               by_cases bH : (a0.extract (a1 : Int).toNat (bb : Int).toNat).toList = ([45, 48] : List UInt8)
               ·rw [if_pos bH] at H
                have cn := beq_iff_eq.mpr bH; have cp := bne_eq_false_iff_eq.mpr bH; clear bH; replace H := Option.bind_eq_some_iff.mp H; obtain ⟨bw, cq, H⟩ := H; have gw := zam cq; clear cq
                simp only [Option.some.injEq, Prod.mk.injEq] at H
                obtain ⟨rfl, rfl, rfl, rfl, rfl⟩ := H
                go_wp2_with (first | ((with_reducible refine gate_callee (f := 124) rfl ?_); refine goesL_ (some 52) rfl rfl Tryz.func124 (by kernel_rfl) rfl #[.string (⟨#[48]⟩ : ByteArray)] rfl zar ?_; (with_reducible refine (spec_l1TooBig.calls (⟨#[48]⟩ : ByteArray) bw _ gw.out).mono ?_); rintro e w' ⟨rfl, ⟨nd, rfl⟩⟩; refine ⟨_, rfl, ?_⟩; (try (rw [drewN_self wr]; generalize hq_ : World.drewN wr _ = wr; replace bc := zam (blk_at hq_ bc.out); replace HB := zam (below_at hq_ HB.out); clear hq_)); obtain ⟨dQ, dR, dS, dT, dV, dW, dX, dY, dZ, fb⟩ := cells5 bc.out))
                refine bodyPost_ret (results_cell_row rfl _ _ bf 82 #[.string (⟨#[48]⟩ : ByteArray), .int .i64 bb, .bool true, .bool bw, .bool false] (0, 0) _ rfl (by refine zbk ?_; refine blk_put (cs := #[.string (⟨#[48]⟩ : ByteArray), .int .i64 bb, .bool true, .bool bw, .bool false]) ?_ 4 _ rfl; refine zbk ?_; refine blk_put (cs := #[.string (⟨#[48]⟩ : ByteArray), .int .i64 bb, .bool true, .bool false, .bool false]) ?_ 3 _ rfl; refine zbk ?_; refine blk_put (cs := #[.string (⟨#[48]⟩ : ByteArray), .int .i64 bb, .bool false, .bool false, .bool false]) ?_ 2 _ rfl; refine zbk ?_; refine blk_put (cs := #[.string (⟨#[48]⟩ : ByteArray), .int .i64 0, .bool false, .bool false, .bool false]) ?_ 1 _ rfl; refine zbk ?_; refine blk_put (cs := #[.string (⟨#[]⟩ : ByteArray), .int .i64 0, .bool false, .bool false, .bool false]) ?_ 0 _ rfl; refine zbk ?_; exact bc.out) Tryz.underlying82 rfl (by kernel_rfl)) rfl ?_
                exact ⟨zer, zbl1 HB.out bd.out⟩
               ·rw [if_neg bH] at H
                have cn := beq_eq_false_iff_ne.mpr bH; have cp := bne_iff_ne.mpr bH; replace H := Option.bind_eq_some_iff.mp H; obtain ⟨bx, cr, H⟩ := H; have gx := zam cr; clear cr
                simp only [Option.some.injEq, Prod.mk.injEq] at H
                obtain ⟨rfl, rfl, rfl, rfl, rfl⟩ := H
                go_wp2_with (first | ((with_reducible refine gate_callee (f := 124) rfl ?_); refine goesL_ (some 52) rfl rfl Tryz.func124 (by kernel_rfl) rfl #[.string (a0.extract (a1 : Int).toNat (bb : Int).toNat)] rfl zar ?_; (with_reducible refine (spec_l1TooBig.calls (a0.extract (a1 : Int).toNat (bb : Int).toNat) bx _ gx.out).mono ?_); rintro e w' ⟨rfl, ⟨nd, rfl⟩⟩; refine ⟨_, rfl, ?_⟩; (try (rw [drewN_self wr]; generalize hq_ : World.drewN wr _ = wr; replace bc := zam (blk_at hq_ bc.out); replace HB := zam (below_at hq_ HB.out); clear hq_)); obtain ⟨fc, fd, ff, fg, fh, fj, fk, fm, fn, fp⟩ := cells5 bc.out))
                refine bodyPost_ret (results_cell_row rfl _ _ bf 82 #[.string (a0.extract (a1 : Int).toNat (bb : Int).toNat), .int .i64 bb, .bool true, .bool bx, .bool false] (0, 0) _ rfl (by refine zbk ?_; refine blk_put (cs := #[.string (a0.extract (a1 : Int).toNat (bb : Int).toNat), .int .i64 bb, .bool true, .bool bx, .bool false]) ?_ 4 _ rfl; refine zbk ?_; refine blk_put (cs := #[.string (a0.extract (a1 : Int).toNat (bb : Int).toNat), .int .i64 bb, .bool true, .bool false, .bool false]) ?_ 3 _ rfl; refine zbk ?_; refine blk_put (cs := #[.string (a0.extract (a1 : Int).toNat (bb : Int).toNat), .int .i64 bb, .bool false, .bool false, .bool false]) ?_ 2 _ rfl; refine zbk ?_; refine blk_put (cs := #[.string (a0.extract (a1 : Int).toNat (bb : Int).toNat), .int .i64 0, .bool false, .bool false, .bool false]) ?_ 1 _ rfl; refine zbk ?_; refine blk_put (cs := #[.string (⟨#[]⟩ : ByteArray), .int .i64 0, .bool false, .bool false, .bool false]) ?_ 0 _ rfl; refine zbk ?_; exact bc.out) Tryz.underlying82 rfl (by kernel_rfl)) rfl ?_
                exact ⟨zer, zbl1 HB.out bd.out⟩
              ·rw [if_neg cm] at H
               exact absurd H (by simp)
             ·rw [if_neg ck] at H
              exact absurd H (by simp)
            ·rw [if_neg cj] at H
             exact absurd H (by simp)
       ·rw [if_neg cL] at H
        exact absurd H (by simp)
      ·rw [if_neg cK] at H
       exact absurd H (by simp)
end
end Go.Proofs.YtndagnkhjlgjgaaGreatDoor.PJt
