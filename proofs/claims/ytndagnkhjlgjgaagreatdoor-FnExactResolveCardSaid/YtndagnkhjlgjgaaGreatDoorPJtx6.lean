-- Printed
import Derived.Test.YtndagnkhjlgjgaaGreatDoorReadF
namespace Go.Proofs.YtndagnkhjlgjgaaGreatDoor.PJt
open Go.RowKit Own Xtra YtndagnkhjlgjgaaGreatDoorW.PrintWords YtndagnkhjlgjgaaGreatDoorW.PrintLast YtndagnkhjlgjgaaGreatDoorW.PrintMore
attribute [local go_sem] max2_int min2_int max_two min_two max_three min_three max_four min_four
set_option linter.unusedVariables false
set_option linter.unusedSimpArgs false
section
variable [Inhabited Rec]
mutual
def spec_l1End.l0 : Nat → ByteArray → Int → Int → Option (Int)
 | 0, _, _, _ => none
 | k + 1, x0, x1, x5 => if x1 < (x0.size : Int) then (if 0 ≤ x1 then (if (bt x0 x1) = 34 then ((spec_l1String.f x0 x1).bind fun bQ => (spec_l1End.j1 k x0 bQ.2.1 x5 (bt x0 x1))) else (spec_l1End.j1 k x0 (wrap64 (x1 + 1)) x5 (bt x0 x1))) else (none)) else (some x1)
def spec_l1End.j1 : Nat → ByteArray → Int → Int → Int → Option (Int)
 | 0, _, _, _, _ => none
 | k + 1, x0, x1, x5, x6 => if x6 = 91 then (spec_l1End.j2 k x0 x1 x5 x6 true) else (spec_l1End.j2 k x0 x1 x5 x6 (x6 == 123))
def spec_l1End.j2 : Nat → ByteArray → Int → Int → Int → Bool → Option (Int)
 | 0, _, _, _, _, _ => none
 | k + 1, x0, x1, x5, x6, df => if df = true then (spec_l1End.j3 k x0 x1 (wrap64 (x5 + 1)) x6) else (spec_l1End.j3 k x0 x1 x5 x6)
def spec_l1End.j3 : Nat → ByteArray → Int → Int → Int → Option (Int)
 | 0, _, _, _, _ => none
 | k + 1, x0, x1, x5, x6 => if x6 = 93 then (spec_l1End.j4 k x0 x1 x5 true) else (spec_l1End.j4 k x0 x1 x5 (x6 == 125))
def spec_l1End.j4 : Nat → ByteArray → Int → Int → Bool → Option (Int)
 | 0, _, _, _, _ => none
 | k + 1, x0, x1, x5, dg => if dg = true then (if (wrap64 (x5 - 1)) = 0 then (if x1 = (x0.size : Int) then (some x1) else (if 0 ≤ x1 then (if x1 < (x0.size : Int) then (if (bt x0 x1) = 44 then (some x1) else (if (bt x0 x1) = 93 then (some x1) else (if (bt x0 x1) = 125 then (some x1) else (spec_l1End.l0 k x0 x1 (wrap64 (x5 - 1)))))) else (none)) else (none))) else (spec_l1End.l0 k x0 x1 (wrap64 (x5 - 1)))) else (if x5 = 0 then (if x1 = (x0.size : Int) then (some x1) else (if 0 ≤ x1 then (if x1 < (x0.size : Int) then (if (bt x0 x1) = 44 then (some x1) else (if (bt x0 x1) = 93 then (some x1) else (if (bt x0 x1) = 125 then (some x1) else (spec_l1End.l0 k x0 x1 x5)))) else (none)) else (none))) else (spec_l1End.l0 k x0 x1 x5))
end
def spec_l1End.f (k : Nat) (a0 : ByteArray) (a1 : Int) : Option (Int) := spec_l1End.l0 k a0 a1 0
set_option maxHeartbeats 8000000 in
set_option maxRecDepth 100000 in
theorem spec_l1End.calls (k : Nat) (a0 : ByteArray) (a1 : Int) (r : Int) (w : World) (h : spec_l1End.f k a0 a1 = some r) :
  Calls Tryz.prog 100 #[.string a0, .int .i64 a1] w fun e w' => e = .returned (.int .i64 r) ∧ Below w.heap.size w w' := by
 have HB := zam (Below.refl w.heap.size w); have H : (spec_l1End.l0 k a0 a1 0) = some r := h; clear h; have H' := zam H; clear H
 go_enter Tryz.func100, Tryz.ntmps100
 go_wp2
 (try simp only [Act.put, List.setIfInBounds_toArray, List.set_cons_zero, List.set_cons_succ])
 go_loopg [1, 5] k (fun kq v1 v5 w' => ∃ (bc : Int) (bm : Int), v1 = .int .i64 bc ∧ v5 = .int .i64 bm ∧ Aside0 (spec_l1End.l0 kq a0 bc bm = some r) ∧ Aside0 (kq ≤ k) ∧ Aside0 (Below w.heap.size w w'))
 case atStart => exact ⟨(a1), (0), zrs, zrs, H', ⟨Nat.le_refl _⟩, ⟨zbl HB.out⟩⟩
 case round =>
  clear H'; obtain ⟨bc, bm, rfl, rfl, HA, HK1, HB⟩ := hrel
  cases gk with
  | zero => exact absurd HA.out (by simp [spec_l1End.l0])
  | succ k1 =>
   have H := HA.out; clear HA
   simp only [spec_l1End.l0] at H
   by_cases c3 : bc < (a0.size : Int)
   ·rw [if_pos c3] at H
    have cG := decide_eq_true c3; clear c3
    by_cases c4 : 0 ≤ bc
    ·rw [if_pos c4] at H
     have dh := decide_eq_true c4; clear c4; have cH := zam H; clear H; have p5 := zet (0 ≤ (bc : Int)); have q5 := zet (bc < (a0.size : Int)); have dp := bt_at a0 bc
     go_upto_if 18 with (fail)
     go_cut [1] (fun v1 wc => ∃ (kq : Nat) (bb : Int), v1 = .int .i64 bb ∧ Aside0 (spec_l1End.j1 kq a0 bb bm (bt a0 bc) = some r) ∧ Aside0 (kq ≤ k1) ∧ Aside0 (Below w.heap.size w wc))
     case first =>
      have H := cH.out; clear cH
      by_cases c7 : (bt a0 bc) = 34
      ·rw [if_pos c7] at H
       have br := beq_iff_eq.mpr c7; have cJ := bne_eq_false_iff_eq.mpr c7; clear c7
       (first | rw [br] | (simp only [i64_w, i32_w, IntKind.wrap_u8, IntKind.wrap_u32]; rw [br]) | skip)
       replace H := Option.bind_eq_some_iff.mp H; obtain ⟨⟨cK, bR, cL⟩, cT, H⟩ := H
       try dsimp only at H
       have A8 := zam cT; clear cT; have H' := zam H; clear H
       go_wp2_with (first | ((with_reducible refine gate_callee (f := 92) rfl ?_); refine goesL_ (some 22) rfl rfl Tryz.func92 (by kernel_rfl) rfl #[.string a0, .int .i64 bc] rfl zar ?_; (with_reducible refine (spec_l1String.calls a0 bc cK bR cL _ A8.out).mono ?_); rintro e w9 ⟨rfl, hb⟩; refine ⟨_, rfl, ?_⟩; replace HB := zam (below_step (zbl HB.out) hb); (try clear hb); (try clear hb2); (try clear hk); (try clear hi)))
       go_meet
       case rel => exact ⟨_, (bR), zrs, H', ⟨zlo HK1.out⟩, ⟨zbl HB.out⟩⟩
      ·rw [if_neg c7] at H
       have br := beq_eq_false_iff_ne.mpr c7; have cJ := bne_iff_ne.mpr c7
       (first | rw [br] | (simp only [i64_w, i32_w, IntKind.wrap_u8, IntKind.wrap_u32]; rw [br]) | skip)
       have H' := zam H; clear H
       go_wp2
       go_meet
       case rel => exact ⟨_, (wrap64 (bc + 1)), zrs, H', ⟨zlo HK1.out⟩, ⟨zbl HB.out⟩⟩
     case rest =>
      clear cH; obtain ⟨kq, bb, rfl, HA, bn, HB⟩ := hcut
      cases kq with
      | zero => exact absurd HA.out (by simp [spec_l1End.j1])
      | succ kj5 =>
       have H := HA.out; clear HA
       simp only [spec_l1End.j1] at H
       have bs := zam H; clear H
       go_upto_region 8 with (fail)
       go_cut [34] (fun v34 wc => ∃ (kq : Nat) (bp : Bool), v34 = .bool bp ∧ Aside0 (spec_l1End.j2 kq a0 bb bm (bt a0 bc) bp = some r) ∧ Aside0 (kq ≤ kj5) ∧ Aside0 (Below w.heap.size w wc))
       case first =>
        have H := bs.out; clear bs
        by_cases bv : (bt a0 bc) = 91
        ·rw [if_pos bv] at H
         have bh := beq_iff_eq.mpr bv; have bS := bne_eq_false_iff_eq.mpr bv; clear bv
         (first | rw [bh] | (simp only [i64_w, i32_w, IntKind.wrap_u8, IntKind.wrap_u32]; rw [bh]) | skip)
         have H' := zam H; clear H
         go_wp2
         go_meet
         case rel => exact ⟨_, (true), zrs, H', ⟨zlo2 HK1.out bn.out⟩, ⟨zbl HB.out⟩⟩
        ·rw [if_neg bv] at H
         have bh := beq_eq_false_iff_ne.mpr bv; have bS := bne_iff_ne.mpr bv
         (first | rw [bh] | (simp only [i64_w, i32_w, IntKind.wrap_u8, IntKind.wrap_u32]; rw [bh]) | skip)
         have H' := zam H; clear H
         go_wp2
         go_meet
         case rel => exact ⟨_, (((bt a0 bc) == 123)), zrs, H', ⟨zlo2 HK1.out bn.out⟩, ⟨zbl HB.out⟩⟩
       case rest =>
        clear bs; obtain ⟨kq, bp, rfl, HA, bq, HB⟩ := hcut
        cases kq with
        | zero => exact absurd HA.out (by simp [spec_l1End.j2])
        | succ kj9 =>
         have H := HA.out; clear HA
         simp only [spec_l1End.j2] at H
         have bw := zam H; clear H
         go_upto_if 34 with (fail)
         go_cut [5] (fun v5 wc => ∃ (kq : Nat) (bd : Int), v5 = .int .i64 bd ∧ Aside0 (spec_l1End.j3 kq a0 bb bd (bt a0 bc) = some r) ∧ Aside0 (kq ≤ kj9) ∧ Aside0 (Below w.heap.size w wc))
         case first =>
          have H := bw.out; clear bw
          by_cases cy : bp = true
          ·subst cy
           rw [if_pos rfl] at H; have H' := zam H; clear H
           go_wp2
           go_meet
           case rel => exact ⟨_, (wrap64 (bm + 1)), zrs, H', ⟨zlo3 HK1.out bn.out bq.out⟩, ⟨zbl HB.out⟩⟩
          ·replace cy := Bool.eq_false_iff.mpr cy
           subst cy; rw [if_neg (show ¬ (false = true) by decide)] at H; have H' := zam H; clear H
           go_wp2
           go_meet
           case rel => exact ⟨_, (bm), zrs, H', ⟨zlo3 HK1.out bn.out bq.out⟩, ⟨zbl HB.out⟩⟩
         case rest =>
          clear bw; obtain ⟨kq, bd, rfl, HA, bf, HB⟩ := hcut
          cases kq with
          | zero => exact absurd HA.out (by simp [spec_l1End.j3])
          | succ kj11 =>
           have H := HA.out; clear HA
           simp only [spec_l1End.j3] at H
           have bx := zam H; clear H
           go_upto_region 10 with (fail)
           go_cut [42] (fun v42 wc => ∃ (kq : Nat) (bg : Bool), v42 = .bool bg ∧ Aside0 (spec_l1End.j4 kq a0 bb bd bg = some r) ∧ Aside0 (kq ≤ kj11) ∧ Aside0 (Below w.heap.size w wc))
           case first =>
            have H := bx.out; clear bx
            by_cases bz : (bt a0 bc) = 93
            ·rw [if_pos bz] at H
             have bj := beq_iff_eq.mpr bz; have bT := bne_eq_false_iff_eq.mpr bz; clear bz
             (first | rw [bj] | (simp only [i64_w, i32_w, IntKind.wrap_u8, IntKind.wrap_u32]; rw [bj]) | skip)
             have H' := zam H; clear H
             go_wp2
             go_meet
             case rel => exact ⟨_, (true), zrs, H', ⟨by have := HK1.out; have := bn.out; have := bq.out; have := bf.out; first | omega | exact Nat.le_refl _⟩, ⟨zbl HB.out⟩⟩
            ·rw [if_neg bz] at H
             have bj := beq_eq_false_iff_ne.mpr bz; have bT := bne_iff_ne.mpr bz
             (first | rw [bj] | (simp only [i64_w, i32_w, IntKind.wrap_u8, IntKind.wrap_u32]; rw [bj]) | skip)
             have H' := zam H; clear H
             go_wp2
             go_meet
             case rel => exact ⟨_, (((bt a0 bc) == 125)), zrs, H', ⟨by have := HK1.out; have := bn.out; have := bq.out; have := bf.out; first | omega | exact Nat.le_refl _⟩, ⟨zbl HB.out⟩⟩
           case rest =>
            clear bx; obtain ⟨kq, bg, rfl, HA, bk, HB⟩ := hcut
            cases kq with
            | zero => exact absurd HA.out (by simp [spec_l1End.j4])
            | succ kj13 =>
             have H := HA.out; clear HA
             simp only [spec_l1End.j4] at H
             by_cases cz : bg = true
             ·subst cz
              rw [if_pos rfl] at H
              by_cases bB : (wrap64 (bd - 1)) = 0
              ·rw [if_pos bB] at H
               have bV := beq_iff_eq.mpr bB; have bW := bne_eq_false_iff_eq.mpr bB; clear bB
               by_cases bC : bb = (a0.size : Int)
               ·rw [if_pos bC] at H
                have bX := beq_iff_eq.mpr bC; have bY := bne_eq_false_iff_eq.mpr bC; clear bC; obtain rfl := Option.some.inj H
                go_wp2
                go_ret
                exact ⟨zer, zbl HB.out⟩
               ·rw [if_neg bC] at H
                have bX := beq_eq_false_iff_ne.mpr bC; have bY := bne_iff_ne.mpr bC
                by_cases cB : 0 ≤ bb
                ·rw [if_pos cB] at H
                 have cV := decide_eq_true cB; clear cB
                 by_cases cC : bb < (a0.size : Int)
                 ·rw [if_pos cC] at H
                  have cW := decide_eq_true cC; clear cC
                  by_cases bD : (bt a0 bb) = 44
                  ·rw [if_pos bD] at H
                   have bZ := beq_iff_eq.mpr bD; have cb := bne_eq_false_iff_eq.mpr bD; clear bD; obtain rfl := Option.some.inj H; have cM := zet (0 ≤ (bb : Int)); have cN := zet (bb < (a0.size : Int)); have bF := bt_at a0 bb
                   go_wp2
                   go_ret
                   exact ⟨zer, zbl HB.out⟩
                  ·rw [if_neg bD] at H
                   have bZ := beq_eq_false_iff_ne.mpr bD; have cb := bne_iff_ne.mpr bD
                   by_cases bG : (bt a0 bb) = 93
                   ·rw [if_pos bG] at H
                    have cc := beq_iff_eq.mpr bG; have cd := bne_eq_false_iff_eq.mpr bG; clear bG; obtain rfl := Option.some.inj H; have cM := zet (0 ≤ (bb : Int)); have cN := zet (bb < (a0.size : Int)); have bF := bt_at a0 bb; have cX := zet (0 ≤ (bb : Int)); have cY := zet (bb < (a0.size : Int)); have cf := bt_at a0 bb
                    go_wp2
                    go_ret
                    exact ⟨zer, zbl HB.out⟩
                   ·rw [if_neg bG] at H
                    have cc := beq_eq_false_iff_ne.mpr bG; have cd := bne_iff_ne.mpr bG
                    by_cases bH : (bt a0 bb) = 125
                    ·rw [if_pos bH] at H
                     have cg := beq_iff_eq.mpr bH; have ch := bne_eq_false_iff_eq.mpr bH; clear bH; obtain rfl := Option.some.inj H; have cM := zet (0 ≤ (bb : Int)); have cN := zet (bb < (a0.size : Int)); have bF := bt_at a0 bb; have cX := zet (0 ≤ (bb : Int)); have cY := zet (bb < (a0.size : Int)); have cf := bt_at a0 bb; have dj := zet (0 ≤ (bb : Int)); have dk := zet (bb < (a0.size : Int)); have cP := bt_at a0 bb
                     go_wp2
                     go_ret
                     exact ⟨zer, zbl HB.out⟩
                    ·rw [if_neg bH] at H
                     have cg := beq_eq_false_iff_ne.mpr bH; have ch := bne_iff_ne.mpr bH; have H' := zam H; clear H; have cM := zet (0 ≤ (bb : Int)); have cN := zet (bb < (a0.size : Int)); have bF := bt_at a0 bb; have cX := zet (0 ≤ (bb : Int)); have cY := zet (bb < (a0.size : Int)); have cf := bt_at a0 bb; have dj := zet (0 ≤ (bb : Int)); have dk := zet (bb < (a0.size : Int)); have cP := bt_at a0 bb
                     go_wp2
                     go_roundg kj13
                     case measure => have := HK1.out; have := bn.out; have := bq.out; have := bf.out; have := bk.out; omega
                     case rel => exact ⟨(bb), (wrap64 (bd - 1)), zrs, zrs, H', ⟨by have := HK1.out; have := bn.out; have := bq.out; have := bf.out; have := bk.out; omega⟩, ⟨zbl HB.out⟩⟩
                 ·rw [if_neg cC] at H
                  exact absurd H (by simp)
                ·rw [if_neg cB] at H
                 exact absurd H (by simp)
              ·rw [if_neg bB] at H
               have bV := beq_eq_false_iff_ne.mpr bB; have bW := bne_iff_ne.mpr bB; have H' := zam H; clear H
               go_wp2
               go_roundg kj13
               case measure => have := HK1.out; have := bn.out; have := bq.out; have := bf.out; have := bk.out; omega
               case rel => exact ⟨(bb), (wrap64 (bd - 1)), zrs, zrs, H', ⟨by have := HK1.out; have := bn.out; have := bq.out; have := bf.out; have := bk.out; omega⟩, ⟨zbl HB.out⟩⟩
             ·replace cz := Bool.eq_false_iff.mpr cz
              subst cz; rw [if_neg (show ¬ (false = true) by decide)] at H
              by_cases bJ : bd = 0
              ·rw [if_pos bJ] at H
               have cj := beq_iff_eq.mpr bJ; have ck := bne_eq_false_iff_eq.mpr bJ; clear bJ
               by_cases bK : bb = (a0.size : Int)
               ·rw [if_pos bK] at H
                have cm := beq_iff_eq.mpr bK; have cn := bne_eq_false_iff_eq.mpr bK; clear bK; obtain rfl := Option.some.inj H
                go_wp2
                go_ret
                exact ⟨zer, zbl HB.out⟩
               ·rw [if_neg bK] at H
                have cm := beq_eq_false_iff_ne.mpr bK; have cn := bne_iff_ne.mpr bK
                by_cases cD : 0 ≤ bb
                ·rw [if_pos cD] at H
                 have cZ := decide_eq_true cD; clear cD
                 by_cases cF : bb < (a0.size : Int)
                 ·rw [if_pos cF] at H
                  have db := decide_eq_true cF; clear cF
                  by_cases bL : (bt a0 bb) = 44
                  ·rw [if_pos bL] at H
                   have cp := beq_iff_eq.mpr bL; have cq := bne_eq_false_iff_eq.mpr bL; clear bL; obtain rfl := Option.some.inj H; have cQ := zet (0 ≤ (bb : Int)); have cR := zet (bb < (a0.size : Int)); have bM := bt_at a0 bb
                   go_wp2
                   go_ret
                   exact ⟨zer, zbl HB.out⟩
                  ·rw [if_neg bL] at H
                   have cp := beq_eq_false_iff_ne.mpr bL; have cq := bne_iff_ne.mpr bL
                   by_cases bN : (bt a0 bb) = 93
                   ·rw [if_pos bN] at H
                    have cr := beq_iff_eq.mpr bN; have ct := bne_eq_false_iff_eq.mpr bN; clear bN; obtain rfl := Option.some.inj H; have cQ := zet (0 ≤ (bb : Int)); have cR := zet (bb < (a0.size : Int)); have bM := bt_at a0 bb; have dc := zet (0 ≤ (bb : Int)); have dd := zet (bb < (a0.size : Int)); have cv := bt_at a0 bb
                    go_wp2
                    go_ret
                    exact ⟨zer, zbl HB.out⟩
                   ·rw [if_neg bN] at H
                    have cr := beq_eq_false_iff_ne.mpr bN; have ct := bne_iff_ne.mpr bN
                    by_cases bP : (bt a0 bb) = 125
                    ·rw [if_pos bP] at H
                     have cw := beq_iff_eq.mpr bP; have cx := bne_eq_false_iff_eq.mpr bP; clear bP; obtain rfl := Option.some.inj H; have cQ := zet (0 ≤ (bb : Int)); have cR := zet (bb < (a0.size : Int)); have bM := bt_at a0 bb; have dc := zet (0 ≤ (bb : Int)); have dd := zet (bb < (a0.size : Int)); have cv := bt_at a0 bb; have dm := zet (0 ≤ (bb : Int)); have dn := zet (bb < (a0.size : Int)); have cS := bt_at a0 bb
                     go_wp2
                     go_ret
                     exact ⟨zer, zbl HB.out⟩
                    ·rw [if_neg bP] at H
                     have cw := beq_eq_false_iff_ne.mpr bP; have cx := bne_iff_ne.mpr bP; have H' := zam H; clear H; have cQ := zet (0 ≤ (bb : Int)); have cR := zet (bb < (a0.size : Int)); have bM := bt_at a0 bb; have dc := zet (0 ≤ (bb : Int)); have dd := zet (bb < (a0.size : Int)); have cv := bt_at a0 bb; have dm := zet (0 ≤ (bb : Int)); have dn := zet (bb < (a0.size : Int)); have cS := bt_at a0 bb
                     go_wp2
                     go_roundg kj13
                     case measure => have := HK1.out; have := bn.out; have := bq.out; have := bf.out; have := bk.out; omega
                     case rel => exact ⟨(bb), (bd), zrs, zrs, H', ⟨by have := HK1.out; have := bn.out; have := bq.out; have := bf.out; have := bk.out; omega⟩, ⟨zbl HB.out⟩⟩
                 ·rw [if_neg cF] at H
                  exact absurd H (by simp)
                ·rw [if_neg cD] at H
                 exact absurd H (by simp)
              ·rw [if_neg bJ] at H
               have cj := beq_eq_false_iff_ne.mpr bJ; have ck := bne_iff_ne.mpr bJ; have H' := zam H; clear H
               go_wp2
               go_roundg kj13
               case measure => have := HK1.out; have := bn.out; have := bq.out; have := bf.out; have := bk.out; omega
               case rel => exact ⟨(bb), (bd), zrs, zrs, H', ⟨by have := HK1.out; have := bn.out; have := bq.out; have := bf.out; have := bk.out; omega⟩, ⟨zbl HB.out⟩⟩
    ·rw [if_neg c4] at H
     exact absurd H (by simp)
   ·rw [if_neg c3] at H
    have cG := decide_eq_false c3; clear c3; obtain rfl := Option.some.inj H
    go_wp2
    go_ret
    exact ⟨zer, zbl HB.out⟩
end
end Go.Proofs.YtndagnkhjlgjgaaGreatDoor.PJt
