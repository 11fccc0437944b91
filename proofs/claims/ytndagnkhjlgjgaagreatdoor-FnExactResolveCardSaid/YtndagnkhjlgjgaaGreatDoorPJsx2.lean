-- Printed
import Derived.Test.YtndagnkhjlgjgaaGreatDoorPJsx1
namespace Go.Proofs.YtndagnkhjlgjgaaGreatDoor.PJs
open Go.RowKit YtndagnkhjlgjgaaGreatDoorW.PrintWords YtndagnkhjlgjgaaGreatDoorW.PrintLast YtndagnkhjlgjgaaGreatDoorW.PrintMore
attribute [local go_sem] max2_int min2_int max_two min_two max_three min_three max_four min_four
set_option linter.unusedVariables false
set_option linter.unusedSimpArgs false
mutual
def spec_l1RuneLen.j0 : Nat → ByteArray → Int → Int → Int → Option (Int)
 | 0, _, _, _, _ => none
 | k + 1, x0, x1, x6, x7 => if (wrap64 (x1 + x6)) > (x0.size : Int) then (some 0) else (spec_l1RuneLen.l0 k x0 x1 x6 x7 1)
def spec_l1RuneLen.l0 : Nat → ByteArray → Int → Int → Int → Int → Option (Int)
 | 0, _, _, _, _, _ => none
 | k + 1, x0, x1, x6, x7, x8 => if x8 < x6 then (if 0 ≤ (wrap64 (x1 + x8)) then (if (wrap64 (x1 + x8)) < (x0.size : Int) then (if (bt x0 (wrap64 (x1 + x8))) < 128 then (some 0) else (if (bt x0 (wrap64 (x1 + x8))) ≥ 192 then (some 0) else (spec_l1RuneLen.l0 k x0 x1 x6 (wrap64 ((wrap64 ((wrap64 (x7 * 64)) + (wrap64 (bt x0 (wrap64 (x1 + x8)))))) - 128)) (wrap64 (x8 + 1))))) else (none)) else (none)) else (if x7 > 1114111 then (some 0) else (if x7 ≥ 55296 then (if x7 < 57344 then (some 0) else ((spec_l1Utf8.f x7).bind fun bh => (if 0 ≤ x1 then (if x1 ≤ (wrap64 (x1 + x6)) then (if (wrap64 (x1 + x6)) ≤ (x0.size : Int) then (if bh.toList = (x0.extract (x1 : Int).toNat ((wrap64 (x1 + x6)) : Int).toNat).toList then (some x6) else (some 0)) else (none)) else (none)) else (none)))) else ((spec_l1Utf8.f x7).bind fun bj => (if 0 ≤ x1 then (if x1 ≤ (wrap64 (x1 + x6)) then (if (wrap64 (x1 + x6)) ≤ (x0.size : Int) then (if bj.toList = (x0.extract (x1 : Int).toNat ((wrap64 (x1 + x6)) : Int).toNat).toList then (some x6) else (some 0)) else (none)) else (none)) else (none)))))
end
def spec_l1RuneLen.f (k : Nat) (a0 : ByteArray) (a1 : Int) : Option (Int) := if 0 ≤ a1 then (if a1 < (a0.size : Int) then (if (wrap64 (bt a0 a1)) ≥ 240 then (spec_l1RuneLen.j0 k a0 a1 4 (wrap64 ((wrap64 (bt a0 a1)) - 240))) else (if (wrap64 (bt a0 a1)) ≥ 224 then (spec_l1RuneLen.j0 k a0 a1 3 (wrap64 ((wrap64 (bt a0 a1)) - 224))) else (if (wrap64 (bt a0 a1)) ≥ 192 then (spec_l1RuneLen.j0 k a0 a1 2 (wrap64 ((wrap64 (bt a0 a1)) - 192))) else (if (wrap64 (bt a0 a1)) ≥ 128 then (some 0) else (spec_l1RuneLen.j0 k a0 a1 1 (wrap64 (bt a0 a1))))))) else (none)) else (none)
def spec_l1RuneLen.T23 : Bool × List (List Nat × List Nat) := (true, [([], []), ([0], [0]), ([1], [1]), ([2], [2]), ([3, 2], [2, 3]), ([4, 2, 2], [2, 4]), ([5], [5]), ([6, 5], [5, 6]), ([5, 7, 2], [2, 5, 7]), ([2, 8], [2, 8]), ([9, 5], [9]), ([10], [10]), ([11, 10, 10], [10, 11]), ([10], [10]), ([10], [10]), ([10], [10]), ([10], [10]), ([15, 16, 10], [10, 15, 16]), ([13, 14, 17, 10], [10, 13, 14, 17]), ([12, 18, 10], [10, 12, 18]), ([10, 19], [10, 19])])
def spec_l1RuneLen.B23 : List Nat := [0, 1, 3, 7, 15, 31, 63, 127, 255, 511, 1023, 2047, 4095, 2047, 2047, 2047, 2047, 100351, 255999, 524287, 1048575]
theorem spec_l1RuneLen.tab23 : rtab .any (opsOf Tryz.f160 23) = spec_l1RuneLen.T23 := by kernel_rfl
theorem spec_l1RuneLen.bits23 : waitsOk spec_l1RuneLen.T23.2 spec_l1RuneLen.B23 = true := by kernel_rfl
set_option maxHeartbeats 8000000 in
set_option maxRecDepth 100000 in
theorem spec_l1RuneLen.calls (k : Nat) (a0 : ByteArray) (a1 : Int) (r : Int) (w : World) (h : spec_l1RuneLen.f k a0 a1 = some r) :
  Calls Tryz.prog 160 #[.string a0, .int .i64 a1] w fun e w' => e = .returned (.int .i64 r) ∧ Below w.heap.size w w' := by
 have HB := zam (Below.refl w.heap.size w)
 have H : (if 0 ≤ a1 then (if a1 < (a0.size : Int) then (if (wrap64 (bt a0 a1)) ≥ 240 then (spec_l1RuneLen.j0 k a0 a1 4 (wrap64 ((wrap64 (bt a0 a1)) - 240))) else (if (wrap64 (bt a0 a1)) ≥ 224 then (spec_l1RuneLen.j0 k a0 a1 3 (wrap64 ((wrap64 (bt a0 a1)) - 224))) else (if (wrap64 (bt a0 a1)) ≥ 192 then (spec_l1RuneLen.j0 k a0 a1 2 (wrap64 ((wrap64 (bt a0 a1)) - 192))) else (if (wrap64 (bt a0 a1)) ≥ 128 then (some 0) else (spec_l1RuneLen.j0 k a0 a1 1 (wrap64 (bt a0 a1))))))) else (none)) else (none)) = some r := h
 clear h
 by_cases c3 : 0 ≤ a1
 ·rw [if_pos c3] at H
  have cL := decide_eq_true c3; clear c3
  by_cases c4 : a1 < (a0.size : Int)
  ·rw [if_pos c4] at H
   have cM := decide_eq_true c4; clear c4; have cf := zam H; clear H; have p5 := zet (0 ≤ (a1 : Int)); have q5 := zet (a1 < (a0.size : Int)); have cR := bt_at a0 a1
   go_enter Tryz.func160, Tryz.ntmps160
   go_upto_if 15 with (fail)
   go_cut [6, 7] (fun v6 v7 wc => ∃ (kq : Nat) (bd : Int) (bm : Int), v6 = .int .i64 bd ∧ v7 = .int .i64 bm ∧ Aside0 (spec_l1RuneLen.j0 kq a0 a1 bd bm = some r) ∧ Aside0 (kq ≤ k) ∧ Aside0 (Below w.heap.size w wc))
   case first =>
    have H := cf.out; clear cf
    by_cases c7 : (wrap64 (bt a0 a1)) ≥ 240
    ·rw [if_pos c7] at H
     have bk := zge c7; clear c7
     (first | rw [bk] | (simp only [i64_w, i32_w, IntKind.wrap_u8, IntKind.wrap_u32]; rw [bk]) | skip)
     have H' := zam H; clear H
     go_wp2
     go_meet
     case rel => exact ⟨_, (4), (wrap64 ((wrap64 (bt a0 a1)) - 240)), zrs, zrs, H', ⟨zlo0⟩, ⟨zbl HB.out⟩⟩
    ·rw [if_neg c7] at H
     have bk := zge' c7; clear c7
     (first | rw [bk] | (simp only [i64_w, i32_w, IntKind.wrap_u8, IntKind.wrap_u32]; rw [bk]) | skip)
     by_cases c8 : (wrap64 (bt a0 a1)) ≥ 224
     ·rw [if_pos c8] at H
      have cg := zge c8; clear c8; have H' := zam H; clear H
      go_wp2
      go_meet
      case rel => exact ⟨_, (3), (wrap64 ((wrap64 (bt a0 a1)) - 224)), zrs, zrs, H', ⟨zlo0⟩, ⟨zbl HB.out⟩⟩
     ·rw [if_neg c8] at H
      have cg := zge' c8; clear c8
      by_cases c9 : (wrap64 (bt a0 a1)) ≥ 192
      ·rw [if_pos c9] at H
       have ch := zge c9; clear c9; have H' := zam H; clear H
       go_wp2
       go_meet
       case rel => exact ⟨_, (2), (wrap64 ((wrap64 (bt a0 a1)) - 192)), zrs, zrs, H', ⟨zlo0⟩, ⟨zbl HB.out⟩⟩
      ·rw [if_neg c9] at H
       have ch := zge' c9; clear c9
       by_cases bq : (wrap64 (bt a0 a1)) ≥ 128
       ·rw [if_pos bq] at H
        have bC := zge bq; clear bq; obtain rfl := Option.some.inj H
        go_wp2
        go_ret
        exact ⟨zer, zbl HB.out⟩
       ·rw [if_neg bq] at H
        have bC := zge' bq; clear bq; have H' := zam H; clear H
        go_wp2
        go_meet
        case rel => exact ⟨_, (1), (wrap64 (bt a0 a1)), zrs, zrs, H', ⟨zlo0⟩, ⟨zbl HB.out⟩⟩
   case rest =>
    clear cf; obtain ⟨kq, bd, bm, rfl, rfl, HA, cm, HB⟩ := hcut
    cases kq with
    | zero => exact absurd HA.out (by simp [spec_l1RuneLen.j0])
    | succ kj5 =>
     have H := HA.out; clear HA
     simp only [spec_l1RuneLen.j0] at H
     by_cases br : (wrap64 (a1 + bd)) > (a0.size : Int)
     ·rw [if_pos br] at H
      have bD := zgt br; clear br; obtain rfl := Option.some.inj H
      go_wp2
      go_ret
      exact ⟨zer, zbl HB.out⟩
     ·rw [if_neg br] at H
      have bD := zgt' br; clear br; have H' := zam H; clear H
      go_wp2
      go_loopg [7, 8] kj5 (fun kq v7 v8 w' => ∃ (bc : Int) (bg : Int), v7 = .int .i64 bc ∧ v8 = .int .i64 bg ∧ Aside0 (spec_l1RuneLen.l0 kq a0 a1 bd bc bg = some r) ∧ Aside0 (kq ≤ kj5) ∧ Aside0 (Below w.heap.size w w'))
      case atStart => exact ⟨(bm), (1), zrs, zrs, H', ⟨Nat.le_refl _⟩, ⟨zbl HB.out⟩⟩
      case round =>
       clear H'; obtain ⟨bc, bg, rfl, rfl, HA, HK2, HB⟩ := hrel
       cases gk with
       | zero => exact absurd HA.out (by simp [spec_l1RuneLen.l0])
       | succ k2 =>
        have H := HA.out; clear HA
        simp only [spec_l1RuneLen.l0] at H
        by_cases bs : bg < bd
        ·rw [if_pos bs] at H
         have bF := decide_eq_true bs; clear bs
         obtain ⟨bb, bf⟩ : ∃ j_ : Int, (wrap64 (a1 + bg)) = j_ := ⟨_, rfl⟩
         replace H : (if 0 ≤ (bb) then (if (bb) < (a0.size : Int) then (if (bt a0 (bb)) < 128 then (some 0) else (if (bt a0 (bb)) ≥ 192 then (some 0) else (spec_l1RuneLen.l0 k2 a0 a1 bd (wrap64 ((wrap64 ((wrap64 (bc * 64)) + (wrap64 (bt a0 (bb))))) - 128)) (wrap64 (bg + 1))))) else (none)) else (none)) = some r := by first | (rw [bf] at H; exact H) | (simp only [bf] at H ⊢; exact H)
         have cj : (IntKind.i64.wrap (a1 + bg)) = bb := (i64_w _).trans bf
         by_cases bX : 0 ≤ (bb)
         ·rw [if_pos bX] at H
          have cn := decide_eq_true bX; clear bX
          by_cases bY : (bb) < (a0.size : Int)
          ·rw [if_pos bY] at H
           have cp := decide_eq_true bY; clear bY
           by_cases bv : (bt a0 (bb)) < 128
           ·rw [if_pos bv] at H
            have bG := decide_eq_true bv; clear bv; obtain rfl := Option.some.inj H; have cq := zet (0 ≤ ((bb) : Int)); have cr := zet ((bb) < (a0.size : Int)); have bH := bt_at a0 (bb)
            go_wp2
            go_ret
            exact ⟨by first | rfl | (simp [errW_none, errW_some] <;> rfl) | (simp only [← bf]; first | rfl | (simp [errW_none, errW_some] <;> rfl)) | (simp [*, errW_none, errW_some] <;> rfl), zbl HB.out⟩
           ·rw [if_neg bv] at H
            have bG := decide_eq_false bv; clear bv
            by_cases bw : (bt a0 (bb)) ≥ 192
            ·rw [if_pos bw] at H
             have bJ := zge bw; clear bw; obtain rfl := Option.some.inj H; have cq := zet (0 ≤ ((bb) : Int)); have cr := zet ((bb) < (a0.size : Int)); have bH := bt_at a0 (bb); have cN := zet (0 ≤ ((bb) : Int)); have cP := zet ((bb) < (a0.size : Int)); have ck := bt_at a0 (bb)
             go_wp2
             go_ret
             exact ⟨by first | rfl | (simp [errW_none, errW_some] <;> rfl) | (simp only [← bf]; first | rfl | (simp [errW_none, errW_some] <;> rfl)) | (simp [*, errW_none, errW_some] <;> rfl), zbl HB.out⟩
            ·rw [if_neg bw] at H
             have bJ := zge' bw; clear bw; have H' := zam H; clear H; have cq := zet (0 ≤ ((bb) : Int)); have cr := zet ((bb) < (a0.size : Int)); have bH := bt_at a0 (bb); have cN := zet (0 ≤ ((bb) : Int)); have cP := zet ((bb) < (a0.size : Int)); have ck := bt_at a0 (bb); have cS := zet (0 ≤ ((bb) : Int)); have cT := zet ((bb) < (a0.size : Int)); have cQ := bt_at a0 (bb)
             go_wp2
             go_roundg k2
             case measure => have := cm.out; have := HK2.out; omega
             case rel => exact ⟨(wrap64 ((wrap64 ((wrap64 (bc * 64)) + (wrap64 (bt a0 (bb))))) - 128)), (wrap64 (bg + 1)), (by first | rfl | (simp; done) | (simp only [← bf] <;> (first | rfl | simp)) | (simp [*]; done)), zrs, H', ⟨zlo2 cm.out HK2.out⟩, ⟨zbl HB.out⟩⟩
          ·rw [if_neg bY] at H
           exact absurd H (by simp)
         ·rw [if_neg bX] at H
          exact absurd H (by simp)
        ·rw [if_neg bs] at H
         have bF := decide_eq_false bs; clear bs
         by_cases bx : bc > 1114111
         ·rw [if_pos bx] at H
          have bK := zgt bx; clear bx; obtain rfl := Option.some.inj H
          try go_wp2
          replace HB := zam (below_drew1 HB.out)
          refine start_ (n := 21) (S := fun w' => True) (ds := []) #[false, false, false, false, false, false, false, false, false, false, false, false, false, false, false, false, false, false, false, false, false] (by kernel_rfl) rfl rfl trivial (fun hHeld => ?_); refine with_tabW spec_l1RuneLen.tab23 spec_l1RuneLen.bits23 (fun HT_ HW_ => ?_)
          generalize wr.drew = cV at HB hHeld ⊢
          refine zpv (i := 0) (N := some 63) HT_.out (zb 21 1) rfl rfl ?_
          refine zpv (i := 1) (N := some 64) HT_.out (zb 21 3) rfl rfl ?_
          refine zpv (i := 2) (N := some 65) HT_.out (zb 21 7) rfl rfl ?_
          refine zpu (i := 3) (N := some 66) HT_.out (zb 21 15) rfl rfl ?_
          refine zpu (i := 4) (N := some 67) HT_.out (zb 21 31) rfl rfl ?_
          refine zpu (i := 5) (N := some 68) HT_.out (zb 21 63) rfl rfl ?_
          refine zpu (i := 6) (N := some 69) HT_.out (zb 21 127) rfl rfl ?_
          refine zpu (i := 7) (N := some 70) HT_.out (zb 21 255) rfl rfl ?_
          refine zpu (i := 8) (N := some 71) HT_.out (zb 21 511) rfl rfl ?_
          refine zpv (i := 9) (N := some 72) HT_.out (zb 21 1023) rfl rfl ?_
          refine zpv (i := 10) (N := some 73) HT_.out (zb 21 2047) rfl rfl ?_
          refine zpu (i := 11) (N := some 74) HT_.out (zb 21 4095) rfl rfl ?_
          refine zpu (i := 12) (N := some 75) HT_.out (zb 21 8191) rfl rfl ?_
          refine zpu (i := 13) (N := some 76) HT_.out (zb 21 16383) rfl rfl ?_
          refine zpu (i := 14) (N := some 77) HT_.out (zb 21 32767) rfl rfl ?_
          refine zpu (i := 15) (N := some 78) HT_.out (zb 21 65535) rfl rfl ?_
          refine zpu (i := 16) (N := some 79) HT_.out (zb 21 131071) rfl rfl ?_
          refine zpu (i := 17) (N := some 80) HT_.out (zb 21 262143) rfl rfl ?_
          refine zpu (i := 18) (N := some 81) HT_.out (zb 21 524287) rfl rfl ?_
          refine zpu (i := 19) (N := some 82) HT_.out (zb 21 1048575) rfl rfl ?_
          refine zpv (i := 20) (N := some 83) HT_.out (zb 21 2097151) rfl rfl ?_
          refine done_ (done_of HT_.out (by kernel_rfl)) ?_
          try go_wp2
          go_ret
          exact ⟨zer, zbl HB.out⟩
         ·rw [if_neg bx] at H
          have bK := zgt' bx; clear bx
          by_cases bz : bc ≥ 55296
          ·rw [if_pos bz] at H
           have bL := zge bz; clear bz
           by_cases bB : bc < 57344
           ·rw [if_pos bB] at H
            have bM := decide_eq_true bB; clear bB; obtain rfl := Option.some.inj H
            try go_wp2
            replace HB := zam (below_drew1 HB.out)
            refine start_ (n := 21) (S := fun w' => True) (ds := []) #[false, false, false, false, false, false, false, false, false, false, false, false, false, false, false, false, false, false, false, false, false] (by kernel_rfl) rfl rfl trivial (fun hHeld => ?_); refine with_tabW spec_l1RuneLen.tab23 spec_l1RuneLen.bits23 (fun HT_ HW_ => ?_)
            generalize wr.drew = cW at HB hHeld ⊢
            refine zpv (i := 0) (N := some 63) HT_.out (zb 21 1) rfl rfl ?_
            refine zpv (i := 1) (N := some 64) HT_.out (zb 21 3) rfl rfl ?_
            refine zpv (i := 2) (N := some 65) HT_.out (zb 21 7) rfl rfl ?_
            refine zpv (i := 3) (N := some 66) HT_.out (zb 21 15) rfl rfl ?_
            refine zpv (i := 4) (N := some 67) HT_.out (zb 21 31) rfl rfl ?_
            refine zpv (i := 5) (N := some 68) HT_.out (zb 21 63) rfl rfl ?_
            refine zpv (i := 6) (N := some 69) HT_.out (zb 21 127) rfl rfl ?_
            refine zpv (i := 7) (N := some 70) HT_.out (zb 21 255) rfl rfl ?_
            refine zpv (i := 8) (N := some 71) HT_.out (zb 21 511) rfl rfl ?_
            refine zpv (i := 9) (N := some 72) HT_.out (zb 21 1023) rfl rfl ?_
            refine zpv (i := 10) (N := some 73) HT_.out (zb 21 2047) rfl rfl ?_
            refine zpu (i := 11) (N := some 74) HT_.out (zb 21 4095) rfl rfl ?_
            refine zpu (i := 12) (N := some 75) HT_.out (zb 21 8191) rfl rfl ?_
            refine zpu (i := 13) (N := some 76) HT_.out (zb 21 16383) rfl rfl ?_
            refine zpu (i := 14) (N := some 77) HT_.out (zb 21 32767) rfl rfl ?_
            refine zpu (i := 15) (N := some 78) HT_.out (zb 21 65535) rfl rfl ?_
            refine zpu (i := 16) (N := some 79) HT_.out (zb 21 131071) rfl rfl ?_
            refine zpu (i := 17) (N := some 80) HT_.out (zb 21 262143) rfl rfl ?_
            refine zpu (i := 18) (N := some 81) HT_.out (zb 21 524287) rfl rfl ?_
            refine zpu (i := 19) (N := some 82) HT_.out (zb 21 1048575) rfl rfl ?_
            refine zpv (i := 20) (N := some 83) HT_.out (zb 21 2097151) rfl rfl ?_
            refine done_ (done_of HT_.out (by kernel_rfl)) ?_
            try go_wp2
            go_ret
            exact ⟨zer, zbl HB.out⟩
           ·rw [if_neg bB] at H
            have bM := decide_eq_false bB; clear bB; replace H := Option.bind_eq_some_iff.mp H; obtain ⟨bh, bN, H⟩ := H; have ct := zam bN; clear bN
            by_cases bP : 0 ≤ a1
            ·rw [if_pos bP] at H
             have cv := eq_true bP; have cw := decide_eq_true bP; clear bP
             by_cases bZ : a1 ≤ (wrap64 (a1 + bd))
             ·rw [if_pos bZ] at H
              have cx := eq_true bZ; have cy := decide_eq_true bZ
              by_cases cb : (wrap64 (a1 + bd)) ≤ (a0.size : Int)
              ·rw [if_pos cb] at H
               have cz := eq_true cb; have cB := decide_eq_true cb
               by_cases bn : bh.toList = (a0.extract (a1 : Int).toNat ((wrap64 (a1 + bd)) : Int).toNat).toList
               ·rw [if_pos bn] at H
                have bQ := beq_iff_eq.mpr bn; have bR := bne_eq_false_iff_eq.mpr bn; clear bn; obtain rfl := Option.some.inj H
                try go_wp2
                replace HB := zam (below_drew1 HB.out)
                refine start_ (n := 21) (S := fun w' => True) (ds := []) #[false, false, false, false, false, false, false, false, false, false, false, false, false, false, false, false, false, false, false, false, false] (by kernel_rfl) rfl rfl trivial (fun hHeld => ?_); refine with_tabW spec_l1RuneLen.tab23 spec_l1RuneLen.bits23 (fun HT_ HW_ => ?_)
                generalize wr.drew = cX at HB hHeld ⊢
                refine zpv (i := 0) (N := some 63) HT_.out (zb 21 1) rfl rfl ?_
                refine zpv (i := 1) (N := some 64) HT_.out (zb 21 3) rfl rfl ?_
                refine zpv (i := 2) (N := some 65) HT_.out (zb 21 7) rfl rfl ?_
                refine zpv (i := 3) (N := some 66) HT_.out (zb 21 15) rfl rfl ?_
                refine zpv (i := 4) (N := some 67) HT_.out (zb 21 31) rfl rfl ?_
                refine zpv (i := 5) (N := some 68) HT_.out (zb 21 63) rfl rfl ?_
                refine zpv (i := 6) (N := some 69) HT_.out (zb 21 127) rfl rfl ?_
                refine zpv (i := 7) (N := some 70) HT_.out (zb 21 255) rfl rfl ?_
                refine zpv (i := 8) (N := some 71) HT_.out (zb 21 511) rfl rfl ?_
                refine zpv (i := 9) (N := some 72) HT_.out (zb 21 1023) rfl rfl ?_
                refine zpv (i := 10) (N := some 73) HT_.out (zb 21 2047) rfl rfl ?_
                refine zpv (i := 11) (N := some 74) HT_.out (zb 21 4095) rfl rfl ?_
                refine zpv (i := 13) (N := some 76) HT_.out (zb 21 12287) rfl rfl ?_
                refine zpv (i := 14) (N := some 77) HT_.out (zb 21 28671) rfl rfl ?_
                refine zpv (i := 15) (N := some 78) HT_.out (zb 21 61439) rfl rfl ?_
                refine zpv (i := 16) (N := some 79) HT_.out (zb 21 126975) rfl rfl ?_
                refine zpv (i := 17) (N := some 80) HT_.out (zb 21 258047) rfl rfl ?_
                refine zpv (i := 18) (N := some 81) HT_.out (zb 21 520191) rfl rfl ?_
                refine one_ (i := 12) (N := some 75) (zb 21 524287) rfl rfl (one_of HT_.out (by kernel_rfl)) (by decide) (fun K hK => ?_)
                refine goes_ Tryz.func163 (by kernel_rfl) rfl #[.int .i64 bc] (by rfl) rfl rfl zar ?_
                with_reducible refine (spec_l1Utf8.calls bc bh _ ct.out).mono ?_
                rintro e cY ⟨rfl, hb⟩
                refine ⟨_, rfl, ?_⟩
                replace HB := zam (below_step (zbl HB.out) hb)
                refine hK.out _ _ trivial (fun hHeld => ?_)
                clear hK K
                refine norm_ (a' := ?_) ?_ ?_
                rotate_left
                ·show Act.put _ (some 75) _ = _
                 simp only [Act.put, List.setIfInBounds_toArray, List.set_cons_zero, List.set_cons_succ, i64_w, i32_w, IntKind.wrap_u8, IntKind.wrap_u32]
                 rfl
                refine zpv (i := 19) (N := some 82) HT_.out (zb 21 1048575) rfl rfl ?_
                refine zpv (i := 20) (N := some 83) HT_.out (zb 21 2097151) rfl rfl ?_
                refine done_ (done_of HT_.out (by kernel_rfl)) ?_
                try go_wp2
                go_ret
                exact ⟨zer, zbl HB.out⟩
               ·rw [if_neg bn] at H
                have bQ := beq_eq_false_iff_ne.mpr bn; have bR := bne_iff_ne.mpr bn; obtain rfl := Option.some.inj H
                try go_wp2
                replace HB := zam (below_drew1 HB.out)
                refine start_ (n := 21) (S := fun w' => True) (ds := []) #[false, false, false, false, false, false, false, false, false, false, false, false, false, false, false, false, false, false, false, false, false] (by kernel_rfl) rfl rfl trivial (fun hHeld => ?_); refine with_tabW spec_l1RuneLen.tab23 spec_l1RuneLen.bits23 (fun HT_ HW_ => ?_)
                generalize wr.drew = cZ at HB hHeld ⊢
                refine zpv (i := 0) (N := some 63) HT_.out (zb 21 1) rfl rfl ?_
                refine zpv (i := 1) (N := some 64) HT_.out (zb 21 3) rfl rfl ?_
                refine zpv (i := 2) (N := some 65) HT_.out (zb 21 7) rfl rfl ?_
                refine zpv (i := 3) (N := some 66) HT_.out (zb 21 15) rfl rfl ?_
                refine zpv (i := 4) (N := some 67) HT_.out (zb 21 31) rfl rfl ?_
                refine zpv (i := 5) (N := some 68) HT_.out (zb 21 63) rfl rfl ?_
                refine zpv (i := 6) (N := some 69) HT_.out (zb 21 127) rfl rfl ?_
                refine zpv (i := 7) (N := some 70) HT_.out (zb 21 255) rfl rfl ?_
                refine zpv (i := 8) (N := some 71) HT_.out (zb 21 511) rfl rfl ?_
                refine zpv (i := 9) (N := some 72) HT_.out (zb 21 1023) rfl rfl ?_
                refine zpv (i := 10) (N := some 73) HT_.out (zb 21 2047) rfl rfl ?_
                refine zpv (i := 11) (N := some 74) HT_.out (zb 21 4095) rfl rfl ?_
                refine zpv (i := 13) (N := some 76) HT_.out (zb 21 12287) rfl rfl ?_
                refine zpv (i := 14) (N := some 77) HT_.out (zb 21 28671) rfl rfl ?_
                refine zpv (i := 15) (N := some 78) HT_.out (zb 21 61439) rfl rfl ?_
                refine zpv (i := 16) (N := some 79) HT_.out (zb 21 126975) rfl rfl ?_
                refine zpv (i := 17) (N := some 80) HT_.out (zb 21 258047) rfl rfl ?_
                refine zpv (i := 18) (N := some 81) HT_.out (zb 21 520191) rfl rfl ?_
                refine one_ (i := 12) (N := some 75) (zb 21 524287) rfl rfl (one_of HT_.out (by kernel_rfl)) (by decide) (fun K hK => ?_)
                refine goes_ Tryz.func163 (by kernel_rfl) rfl #[.int .i64 bc] (by rfl) rfl rfl zar ?_
                with_reducible refine (spec_l1Utf8.calls bc bh _ ct.out).mono ?_
                rintro e db ⟨rfl, hb⟩
                refine ⟨_, rfl, ?_⟩
                replace HB := zam (below_step (zbl HB.out) hb)
                refine hK.out _ _ trivial (fun hHeld => ?_)
                clear hK K
                refine norm_ (a' := ?_) ?_ ?_
                rotate_left
                ·show Act.put _ (some 75) _ = _
                 simp only [Act.put, List.setIfInBounds_toArray, List.set_cons_zero, List.set_cons_succ, i64_w, i32_w, IntKind.wrap_u8, IntKind.wrap_u32]
                 rfl
                refine zpv (i := 19) (N := some 82) HT_.out (zb 21 1048575) rfl rfl ?_
                refine zpv (i := 20) (N := some 83) HT_.out (zb 21 2097151) rfl rfl ?_
                refine done_ (done_of HT_.out (by kernel_rfl)) ?_
                try go_wp2
                go_ret
                exact ⟨zer, zbl HB.out⟩
              ·rw [if_neg cb] at H
               exact absurd H (by simp)
             ·rw [if_neg bZ] at H
              exact absurd H (by simp)
            ·rw [if_neg bP] at H
             exact absurd H (by simp)
          ·rw [if_neg bz] at H
           have bL := zge' bz; clear bz; replace H := Option.bind_eq_some_iff.mp H; obtain ⟨bj, bS, H⟩ := H; have cC := zam bS; clear bS
           by_cases bT : 0 ≤ a1
           ·rw [if_pos bT] at H
            have cD := eq_true bT; have cF := decide_eq_true bT; clear bT
            by_cases cc : a1 ≤ (wrap64 (a1 + bd))
            ·rw [if_pos cc] at H
             have cG := eq_true cc; have cH := decide_eq_true cc
             by_cases cd : (wrap64 (a1 + bd)) ≤ (a0.size : Int)
             ·rw [if_pos cd] at H
              have cJ := eq_true cd; have cK := decide_eq_true cd
              by_cases bp : bj.toList = (a0.extract (a1 : Int).toNat ((wrap64 (a1 + bd)) : Int).toNat).toList
              ·rw [if_pos bp] at H
               have bV := beq_iff_eq.mpr bp; have bW := bne_eq_false_iff_eq.mpr bp; clear bp; obtain rfl := Option.some.inj H
               try go_wp2
               replace HB := zam (below_drew1 HB.out)
               refine start_ (n := 21) (S := fun w' => True) (ds := []) #[false, false, false, false, false, false, false, false, false, false, false, false, false, false, false, false, false, false, false, false, false] (by kernel_rfl) rfl rfl trivial (fun hHeld => ?_); refine with_tabW spec_l1RuneLen.tab23 spec_l1RuneLen.bits23 (fun HT_ HW_ => ?_)
               generalize wr.drew = dc at HB hHeld ⊢
               refine zpv (i := 0) (N := some 63) HT_.out (zb 21 1) rfl rfl ?_
               refine zpv (i := 1) (N := some 64) HT_.out (zb 21 3) rfl rfl ?_
               refine zpv (i := 2) (N := some 65) HT_.out (zb 21 7) rfl rfl ?_
               refine zpv (i := 3) (N := some 66) HT_.out (zb 21 15) rfl rfl ?_
               refine zpv (i := 4) (N := some 67) HT_.out (zb 21 31) rfl rfl ?_
               refine zpv (i := 5) (N := some 68) HT_.out (zb 21 63) rfl rfl ?_
               refine zpu (i := 6) (N := some 69) HT_.out (zb 21 127) rfl rfl ?_
               refine zpu (i := 7) (N := some 70) HT_.out (zb 21 255) rfl rfl ?_
               refine zpv (i := 8) (N := some 71) HT_.out (zb 21 511) rfl rfl ?_
               refine zpv (i := 9) (N := some 72) HT_.out (zb 21 1023) rfl rfl ?_
               refine zpv (i := 10) (N := some 73) HT_.out (zb 21 2047) rfl rfl ?_
               refine zpv (i := 11) (N := some 74) HT_.out (zb 21 4095) rfl rfl ?_
               refine zpv (i := 13) (N := some 76) HT_.out (zb 21 12287) rfl rfl ?_
               refine zpv (i := 14) (N := some 77) HT_.out (zb 21 28671) rfl rfl ?_
               refine zpv (i := 15) (N := some 78) HT_.out (zb 21 61439) rfl rfl ?_
               refine zpv (i := 16) (N := some 79) HT_.out (zb 21 126975) rfl rfl ?_
               refine zpv (i := 17) (N := some 80) HT_.out (zb 21 258047) rfl rfl ?_
               refine zpv (i := 18) (N := some 81) HT_.out (zb 21 520191) rfl rfl ?_
               refine one_ (i := 12) (N := some 75) (zb 21 524287) rfl rfl (one_of HT_.out (by kernel_rfl)) (by decide) (fun K hK => ?_)
               refine goes_ Tryz.func163 (by kernel_rfl) rfl #[.int .i64 bc] (by rfl) rfl rfl zar ?_
               with_reducible refine (spec_l1Utf8.calls bc bj _ cC.out).mono ?_
               rintro e dd ⟨rfl, hb⟩
               refine ⟨_, rfl, ?_⟩
               replace HB := zam (below_step (zbl HB.out) hb)
               refine hK.out _ _ trivial (fun hHeld => ?_)
               clear hK K
               refine norm_ (a' := ?_) ?_ ?_
               rotate_left
               ·show Act.put _ (some 75) _ = _
                simp only [Act.put, List.setIfInBounds_toArray, List.set_cons_zero, List.set_cons_succ, i64_w, i32_w, IntKind.wrap_u8, IntKind.wrap_u32]
                rfl
               refine zpv (i := 19) (N := some 82) HT_.out (zb 21 1048575) rfl rfl ?_
               refine zpv (i := 20) (N := some 83) HT_.out (zb 21 2097151) rfl rfl ?_
               refine done_ (done_of HT_.out (by kernel_rfl)) ?_
               try go_wp2
               go_ret
               exact ⟨zer, zbl HB.out⟩
              ·rw [if_neg bp] at H
               have bV := beq_eq_false_iff_ne.mpr bp; have bW := bne_iff_ne.mpr bp; obtain rfl := Option.some.inj H
               try go_wp2
               replace HB := zam (below_drew1 HB.out)
               refine start_ (n := 21) (S := fun w' => True) (ds := []) #[false, false, false, false, false, false, false, false, false, false, false, false, false, false, false, false, false, false, false, false, false] (by kernel_rfl) rfl rfl trivial (fun hHeld => ?_); refine with_tabW spec_l1RuneLen.tab23 spec_l1RuneLen.bits23 (fun HT_ HW_ => ?_)
               generalize wr.drew = df at HB hHeld ⊢
               refine zpv (i := 0) (N := some 63) HT_.out (zb 21 1) rfl rfl ?_
               refine zpv (i := 1) (N := some 64) HT_.out (zb 21 3) rfl rfl ?_
               refine zpv (i := 2) (N := some 65) HT_.out (zb 21 7) rfl rfl ?_
               refine zpv (i := 3) (N := some 66) HT_.out (zb 21 15) rfl rfl ?_
               refine zpv (i := 4) (N := some 67) HT_.out (zb 21 31) rfl rfl ?_
               refine zpv (i := 5) (N := some 68) HT_.out (zb 21 63) rfl rfl ?_
               refine zpu (i := 6) (N := some 69) HT_.out (zb 21 127) rfl rfl ?_
               refine zpu (i := 7) (N := some 70) HT_.out (zb 21 255) rfl rfl ?_
               refine zpv (i := 8) (N := some 71) HT_.out (zb 21 511) rfl rfl ?_
               refine zpv (i := 9) (N := some 72) HT_.out (zb 21 1023) rfl rfl ?_
               refine zpv (i := 10) (N := some 73) HT_.out (zb 21 2047) rfl rfl ?_
               refine zpv (i := 11) (N := some 74) HT_.out (zb 21 4095) rfl rfl ?_
               refine zpv (i := 13) (N := some 76) HT_.out (zb 21 12287) rfl rfl ?_
               refine zpv (i := 14) (N := some 77) HT_.out (zb 21 28671) rfl rfl ?_
               refine zpv (i := 15) (N := some 78) HT_.out (zb 21 61439) rfl rfl ?_
               refine zpv (i := 16) (N := some 79) HT_.out (zb 21 126975) rfl rfl ?_
               refine zpv (i := 17) (N := some 80) HT_.out (zb 21 258047) rfl rfl ?_
               refine zpv (i := 18) (N := some 81) HT_.out (zb 21 520191) rfl rfl ?_
               refine one_ (i := 12) (N := some 75) (zb 21 524287) rfl rfl (one_of HT_.out (by kernel_rfl)) (by decide) (fun K hK => ?_)
               refine goes_ Tryz.func163 (by kernel_rfl) rfl #[.int .i64 bc] (by rfl) rfl rfl zar ?_
               with_reducible refine (spec_l1Utf8.calls bc bj _ cC.out).mono ?_
               rintro e dg ⟨rfl, hb⟩
               refine ⟨_, rfl, ?_⟩
               replace HB := zam (below_step (zbl HB.out) hb)
               refine hK.out _ _ trivial (fun hHeld => ?_)
               clear hK K
               refine norm_ (a' := ?_) ?_ ?_
               rotate_left
               ·show Act.put _ (some 75) _ = _
                simp only [Act.put, List.setIfInBounds_toArray, List.set_cons_zero, List.set_cons_succ, i64_w, i32_w, IntKind.wrap_u8, IntKind.wrap_u32]
                rfl
               refine zpv (i := 19) (N := some 82) HT_.out (zb 21 1048575) rfl rfl ?_
               refine zpv (i := 20) (N := some 83) HT_.out (zb 21 2097151) rfl rfl ?_
               refine done_ (done_of HT_.out (by kernel_rfl)) ?_
               try go_wp2
               go_ret
               exact ⟨zer, zbl HB.out⟩
             ·rw [if_neg cd] at H
              exact absurd H (by simp)
            ·rw [if_neg cc] at H
             exact absurd H (by simp)
           ·rw [if_neg bT] at H
            exact absurd H (by simp)
  ·rw [if_neg c4] at H
   exact absurd H (by simp)
 ·rw [if_neg c3] at H
  exact absurd H (by simp)
end Go.Proofs.YtndagnkhjlgjgaaGreatDoor.PJs
