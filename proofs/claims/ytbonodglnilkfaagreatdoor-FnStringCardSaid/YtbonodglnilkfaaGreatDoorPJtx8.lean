-- Written by a turned copy of the kit print (wip/patch_print.py of this repo), this session
import Derived.Test.YtbonodglnilkfaaGreatDoorPJtx0
import Derived.Test.YtbonodglnilkfaaGreatDoorOwn
namespace Go.Proofs.YtbonodglnilkfaaGreatDoor.PJt
open Go.RowKit Go.Proofs.YtbonodglnilkfaaGreatDoor.Own Go.Proofs.YtbonodglnilkfaaGreatDoor.Xtra Go.Proofs.YtbonodglnilkfaaGreatDoorW.PrintWords Go.Proofs.YtbonodglnilkfaaGreatDoorW.PrintLast Go.Proofs.YtbonodglnilkfaaGreatDoorW.PrintMore
attribute [local go_sem] max2_int min2_int max_two min_two max_three min_three max_four min_four   -- for this text's walks alone
set_option linter.unusedVariables false
set_option linter.unusedSimpArgs false
section
variable [Inhabited Rec]
mutual
def spec_l1Within.l0 : Nat → ByteArray → Int → Int → Int → Option (Bool)
 | 0, _, _, _, _ => none
 | k + 1, x0, x3, x4, x5 => if x5 < (x0.size : Int) then (if 0 ≤ x5 then (if (bt x0 x5) = 91 then (spec_l1Within.j1 k x0 x3 x4 x5 true) else (spec_l1Within.j1 k x0 x3 x4 x5 ((bt x0 x5) == 123))) else (none)) else (if x4 > 100 then (some false) else ((spec_l1Sizes.f x0).bind fun bq => (if bq.1 ≤ 100 then (some (decide (bq.2 ≤ 3000))) else (some false))))
def spec_l1Within.j1 : Nat → ByteArray → Int → Int → Int → Bool → Option (Bool)
 | 0, _, _, _, _, _ => none
 | k + 1, x0, x3, x4, x5, cK => if cK = true then (spec_l1Within.j2 k x0 (wrap64 (x3 + 1)) x4 x5) else (spec_l1Within.j2 k x0 x3 x4 x5)
def spec_l1Within.j2 : Nat → ByteArray → Int → Int → Int → Option (Bool)
 | 0, _, _, _, _ => none
 | k + 1, x0, x3, x4, x5 => if 0 ≤ x5 then (if x5 < (x0.size : Int) then (if (bt x0 x5) = 93 then (spec_l1Within.j3 k x0 x3 x4 x5 true) else (spec_l1Within.j3 k x0 x3 x4 x5 ((bt x0 x5) == 125))) else (none)) else (none)
def spec_l1Within.j3 : Nat → ByteArray → Int → Int → Int → Bool → Option (Bool)
 | 0, _, _, _, _, _ => none
 | k + 1, x0, x3, x4, x5, cL => if cL = true then (spec_l1Within.j4 k x0 (wrap64 (x3 - 1)) x4 x5) else (spec_l1Within.j4 k x0 x3 x4 x5)
def spec_l1Within.j4 : Nat → ByteArray → Int → Int → Int → Option (Bool)
 | 0, _, _, _, _ => none
 | k + 1, x0, x3, x4, x5 => if x3 > x4 then (if 0 ≤ x5 then (if x5 < (x0.size : Int) then (if (bt x0 x5) = 34 then ((spec_l1String.f x0 x5).bind fun bG => (spec_l1Within.l0 k x0 x3 x3 bG.2.1)) else (spec_l1Within.l0 k x0 x3 x3 (wrap64 (x5 + 1)))) else (none)) else (none)) else (if 0 ≤ x5 then (if x5 < (x0.size : Int) then (if (bt x0 x5) = 34 then ((spec_l1String.f x0 x5).bind fun bH => (spec_l1Within.l0 k x0 x3 x4 bH.2.1)) else (spec_l1Within.l0 k x0 x3 x4 (wrap64 (x5 + 1)))) else (none)) else (none))
end
def spec_l1Within.f (k : Nat) (a0 : ByteArray) : Option (Bool) := spec_l1Within.l0 k a0 0 0 0
set_option maxHeartbeats 8000000 in
set_option maxRecDepth 100000 in
theorem spec_l1Within.calls (k : Nat) (a0 : ByteArray) (r : Bool) (w : World) (h : spec_l1Within.f k a0 = some r) :
  Calls Tryz.prog 19 #[.string a0] w fun e w' => e = .returned (.bool r) ∧ Below w.heap.size w w' := by
 have HB := zam (Below.refl w.heap.size w)
 have H : (spec_l1Within.l0 k a0 0 0 0) = some r := h
 clear h
 have H' := zam H
 clear H
 go_enter Tryz.func19, Tryz.ntmps19
 go_wp2
 (try simp only [Act.put, List.setIfInBounds_toArray, List.set_cons_zero, List.set_cons_succ])
 go_loopg [3, 4, 5] k (fun kq v3 v4 v5 w' => ∃ (bk : Int) (bd : Int) (bb : Int), v3 = .int .i64 bk ∧ v4 = .int .i64 bd ∧ v5 = .int .i64 bb ∧ Aside0 (spec_l1Within.l0 kq a0 bk bd bb = some r) ∧ Aside0 (kq ≤ k) ∧ Aside0 (Below w.heap.size w w'))
 case atStart => exact ⟨(0), (0), (0), zrs, zrs, zrs, H', ⟨Nat.le_refl _⟩, ⟨zbl HB.out⟩⟩
 case round =>
  clear H'
  obtain ⟨bk, bd, bb, rfl, rfl, rfl, HA, HK1, HB⟩ := hrel
  cases gk with
  | zero => exact absurd HA.out (by simp [spec_l1Within.l0])
  | succ k1 =>
   have H := HA.out
   clear HA
   simp only [spec_l1Within.l0] at H
   by_cases c2 : bb < (a0.size : Int)
   ·rw [if_pos c2] at H
    have cm := decide_eq_true c2
    clear c2
    have cn := zam H
    clear H
    go_upto_region 5 with (fail)
    go_cut [24] (fun v24 wc => ∃ (kq : Nat) (bg : Bool), v24 = .bool bg ∧ Aside0 (spec_l1Within.j1 kq a0 bk bd bb bg = some r) ∧ Aside0 (kq ≤ k1) ∧ Aside0 (Below w.heap.size w wc))
    case first =>
     have H := cn.out
     clear cn
     by_cases c4 : 0 ≤ bb
     ·rw [if_pos c4] at H
      have bJ := decide_eq_true c4
      clear c4
      (first | rw [bJ] | (simp only [i64_w, i32_w, IntKind.wrap_u8, IntKind.wrap_u32]; rw [bJ]) | skip)
      by_cases c6 : (bt a0 bb) = 91
      ·rw [if_pos c6] at H
       have cp := beq_iff_eq.mpr c6
       have cq := bne_eq_false_iff_eq.mpr c6
       clear c6
       have H' := zam H
       clear H
       have p5 := zet (0 ≤ (bb : Int))
       have q5 := zet (bb < (a0.size : Int))
       have cM := bt_at a0 bb
       go_wp2
       go_meet
       case rel => exact ⟨_, (true), zrs, H', ⟨zlo HK1.out⟩, ⟨zbl HB.out⟩⟩
      ·rw [if_neg c6] at H
       have cp := beq_eq_false_iff_ne.mpr c6
       have cq := bne_iff_ne.mpr c6
       have H' := zam H
       clear H
       have p5 := zet (0 ≤ (bb : Int))
       have q5 := zet (bb < (a0.size : Int))
       have cM := bt_at a0 bb
       have p7 := zet (0 ≤ (bb : Int))
       have q7 := zet (bb < (a0.size : Int))
       have cY := bt_at a0 bb
       go_wp2
       go_meet
       case rel => exact ⟨_, (((bt a0 bb) == 123)), zrs, H', ⟨zlo HK1.out⟩, ⟨zbl HB.out⟩⟩
     ·rw [if_neg c4] at H
      exact absurd H (by simp)
    case rest =>
     clear cn
     obtain ⟨kq, bg, rfl, HA, bh, HB⟩ := hcut
     cases kq with
     | zero => exact absurd HA.out (by simp [spec_l1Within.j1])
     | succ kj2 =>
      have H := HA.out
      clear HA
      simp only [spec_l1Within.j1] at H
      have cr := zam H
      clear H
      go_upto_if 24 with (fail)
      go_cut [3] (fun v3 wc => ∃ (kq : Nat) (bm : Int), v3 = .int .i64 bm ∧ Aside0 (spec_l1Within.j2 kq a0 bm bd bb = some r) ∧ Aside0 (kq ≤ kj2) ∧ Aside0 (Below w.heap.size w wc))
      case first =>
       have H := cr.out
       clear cr
       by_cases c9 : bg = true
       ·subst c9
        rw [if_pos rfl] at H
        have H' := zam H
        clear H
        go_wp2
        go_meet
        case rel => exact ⟨_, (wrap64 (bk + 1)), zrs, H', ⟨zlo2 HK1.out bh.out⟩, ⟨zbl HB.out⟩⟩
       ·replace c9 := Bool.eq_false_iff.mpr c9
        subst c9
        rw [if_neg (show ¬ (false = true) by decide)] at H
        have H' := zam H
        clear H
        go_wp2
        go_meet
        case rel => exact ⟨_, (bk), zrs, H', ⟨zlo2 HK1.out bh.out⟩, ⟨zbl HB.out⟩⟩
      case rest =>
       clear cr
       obtain ⟨kq, bm, rfl, HA, bn, HB⟩ := hcut
       cases kq with
       | zero => exact absurd HA.out (by simp [spec_l1Within.j2])
       | succ kj7 =>
        have H := HA.out
        clear HA
        simp only [spec_l1Within.j2] at H
        have bs := zam H
        clear H
        go_upto_region 7 with (fail)
        go_cut [36] (fun v36 wc => ∃ (kq : Nat) (bj : Bool), v36 = .bool bj ∧ Aside0 (spec_l1Within.j3 kq a0 bm bd bb bj = some r) ∧ Aside0 (kq ≤ kj7) ∧ Aside0 (Below w.heap.size w wc))
        case first =>
         have H := bs.out
         clear bs
         by_cases cc : 0 ≤ bb
         ·rw [if_pos cc] at H
          have br := decide_eq_true cc
          clear cc
          (first | rw [br] | (simp only [i64_w, i32_w, IntKind.wrap_u8, IntKind.wrap_u32]; rw [br]) | skip)
          by_cases cd : bb < (a0.size : Int)
          ·rw [if_pos cd] at H
           have cC := decide_eq_true cd
           clear cd
           by_cases bv : (bt a0 bb) = 93
           ·rw [if_pos bv] at H
            have bK := beq_iff_eq.mpr bv
            have bL := bne_eq_false_iff_eq.mpr bv
            clear bv
            have H' := zam H
            clear H
            have cN := zet (0 ≤ (bb : Int))
            have cP := zet (bb < (a0.size : Int))
            have ct := bt_at a0 bb
            go_wp2
            go_meet
            case rel => exact ⟨_, (true), zrs, H', ⟨zlo3 HK1.out bh.out bn.out⟩, ⟨zbl HB.out⟩⟩
           ·rw [if_neg bv] at H
            have bK := beq_eq_false_iff_ne.mpr bv
            have bL := bne_iff_ne.mpr bv
            have H' := zam H
            clear H
            have cN := zet (0 ≤ (bb : Int))
            have cP := zet (bb < (a0.size : Int))
            have ct := bt_at a0 bb
            have cZ := zet (0 ≤ (bb : Int))
            have db := zet (bb < (a0.size : Int))
            have cQ := bt_at a0 bb
            go_wp2
            go_meet
            case rel => exact ⟨_, (((bt a0 bb) == 125)), zrs, H', ⟨zlo3 HK1.out bh.out bn.out⟩, ⟨zbl HB.out⟩⟩
          ·rw [if_neg cd] at H
           exact absurd H (by simp)
         ·rw [if_neg cc] at H
          exact absurd H (by simp)
        case rest =>
         clear bs
         obtain ⟨kq, bj, rfl, HA, bp, HB⟩ := hcut
         cases kq with
         | zero => exact absurd HA.out (by simp [spec_l1Within.j3])
         | succ kj9 =>
          have H := HA.out
          clear HA
          simp only [spec_l1Within.j3] at H
          have bw := zam H
          clear H
          go_upto_if 36 with (fail)
          go_cut [3] (fun v3 wc => ∃ (kq : Nat) (bc : Int), v3 = .int .i64 bc ∧ Aside0 (spec_l1Within.j4 kq a0 bc bd bb = some r) ∧ Aside0 (kq ≤ kj9) ∧ Aside0 (Below w.heap.size w wc))
          case first =>
           have H := bw.out
           clear bw
           by_cases cf : bj = true
           ·subst cf
            rw [if_pos rfl] at H
            have H' := zam H
            clear H
            go_wp2
            go_meet
            case rel => exact ⟨_, (wrap64 (bm - 1)), zrs, H', ⟨by have := HK1.out; have := bh.out; have := bn.out; have := bp.out; first | omega | exact Nat.le_refl _⟩, ⟨zbl HB.out⟩⟩
           ·replace cf := Bool.eq_false_iff.mpr cf
            subst cf
            rw [if_neg (show ¬ (false = true) by decide)] at H
            have H' := zam H
            clear H
            go_wp2
            go_meet
            case rel => exact ⟨_, (bm), zrs, H', ⟨by have := HK1.out; have := bh.out; have := bn.out; have := bp.out; first | omega | exact Nat.le_refl _⟩, ⟨zbl HB.out⟩⟩
          case rest =>
           clear bw
           obtain ⟨kq, bc, rfl, HA, bf, HB⟩ := hcut
           cases kq with
           | zero => exact absurd HA.out (by simp [spec_l1Within.j4])
           | succ kj15 =>
            have H := HA.out
            clear HA
            simp only [spec_l1Within.j4] at H
            by_cases bC : bc > bd
            ·rw [if_pos bC] at H
             have bM := zgt bC
             clear bC
             by_cases cg : 0 ≤ bb
             ·rw [if_pos cg] at H
              have cD := decide_eq_true cg
              clear cg
              by_cases ch : bb < (a0.size : Int)
              ·rw [if_pos ch] at H
               have cF := decide_eq_true ch
               clear ch
               by_cases bx : (bt a0 bb) = 34
               ·rw [if_pos bx] at H
                have bN := beq_iff_eq.mpr bx
                have bP := bne_eq_false_iff_eq.mpr bx
                clear bx
                replace H := Option.bind_eq_some_iff.mp H
                obtain ⟨⟨cv, bQ, cw⟩, bR, H⟩ := H
                try dsimp only at H
                have cR := zam bR
                clear bR
                have H' := zam H
                clear H
                have cS := zet (0 ≤ (bb : Int))
                have cT := zet (bb < (a0.size : Int))
                have cx := bt_at a0 bb
                go_wp2_with (first | ((with_reducible refine gate_callee (f := 40) rfl ?_); refine goesL_ (some 50) rfl rfl Tryz.func40 (by kernel_rfl) rfl #[.string a0, .int .i64 bb] rfl zar ?_; (with_reducible refine (spec_l1String.calls a0 bb cv bQ cw _ cR.out).mono ?_); rintro e dc ⟨rfl, hb⟩; refine ⟨_, rfl, ?_⟩; replace HB := zam (below_step (zbl HB.out) hb); (try clear hb); (try clear hb2); (try clear hk); (try clear hi)))
                go_roundg kj15
                case measure => have := HK1.out; have := bh.out; have := bn.out; have := bp.out; have := bf.out; omega
                case rel => exact ⟨(bc), (bc), (bQ), zrs, zrs, zrs, H', ⟨by have := HK1.out; have := bh.out; have := bn.out; have := bp.out; have := bf.out; omega⟩, ⟨zbl HB.out⟩⟩
               ·rw [if_neg bx] at H
                have bN := beq_eq_false_iff_ne.mpr bx
                have bP := bne_iff_ne.mpr bx
                have H' := zam H
                clear H
                have cS := zet (0 ≤ (bb : Int))
                have cT := zet (bb < (a0.size : Int))
                have cx := bt_at a0 bb
                go_wp2
                go_roundg kj15
                case measure => have := HK1.out; have := bh.out; have := bn.out; have := bp.out; have := bf.out; omega
                case rel => exact ⟨(bc), (bc), (wrap64 (bb + 1)), zrs, zrs, zrs, H', ⟨by have := HK1.out; have := bh.out; have := bn.out; have := bp.out; have := bf.out; omega⟩, ⟨zbl HB.out⟩⟩
              ·rw [if_neg ch] at H
               exact absurd H (by simp)
             ·rw [if_neg cg] at H
              exact absurd H (by simp)
            ·rw [if_neg bC] at H
             have bM := zgt' bC
             clear bC
             by_cases cj : 0 ≤ bb
             ·rw [if_pos cj] at H
              have cG := decide_eq_true cj
              clear cj
              by_cases ck : bb < (a0.size : Int)
              ·rw [if_pos ck] at H
               have cH := decide_eq_true ck
               clear ck
               by_cases bz : (bt a0 bb) = 34
               ·rw [if_pos bz] at H
                have bS := beq_iff_eq.mpr bz
                have bT := bne_eq_false_iff_eq.mpr bz
                clear bz
                replace H := Option.bind_eq_some_iff.mp H
                obtain ⟨⟨cy, bV, cz⟩, bW, H⟩ := H
                try dsimp only at H
                have cV := zam bW
                clear bW
                have H' := zam H
                clear H
                have cW := zet (0 ≤ (bb : Int))
                have cX := zet (bb < (a0.size : Int))
                have cB := bt_at a0 bb
                go_wp2_with (first | ((with_reducible refine gate_callee (f := 40) rfl ?_); refine goesL_ (some 50) rfl rfl Tryz.func40 (by kernel_rfl) rfl #[.string a0, .int .i64 bb] rfl zar ?_; (with_reducible refine (spec_l1String.calls a0 bb cy bV cz _ cV.out).mono ?_); rintro e dd ⟨rfl, hb⟩; refine ⟨_, rfl, ?_⟩; replace HB := zam (below_step (zbl HB.out) hb); (try clear hb); (try clear hb2); (try clear hk); (try clear hi)))
                go_roundg kj15
                case measure => have := HK1.out; have := bh.out; have := bn.out; have := bp.out; have := bf.out; omega
                case rel => exact ⟨(bc), (bd), (bV), zrs, zrs, zrs, H', ⟨by have := HK1.out; have := bh.out; have := bn.out; have := bp.out; have := bf.out; omega⟩, ⟨zbl HB.out⟩⟩
               ·rw [if_neg bz] at H
                have bS := beq_eq_false_iff_ne.mpr bz
                have bT := bne_iff_ne.mpr bz
                have H' := zam H
                clear H
                have cW := zet (0 ≤ (bb : Int))
                have cX := zet (bb < (a0.size : Int))
                have cB := bt_at a0 bb
                go_wp2
                go_roundg kj15
                case measure => have := HK1.out; have := bh.out; have := bn.out; have := bp.out; have := bf.out; omega
                case rel => exact ⟨(bc), (bd), (wrap64 (bb + 1)), zrs, zrs, zrs, H', ⟨by have := HK1.out; have := bh.out; have := bn.out; have := bp.out; have := bf.out; omega⟩, ⟨zbl HB.out⟩⟩
              ·rw [if_neg ck] at H
               exact absurd H (by simp)
             ·rw [if_neg cj] at H
              exact absurd H (by simp)
   ·rw [if_neg c2] at H
    have cm := decide_eq_false c2
    clear c2
    by_cases bD : bd > 100
    ·rw [if_pos bD] at H
     have bX := zgt bD
     clear bD
     obtain rfl := Option.some.inj H
     go_wp2
     go_ret
     exact ⟨zer, zbl HB.out⟩
    ·rw [if_neg bD] at H
     have bX := zgt' bD
     clear bD
     replace H := Option.bind_eq_some_iff.mp H
     obtain ⟨⟨bB, bY⟩, bZ, H⟩ := H
     try dsimp only at H
     have cJ := zam bZ
     clear bZ
     by_cases bF : bB ≤ 100
     ·rw [if_pos bF] at H
      have cb := decide_eq_true bF
      clear bF
      obtain rfl := Option.some.inj H
      go_wp2_with (first | ((with_reducible refine gate_callee (f := 43) rfl ?_); refine goesL_ (some 61) rfl rfl Tryz.func43 (by kernel_rfl) rfl #[.string a0] rfl zar ?_; (with_reducible refine (spec_l1Sizes.calls a0 bB bY _ cJ.out).mono ?_); rintro e df ⟨rfl, hb⟩; refine ⟨_, rfl, ?_⟩; replace HB := zam (below_step (zbl HB.out) hb); (try clear hb); (try clear hb2); (try clear hk); (try clear hi)))
      go_ret
      exact ⟨zer, zbl HB.out⟩
     ·rw [if_neg bF] at H
      have cb := decide_eq_false bF
      clear bF
      obtain rfl := Option.some.inj H
      go_wp2_with (first | ((with_reducible refine gate_callee (f := 43) rfl ?_); refine goesL_ (some 61) rfl rfl Tryz.func43 (by kernel_rfl) rfl #[.string a0] rfl zar ?_; (with_reducible refine (spec_l1Sizes.calls a0 bB bY _ cJ.out).mono ?_); rintro e dg ⟨rfl, hb⟩; refine ⟨_, rfl, ?_⟩; replace HB := zam (below_step (zbl HB.out) hb); (try clear hb); (try clear hb2); (try clear hk); (try clear hi)))
      go_ret
      exact ⟨zer, zbl HB.out⟩
end
end Go.Proofs.YtbonodglnilkfaaGreatDoor.PJt
