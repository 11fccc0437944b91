-- Written by a turned copy of the kit print (wip/patch_print.py of this repo), this session
import Derived.Test.YtbonodglnilkfaaDoorPJsx1
import Derived.Test.YtbonodglnilkfaaDoorPJsx2
import Derived.Test.YtbonodglnilkfaaDoorPJsx3
namespace Go.Proofs.YtbonodglnilkfaaDoor.PJs
open Go.RowKit Go.Proofs.YtbonodglnilkfaaDoorW.PrintWords Go.Proofs.YtbonodglnilkfaaDoorW.PrintLast Go.Proofs.YtbonodglnilkfaaDoorW.PrintMore
attribute [local go_sem] max2_int min2_int max_two min_two max_three min_three max_four min_four   -- for this text's walks alone
set_option linter.unusedVariables false
set_option linter.unusedSimpArgs false
mutual
def spec_l1Piece.j0 : Nat → ByteArray → Int → Bool → Option (ByteArray × Int)
 | 0, _, _, _ => none
 | k + 1, x0, x1, dr => if dr = true then (if 0 ≤ (wrap64 (x1 + 1)) then (if (wrap64 (x1 + 1)) < (x0.size : Int) then ((spec_l1Simple.f k (bt x0 (wrap64 (x1 + 1)))).bind fun bh => (some (strOfNums (([(bh) % 256] : List Int)), 2))) else (none)) else (none)) else ((spec_l1Unit.f k x0 x1).bind fun bb => (if bb < 0 then (spec_l1Piece.j1 k x0 x1 bb true) else (if bb ≥ 56320 then (spec_l1Piece.j1 k x0 x1 bb (decide (bb < 57344))) else (spec_l1Piece.j1 k x0 x1 bb false))))
def spec_l1Piece.j1 : Nat → ByteArray → Int → Int → Bool → Option (ByteArray × Int)
 | 0, _, _, _, _ => none
 | k + 1, x0, x1, x7, ds => if ds = true then (some ((⟨#[]⟩ : ByteArray), 0)) else (if x7 < 55296 then (spec_l1Piece.j2 k x0 x1 x7 true) else (spec_l1Piece.j2 k x0 x1 x7 (decide (x7 ≥ 57344))))
def spec_l1Piece.j2 : Nat → ByteArray → Int → Int → Bool → Option (ByteArray × Int)
 | 0, _, _, _, _ => none
 | k + 1, x0, x1, x7, dt => if dt = true then ((spec_l1Utf8.f x7).bind fun bJ => (some (bJ, 6))) else ((spec_l1Unit.f k x0 (wrap64 (x1 + 6))).bind fun bf => (if bf < 56320 then (some ((⟨#[]⟩ : ByteArray), 0)) else (if bf ≥ 57344 then (some ((⟨#[]⟩ : ByteArray), 0)) else ((spec_l1Utf8.f (wrap64 ((wrap64 ((wrap64 (65536 + (wrap64 ((wrap64 (x7 - 55296)) * 1024)))) + bf)) - 56320))).bind fun bK => (some (bK, 12))))))
end
def spec_l1Piece.f (k : Nat) (a0 : ByteArray) (a1 : Int) : Option (ByteArray × Int) := if 0 ≤ a1 then (if a1 < (a0.size : Int) then (if (bt a0 a1) ≥ 128 then ((spec_l1RuneLen.f k a0 a1).bind fun bc => (if a1 ≤ (wrap64 (a1 + bc)) then (if (wrap64 (a1 + bc)) ≤ (a0.size : Int) then (some (a0.extract (a1 : Int).toNat ((wrap64 (a1 + bc)) : Int).toNat, bc)) else (none)) else (none))) else (if (bt a0 a1) = 92 then (if (wrap64 (a1 + 1)) < (a0.size : Int) then (if 0 ≤ (wrap64 (a1 + 1)) then ((spec_l1Simple.f k (bt a0 (wrap64 (a1 + 1)))).bind fun bp => (spec_l1Piece.j0 k a0 a1 (decide (bp ≥ 0)))) else (none)) else (spec_l1Piece.j0 k a0 a1 false)) else (if (bt a0 a1) < 32 then (some ((⟨#[]⟩ : ByteArray), 0)) else (if (bt a0 a1) = 34 then (some ((⟨#[]⟩ : ByteArray), 0)) else (if a1 ≤ (wrap64 (a1 + 1)) then (if (wrap64 (a1 + 1)) ≤ (a0.size : Int) then (some (a0.extract (a1 : Int).toNat ((wrap64 (a1 + 1)) : Int).toNat, 1)) else (none)) else (none)))))) else (none)) else (none)
set_option maxHeartbeats 8000000 in
set_option maxRecDepth 100000 in
theorem spec_l1Piece.calls (k : Nat) (a0 : ByteArray) (a1 : Int) (r1 : ByteArray) (r2 : Int) (w : World) (h : spec_l1Piece.f k a0 a1 = some (r1, r2)) :
  Calls Tryd.prog 34 #[.string a0, .int .i64 a1] w fun e w' => e = .returned (.tuple #[.string r1, .int .i64 r2]) ∧ Below w.heap.size w w' := by
 have HB := zam (Below.refl w.heap.size w)
 have H : (if 0 ≤ a1 then (if a1 < (a0.size : Int) then (if (bt a0 a1) ≥ 128 then ((spec_l1RuneLen.f k a0 a1).bind fun bc => (if a1 ≤ (wrap64 (a1 + bc)) then (if (wrap64 (a1 + bc)) ≤ (a0.size : Int) then (some (a0.extract (a1 : Int).toNat ((wrap64 (a1 + bc)) : Int).toNat, bc)) else (none)) else (none))) else (if (bt a0 a1) = 92 then (if (wrap64 (a1 + 1)) < (a0.size : Int) then (if 0 ≤ (wrap64 (a1 + 1)) then ((spec_l1Simple.f k (bt a0 (wrap64 (a1 + 1)))).bind fun bp => (spec_l1Piece.j0 k a0 a1 (decide (bp ≥ 0)))) else (none)) else (spec_l1Piece.j0 k a0 a1 false)) else (if (bt a0 a1) < 32 then (some ((⟨#[]⟩ : ByteArray), 0)) else (if (bt a0 a1) = 34 then (some ((⟨#[]⟩ : ByteArray), 0)) else (if a1 ≤ (wrap64 (a1 + 1)) then (if (wrap64 (a1 + 1)) ≤ (a0.size : Int) then (some (a0.extract (a1 : Int).toNat ((wrap64 (a1 + 1)) : Int).toNat, 1)) else (none)) else (none)))))) else (none)) else (none)) = some (r1, r2) := h
 clear h
 by_cases c3 : 0 ≤ a1
 ·rw [if_pos c3] at H
  have cb := decide_eq_true c3
  clear c3
  by_cases c4 : a1 < (a0.size : Int)
  ·rw [if_pos c4] at H
   have cM := decide_eq_true c4
   clear c4
   by_cases c6 : (bt a0 a1) ≥ 128
   ·rw [if_pos c6] at H
    have cN := zge c6
    clear c6
    replace H := Option.bind_eq_some_iff.mp H
    obtain ⟨bc, cY, H⟩ := H
    have A7 := zam cY
    clear cY
    have dv := eq_true (of_decide_eq_true zas : 0 ≤ a1)
    by_cases c9 : a1 ≤ (wrap64 (a1 + bc))
    ·rw [if_pos c9] at H
     have dw := eq_true c9
     have dx := decide_eq_true c9
     by_cases cz : (wrap64 (a1 + bc)) ≤ (a0.size : Int)
     ·rw [if_pos cz] at H
      have cZ := eq_true cz
      have db := decide_eq_true cz
      simp only [Option.some.injEq, Prod.mk.injEq] at H
      obtain ⟨rfl, rfl⟩ := H
      have p5 := zet (0 ≤ (a1 : Int))
      have q5 := zet (a1 < (a0.size : Int))
      have cB := bt_at a0 a1
      go_enter Tryd.func34, Tryd.ntmps34
      go_wp2_with (first | ((with_reducible refine gate_callee (f := 45) rfl ?_); refine goesL_ (some 15) rfl rfl Tryd.func45 (by kernel_rfl) rfl #[.string a0, .int .i64 a1] rfl zar ?_; (with_reducible refine (spec_l1RuneLen.calls k a0 a1 bc _ A7.out).mono ?_); rintro e dM ⟨rfl, hb⟩; refine ⟨_, rfl, ?_⟩; replace HB := zam (below_step (zbl HB.out) hb); (try clear hb); (try clear hb2); (try clear hk); (try clear hi)))
      go_ret2
      exact ⟨zer, zbl HB.out⟩
     ·rw [if_neg cz] at H
      exact absurd H (by simp)
    ·rw [if_neg c9] at H
     exact absurd H (by simp)
   ·rw [if_neg c6] at H
    have cN := zge' c6
    clear c6
    by_cases bL : (bt a0 a1) = 92
    ·rw [if_pos bL] at H
     have cc := beq_iff_eq.mpr bL
     have cd := bne_eq_false_iff_eq.mpr bL
     clear bL
     have bM := zam H
     clear H
     have p5 := zet (0 ≤ (a1 : Int))
     have q5 := zet (a1 < (a0.size : Int))
     have cB := bt_at a0 a1
     have cP := zet (0 ≤ (a1 : Int))
     have cQ := zet (a1 < (a0.size : Int))
     have bN := bt_at a0 a1
     go_enter Tryd.func34, Tryd.ntmps34
     go_upto_region 8 with (fail)
     go_cut [54] (fun v54 wc => ∃ (kq : Nat) (bk : Bool), v54 = .bool bk ∧ Aside0 (spec_l1Piece.j0 kq a0 a1 bk = some (r1, r2)) ∧ Aside0 (kq ≤ k) ∧ Aside0 (Below w.heap.size w wc))
     case first =>
      have H := bM.out
      clear bM
      by_cases bS : (wrap64 (a1 + 1)) < (a0.size : Int)
      ·rw [if_pos bS] at H
       have bj := decide_eq_true bS
       clear bS
       (first | rw [bj] | (simp only [i64_w, i32_w, IntKind.wrap_u8, IntKind.wrap_u32]; rw [bj]) | skip)
       obtain ⟨bq, bz⟩ : ∃ j_ : Int, (wrap64 (a1 + 1)) = j_ := ⟨_, rfl⟩
       replace H : (if 0 ≤ (bq) then ((spec_l1Simple.f k (bt a0 (bq))).bind fun bp => (spec_l1Piece.j0 k a0 a1 (decide (bp ≥ 0)))) else (none)) = some (r1, r2) := by first | (rw [bz] at H; exact H) | (simp only [bz] at H ⊢; exact H)
       (try rw [bz] at bj)
       have cR : (IntKind.i64.wrap (a1 + 1)) = bq := (i64_w _).trans bz
       by_cases cC : 0 ≤ (bq)
       ·rw [if_pos cC] at H
        have dc := decide_eq_true cC
        clear cC
        replace H := Option.bind_eq_some_iff.mp H
        obtain ⟨bp, cf, H⟩ := H
        have dy := zam cf
        clear cf
        have H' := zam H
        clear H
        have dN := zet (0 ≤ ((bq) : Int))
        have dP := zet ((bq) < (a0.size : Int))
        have dz := bt_at a0 (bq)
        go_wp2_with (first | (go_at_call 46; (with_reducible refine (spec_l1Simple.calls k (bt a0 (bq)) bp _ dy.out).mono ?_); rintro e dQ ⟨rfl, hb⟩; replace HB := zam (below_step (zbl HB.out) hb); (try clear hb); (try clear hb2); (try clear hk); (try clear hi)))
        go_meet
        case rel => exact ⟨_, (decide (bp ≥ 0)), zrs, H', ⟨zlo0⟩, ⟨zbl HB.out⟩⟩
       ·rw [if_neg cC] at H
        exact absurd H (by simp)
      ·rw [if_neg bS] at H
       have bj := decide_eq_false bS
       clear bS
       (first | rw [bj] | (simp only [i64_w, i32_w, IntKind.wrap_u8, IntKind.wrap_u32]; rw [bj]) | skip)
       have H' := zam H
       clear H
       go_wp2
       go_meet
       case rel => exact ⟨_, (false), zrs, H', ⟨zlo0⟩, ⟨zbl HB.out⟩⟩
     case rest =>
      clear bM
      obtain ⟨kq, bk, rfl, HA, bC, HB⟩ := hcut
      cases kq with
      | zero => exact absurd HA.out (by simp [spec_l1Piece.j0])
      | succ kj13 =>
       have H := HA.out
       clear HA
       simp only [spec_l1Piece.j0] at H
       by_cases cD : bk = true
       ·subst cD
        rw [if_pos rfl] at H
        obtain ⟨bg, br⟩ : ∃ j_ : Int, (wrap64 (a1 + 1)) = j_ := ⟨_, rfl⟩
        replace H : (if 0 ≤ (bg) then (if (bg) < (a0.size : Int) then ((spec_l1Simple.f kj13 (bt a0 (bg))).bind fun bh => (some (strOfNums (([(bh) % 256] : List Int)), 2))) else (none)) else (none)) = some (r1, r2) := by first | (rw [br] at H; exact H) | (simp only [br] at H ⊢; exact H)
        have cS : (IntKind.i64.wrap (a1 + 1)) = bg := (i64_w _).trans br
        by_cases cF : 0 ≤ (bg)
        ·rw [if_pos cF] at H
         have dd := decide_eq_true cF
         clear cF
         by_cases cG : (bg) < (a0.size : Int)
         ·rw [if_pos cG] at H
          have df := decide_eq_true cG
          clear cG
          replace H := Option.bind_eq_some_iff.mp H
          obtain ⟨bh, cg, H⟩ := H
          have dB := zam cg
          clear cg
          obtain ⟨dC, bB⟩ : ∃ y_ : List Int, y_ = (([(bh) % 256] : List Int)) := ⟨_, rfl⟩
          first | rw [Option.bind_some, ← bB] at H | rw [← bB] at H
          have bH := zam bB
          clear bB
          simp only [Option.some.injEq, Prod.mk.injEq] at H
          obtain ⟨rfl, rfl⟩ := H
          have dR := zet (0 ≤ ((bg) : Int))
          have dS := zet ((bg) < (a0.size : Int))
          have dD := bt_at a0 (bg)
          go_wp2_with (first | ((with_reducible refine gate_callee (f := 46) rfl ?_); refine goesL_ (some 59) rfl rfl Tryd.func46 (by kernel_rfl) rfl #[.int .u8 (bt a0 (bg))] rfl (by (try simp only [List.map_toArray, List.map_cons, List.map_nil]); first | done | (simp only [br]; rfl) | rfl | (simp only [List.length_drop, List.length_take]; rfl)) ?_; (with_reducible refine (spec_l1Simple.calls kj13 (bt a0 (bg)) bh _ dB.out).mono ?_); rintro e dT ⟨rfl, hb⟩; refine ⟨_, rfl, ?_⟩; replace HB := zam (below_step (zbl HB.out) hb); (try clear hb); (try clear hb2); (try clear hk); (try clear hi)) | ((with_reducible refine gate_dst (N := 61) rfl ?_); refine Kd.R_lit (Kd.int .u8) _ 5 ?hg (N := 61) ?hd (xs := ([(bh) % 256] : List Int)) (inner := [.int .u8 ((bh) % 256)]) (ok := fun _ => True) (okp := fun _ => True) ?hr ?hp (fun _ hk => hk) trivial (Below.refl _ _) (Nat.le_refl _) (by simp) ?_; (case hd => rfl); (case hg => rfl); (case hr => first | (go_simp; done) | (go_simp; rfl)); (case hp => exact (Reps.one (show Kd.M (Kd.int .u8) _ _ _ ((bh) % 256) [.int .u8 ((bh) % 256)] from rfl) (Reps.none _ _))); intro v129 dV bD hb hg_ hnew_; clear hg_ hnew_; (first | rw [← bH.out] at bD | (simp only [Int.reduceToNat] at bD; rw [← bH.out] at bD)); have ch := zam (Kd.R_lower bD (below_size (zbl HB.out))); replace HB := zam (below_step (zbl HB.out) hb); clear hb bD; have hcv30 := own_string (P := Tryd.prog) Tryd.underlying70 Tryd.underlying5 Tryd.underlying9 (Kd.own_of_R ch.out)))
          go_ret2
          exact ⟨by first | rfl | (simp [errW_none, errW_some] <;> rfl) | (simp only [← br]; first | rfl | (simp [errW_none, errW_some] <;> rfl)) | (simp [*, errW_none, errW_some] <;> rfl), zbl HB.out⟩
         ·rw [if_neg cG] at H
          exact absurd H (by simp)
        ·rw [if_neg cF] at H
         exact absurd H (by simp)
       ·replace cD := Bool.eq_false_iff.mpr cD
        subst cD
        rw [if_neg (show ¬ (false = true) by decide)] at H
        replace H := Option.bind_eq_some_iff.mp H
        obtain ⟨bb, cj, H⟩ := H
        have dF := zam cj
        clear cj
        have bP := zam H
        clear H
        go_upto_region 11 with (first | ((with_reducible refine gate_callee (f := 47) rfl ?_); refine goesL_ (some 65) rfl rfl Tryd.func47 (by kernel_rfl) rfl #[.string a0, .int .i64 a1] rfl zar ?_; (with_reducible refine (spec_l1Unit.calls kj13 a0 a1 bb _ dF.out).mono ?_); rintro e w' ⟨rfl, ⟨nd, rfl⟩⟩; refine ⟨_, rfl, ?_⟩))
        (try simp only [Act.put, List.setIfInBounds_toArray, List.set_cons_zero, List.set_cons_succ])
        go_cut [75] (fun v75 wc => ∃ (kq : Nat) (bm : Bool), v75 = .bool bm ∧ Aside0 (spec_l1Piece.j1 kq a0 a1 bb bm = some (r1, r2)) ∧ Aside0 (kq ≤ kj13) ∧ Aside0 (Below w.heap.size w wc))
        case first =>
         have H := bP.out
         clear bP
         by_cases bT : bb < 0
         ·rw [if_pos bT] at H
          have bs := decide_eq_true bT
          clear bT
          (first | rw [bs] | (simp only [i64_w, i32_w, IntKind.wrap_u8, IntKind.wrap_u32]; rw [bs]) | skip)
          have H' := zam H
          clear H
          go_wp2
          go_meet
          case rel => exact ⟨_, (true), zrs, H', ⟨zlo bC.out⟩, ⟨zbl HB.out⟩⟩
         ·rw [if_neg bT] at H
          have bs := decide_eq_false bT
          clear bT
          (first | rw [bs] | (simp only [i64_w, i32_w, IntKind.wrap_u8, IntKind.wrap_u32]; rw [bs]) | skip)
          by_cases bV : bb ≥ 56320
          ·rw [if_pos bV] at H
           have ck := zge bV
           clear bV
           have H' := zam H
           clear H
           go_wp2
           go_meet
           case rel => exact ⟨_, (decide (bb < 57344)), zrs, H', ⟨zlo bC.out⟩, ⟨zbl HB.out⟩⟩
          ·rw [if_neg bV] at H
           have ck := zge' bV
           clear bV
           have H' := zam H
           clear H
           go_wp2
           go_meet
           case rel => exact ⟨_, (false), zrs, H', ⟨zlo bC.out⟩, ⟨zbl HB.out⟩⟩
        case rest =>
         clear bP
         obtain ⟨kq, bm, rfl, HA, cm, HB⟩ := hcut
         cases kq with
         | zero => exact absurd HA.out (by simp [spec_l1Piece.j1])
         | succ kj31 =>
          have H := HA.out
          clear HA
          simp only [spec_l1Piece.j1] at H
          by_cases cH : bm = true
          ·subst cH
           rw [if_pos rfl] at H
           simp only [Option.some.injEq, Prod.mk.injEq] at H
           obtain ⟨rfl, rfl⟩ := H
           go_wp2
           go_ret2
           exact ⟨zer, zbl HB.out⟩
          ·replace cH := Bool.eq_false_iff.mpr cH
           subst cH
           rw [if_neg (show ¬ (false = true) by decide)] at H
           have bQ := zam H
           clear H
           go_upto_region 13 with (fail)
           go_cut [81] (fun v81 wc => ∃ (kq : Nat) (bn : Bool), v81 = .bool bn ∧ Aside0 (spec_l1Piece.j2 kq a0 a1 bb bn = some (r1, r2)) ∧ Aside0 (kq ≤ kj31) ∧ Aside0 (Below w.heap.size w wc))
           case first =>
            have H := bQ.out
            clear bQ
            by_cases bW : bb < 55296
            ·rw [if_pos bW] at H
             have bv := decide_eq_true bW
             clear bW
             (first | rw [bv] | (simp only [i64_w, i32_w, IntKind.wrap_u8, IntKind.wrap_u32]; rw [bv]) | skip)
             have H' := zam H
             clear H
             go_wp2
             go_meet
             case rel => exact ⟨_, (true), zrs, H', ⟨zlo2 bC.out cm.out⟩, ⟨zbl HB.out⟩⟩
            ·rw [if_neg bW] at H
             have bv := decide_eq_false bW
             clear bW
             (first | rw [bv] | (simp only [i64_w, i32_w, IntKind.wrap_u8, IntKind.wrap_u32]; rw [bv]) | skip)
             have H' := zam H
             clear H
             go_wp2
             go_meet
             case rel => exact ⟨_, (decide (bb ≥ 57344)), zrs, H', ⟨zlo2 bC.out cm.out⟩, ⟨zbl HB.out⟩⟩
           case rest =>
            clear bQ
            obtain ⟨kq, bn, rfl, HA, dG, HB⟩ := hcut
            cases kq with
            | zero => exact absurd HA.out (by simp [spec_l1Piece.j2])
            | succ kj35 =>
             have H := HA.out
             clear HA
             simp only [spec_l1Piece.j2] at H
             by_cases cJ : bn = true
             ·subst cJ
              rw [if_pos rfl] at H
              replace H := Option.bind_eq_some_iff.mp H
              obtain ⟨bJ, cn, H⟩ := H
              have dH := zam cn
              clear cn
              simp only [Option.some.injEq, Prod.mk.injEq] at H
              obtain ⟨rfl, rfl⟩ := H
              go_wp2_with (first | ((with_reducible refine gate_callee (f := 48) rfl ?_); refine goesL_ (some 83) rfl rfl Tryd.func48 (by kernel_rfl) rfl #[.int .i64 bb] rfl zar ?_; (with_reducible refine (spec_l1Utf8.calls bb bJ _ dH.out).mono ?_); rintro e dW ⟨rfl, hb⟩; refine ⟨_, rfl, ?_⟩; replace HB := zam (below_step (zbl HB.out) hb); (try clear hb); (try clear hb2); (try clear hk); (try clear hi)))
              go_ret2
              exact ⟨zer, zbl HB.out⟩
             ·replace cJ := Bool.eq_false_iff.mpr cJ
              subst cJ
              rw [if_neg (show ¬ (false = true) by decide)] at H
              replace H := Option.bind_eq_some_iff.mp H
              obtain ⟨bf, cp, H⟩ := H
              have cT := zam cp
              clear cp
              by_cases bX : bf < 56320
              ·rw [if_pos bX] at H
               have cq := decide_eq_true bX
               clear bX
               simp only [Option.some.injEq, Prod.mk.injEq] at H
               obtain ⟨rfl, rfl⟩ := H
               go_wp2_with (first | ((with_reducible refine gate_callee (f := 47) rfl ?_); refine goesL_ (some 87) rfl rfl Tryd.func47 (by kernel_rfl) rfl #[.string a0, .int .i64 (wrap64 (a1 + 6))] rfl zar ?_; (with_reducible refine (spec_l1Unit.calls kj35 a0 (wrap64 (a1 + 6)) bf _ cT.out).mono ?_); rintro e w' ⟨rfl, ⟨nd, rfl⟩⟩; refine ⟨_, rfl, ?_⟩))
               go_ret2
               exact ⟨zer, zbl HB.out⟩
              ·rw [if_neg bX] at H
               have cq := decide_eq_false bX
               clear bX
               by_cases bY : bf ≥ 57344
               ·rw [if_pos bY] at H
                have cr := zge bY
                clear bY
                simp only [Option.some.injEq, Prod.mk.injEq] at H
                obtain ⟨rfl, rfl⟩ := H
                go_wp2_with (first | ((with_reducible refine gate_callee (f := 47) rfl ?_); refine goesL_ (some 87) rfl rfl Tryd.func47 (by kernel_rfl) rfl #[.string a0, .int .i64 (wrap64 (a1 + 6))] rfl zar ?_; (with_reducible refine (spec_l1Unit.calls kj35 a0 (wrap64 (a1 + 6)) bf _ cT.out).mono ?_); rintro e w' ⟨rfl, ⟨nd, rfl⟩⟩; refine ⟨_, rfl, ?_⟩))
                go_ret2
                exact ⟨zer, zbl HB.out⟩
               ·rw [if_neg bY] at H
                have cr := zge' bY
                clear bY
                replace H := Option.bind_eq_some_iff.mp H
                obtain ⟨bK, ct, H⟩ := H
                have dJ := zam ct
                clear ct
                simp only [Option.some.injEq, Prod.mk.injEq] at H
                obtain ⟨rfl, rfl⟩ := H
                go_wp2_with (first | ((with_reducible refine gate_callee (f := 47) rfl ?_); refine goesL_ (some 87) rfl rfl Tryd.func47 (by kernel_rfl) rfl #[.string a0, .int .i64 (wrap64 (a1 + 6))] rfl zar ?_; (with_reducible refine (spec_l1Unit.calls kj35 a0 (wrap64 (a1 + 6)) bf _ cT.out).mono ?_); rintro e w' ⟨rfl, ⟨nd, rfl⟩⟩; refine ⟨_, rfl, ?_⟩) | ((with_reducible refine gate_callee (f := 48) rfl ?_); refine goesL_ (some 101) rfl rfl Tryd.func48 (by kernel_rfl) rfl #[.int .i64 (wrap64 ((wrap64 ((wrap64 (65536 + (wrap64 ((wrap64 (bb - 55296)) * 1024)))) + bf)) - 56320))] rfl zar ?_; (with_reducible refine (spec_l1Utf8.calls (wrap64 ((wrap64 ((wrap64 (65536 + (wrap64 ((wrap64 (bb - 55296)) * 1024)))) + bf)) - 56320)) bK _ dJ.out).mono ?_); rintro e dX ⟨rfl, hb⟩; refine ⟨_, rfl, ?_⟩; replace HB := zam (below_step (zbl HB.out) hb); (try clear hb); (try clear hb2); (try clear hk); (try clear hi)))
                go_ret2
                exact ⟨zer, zbl HB.out⟩
    ·rw [if_neg bL] at H
     have cc := beq_eq_false_iff_ne.mpr bL
     have cd := bne_iff_ne.mpr bL
     by_cases bZ : (bt a0 a1) < 32
     ·rw [if_pos bZ] at H
      have cv := decide_eq_true bZ
      clear bZ
      simp only [Option.some.injEq, Prod.mk.injEq] at H
      obtain ⟨rfl, rfl⟩ := H
      have p5 := zet (0 ≤ (a1 : Int))
      have q5 := zet (a1 < (a0.size : Int))
      have cB := bt_at a0 a1
      have cP := zet (0 ≤ (a1 : Int))
      have cQ := zet (a1 < (a0.size : Int))
      have bN := bt_at a0 a1
      have dg := zet (0 ≤ (a1 : Int))
      have dh := zet (a1 < (a0.size : Int))
      have cw := bt_at a0 a1
      go_enter Tryd.func34, Tryd.ntmps34
      go_wp2
      go_ret2
      exact ⟨zer, zbl HB.out⟩
     ·rw [if_neg bZ] at H
      have cv := decide_eq_false bZ
      clear bZ
      by_cases bR : (bt a0 a1) = 34
      ·rw [if_pos bR] at H
       have cx := beq_iff_eq.mpr bR
       have cy := bne_eq_false_iff_eq.mpr bR
       clear bR
       simp only [Option.some.injEq, Prod.mk.injEq] at H
       obtain ⟨rfl, rfl⟩ := H
       have p5 := zet (0 ≤ (a1 : Int))
       have q5 := zet (a1 < (a0.size : Int))
       have cB := bt_at a0 a1
       have cP := zet (0 ≤ (a1 : Int))
       have cQ := zet (a1 < (a0.size : Int))
       have bN := bt_at a0 a1
       have dg := zet (0 ≤ (a1 : Int))
       have dh := zet (a1 < (a0.size : Int))
       have cw := bt_at a0 a1
       have dK := zet (0 ≤ (a1 : Int))
       have dL := zet (a1 < (a0.size : Int))
       have cV := bt_at a0 a1
       go_enter Tryd.func34, Tryd.ntmps34
       go_wp2
       go_ret2
       exact ⟨zer, zbl HB.out⟩
      ·rw [if_neg bR] at H
       have cx := beq_eq_false_iff_ne.mpr bR
       have cy := bne_iff_ne.mpr bR
       have dj := eq_true (of_decide_eq_true zas : 0 ≤ a1)
       by_cases cK : a1 ≤ (wrap64 (a1 + 1))
       ·rw [if_pos cK] at H
        have dk := eq_true cK
        have dm := decide_eq_true cK
        by_cases cL : (wrap64 (a1 + 1)) ≤ (a0.size : Int)
        ·rw [if_pos cL] at H
         have dn := eq_true cL
         have dp := decide_eq_true cL
         simp only [Option.some.injEq, Prod.mk.injEq] at H
         obtain ⟨rfl, rfl⟩ := H
         have p5 := zet (0 ≤ (a1 : Int))
         have q5 := zet (a1 < (a0.size : Int))
         have cB := bt_at a0 a1
         have cP := zet (0 ≤ (a1 : Int))
         have cQ := zet (a1 < (a0.size : Int))
         have bN := bt_at a0 a1
         have dg := zet (0 ≤ (a1 : Int))
         have dh := zet (a1 < (a0.size : Int))
         have cw := bt_at a0 a1
         have dK := zet (0 ≤ (a1 : Int))
         have dL := zet (a1 < (a0.size : Int))
         have cV := bt_at a0 a1
         go_enter Tryd.func34, Tryd.ntmps34
         go_wp2
         go_ret2
         exact ⟨zer, zbl HB.out⟩
        ·rw [if_neg cL] at H
         exact absurd H (by simp)
       ·rw [if_neg cK] at H
        exact absurd H (by simp)
  ·rw [if_neg c4] at H
   exact absurd H (by simp)
 ·rw [if_neg c3] at H
  exact absurd H (by simp)
end Go.Proofs.YtbonodglnilkfaaDoor.PJs
