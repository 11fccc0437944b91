-- Printed
import Derived.Test.YtndagnkhjlgjgaaGreatDoorPJsx2
import Derived.Test.YtndagnkhjlgjgaaGreatDoorPJsx3
namespace Go.Proofs.YtndagnkhjlgjgaaGreatDoor.PJs
open Go.RowKit YtndagnkhjlgjgaaGreatDoorW.PrintWords YtndagnkhjlgjgaaGreatDoorW.PrintLast YtndagnkhjlgjgaaGreatDoorW.PrintMore
attribute [local go_sem] max2_int min2_int max_two min_two max_three min_three max_four min_four
set_option linter.unusedVariables false
set_option linter.unusedSimpArgs false
mutual
def spec_l1Piece.j0 : Nat → ByteArray → Int → Bool → Option (ByteArray × Int)
 | 0, _, _, _ => none
 | k + 1, x0, x1, dd => if dd = true then (if 0 ≤ (wrap64 (x1 + 1)) then (if (wrap64 (x1 + 1)) < (x0.size : Int) then ((spec_l1Simple.f k (bt x0 (wrap64 (x1 + 1)))).bind fun bg => (some (strOfNums (([(bg) % 256] : List Int)), 2))) else (none)) else (none)) else ((spec_l1Unit.f k x0 x1).bind fun bb => (if bb < 0 then (spec_l1Piece.j1 k x0 x1 bb true) else (if bb ≥ 56320 then (spec_l1Piece.j1 k x0 x1 bb (decide (bb < 57344))) else (spec_l1Piece.j1 k x0 x1 bb false))))
def spec_l1Piece.j1 : Nat → ByteArray → Int → Int → Bool → Option (ByteArray × Int)
 | 0, _, _, _, _ => none
 | k + 1, x0, x1, x7, df => if df = true then (some ((⟨#[]⟩ : ByteArray), 0)) else (if x7 < 55296 then (spec_l1Piece.j2 k x0 x1 x7 true) else (spec_l1Piece.j2 k x0 x1 x7 (decide (x7 ≥ 57344))))
def spec_l1Piece.j2 : Nat → ByteArray → Int → Int → Bool → Option (ByteArray × Int)
 | 0, _, _, _, _ => none
 | k + 1, x0, x1, x7, dg => if dg = true then ((spec_l1Utf8.f x7).bind fun bC => (some (bC, 6))) else ((spec_l1Unit.f k x0 (wrap64 (x1 + 6))).bind fun bd => (if bd < 56320 then (some ((⟨#[]⟩ : ByteArray), 0)) else (if bd ≥ 57344 then (some ((⟨#[]⟩ : ByteArray), 0)) else ((spec_l1Utf8.f (wrap64 ((wrap64 ((wrap64 (65536 + (wrap64 ((wrap64 (x7 - 55296)) * 1024)))) + bd)) - 56320))).bind fun bD => (some (bD, 12))))))
end
def spec_l1Piece.f (k : Nat) (a0 : ByteArray) (a1 : Int) : Option (ByteArray × Int) := if 0 ≤ a1 then (if a1 < (a0.size : Int) then (if (bt a0 a1) ≥ 128 then ((spec_l1RuneLen.f k a0 a1).bind fun bc => (if a1 ≤ (wrap64 (a1 + bc)) then (if (wrap64 (a1 + bc)) ≤ (a0.size : Int) then (some (a0.extract (a1 : Int).toNat ((wrap64 (a1 + bc)) : Int).toNat, bc)) else (none)) else (none))) else (if (bt a0 a1) = 92 then (if (wrap64 (a1 + 1)) < (a0.size : Int) then (if 0 ≤ (wrap64 (a1 + 1)) then ((spec_l1Simple.f k (bt a0 (wrap64 (a1 + 1)))).bind fun bn => (spec_l1Piece.j0 k a0 a1 (decide (bn ≥ 0)))) else (none)) else (spec_l1Piece.j0 k a0 a1 false)) else (if (bt a0 a1) < 32 then (some ((⟨#[]⟩ : ByteArray), 0)) else (if (bt a0 a1) = 34 then (some ((⟨#[]⟩ : ByteArray), 0)) else (if a1 ≤ (wrap64 (a1 + 1)) then (if (wrap64 (a1 + 1)) ≤ (a0.size : Int) then (some (a0.extract (a1 : Int).toNat ((wrap64 (a1 + 1)) : Int).toNat, 1)) else (none)) else (none)))))) else (none)) else (none)
set_option maxHeartbeats 8000000 in
set_option maxRecDepth 100000 in
theorem spec_l1Piece.calls (k : Nat) (a0 : ByteArray) (a1 : Int) (r1 : ByteArray) (r2 : Int) (w : World) (h : spec_l1Piece.f k a0 a1 = some (r1, r2)) :
  Calls Tryz.prog 122 #[.string a0, .int .i64 a1] w fun e w' => e = .returned (.tuple #[.string r1, .int .i64 r2]) ∧ Below w.heap.size w w' := by
 have HB := zam (Below.refl w.heap.size w)
 have H : (if 0 ≤ a1 then (if a1 < (a0.size : Int) then (if (bt a0 a1) ≥ 128 then ((spec_l1RuneLen.f k a0 a1).bind fun bc => (if a1 ≤ (wrap64 (a1 + bc)) then (if (wrap64 (a1 + bc)) ≤ (a0.size : Int) then (some (a0.extract (a1 : Int).toNat ((wrap64 (a1 + bc)) : Int).toNat, bc)) else (none)) else (none))) else (if (bt a0 a1) = 92 then (if (wrap64 (a1 + 1)) < (a0.size : Int) then (if 0 ≤ (wrap64 (a1 + 1)) then ((spec_l1Simple.f k (bt a0 (wrap64 (a1 + 1)))).bind fun bn => (spec_l1Piece.j0 k a0 a1 (decide (bn ≥ 0)))) else (none)) else (spec_l1Piece.j0 k a0 a1 false)) else (if (bt a0 a1) < 32 then (some ((⟨#[]⟩ : ByteArray), 0)) else (if (bt a0 a1) = 34 then (some ((⟨#[]⟩ : ByteArray), 0)) else (if a1 ≤ (wrap64 (a1 + 1)) then (if (wrap64 (a1 + 1)) ≤ (a0.size : Int) then (some (a0.extract (a1 : Int).toNat ((wrap64 (a1 + 1)) : Int).toNat, 1)) else (none)) else (none)))))) else (none)) else (none)) = some (r1, r2) := h
 clear h
 by_cases c3 : 0 ≤ a1
 ·rw [if_pos c3] at H
  have dh := decide_eq_true c3; clear c3
  by_cases c4 : a1 < (a0.size : Int)
  ·rw [if_pos c4] at H
   have dj := decide_eq_true c4; clear c4
   by_cases c6 : (bt a0 a1) ≥ 128
   ·rw [if_pos c6] at H
    have cF := zge c6; clear c6; replace H := Option.bind_eq_some_iff.mp H; obtain ⟨bc, cN, H⟩ := H; have A7 := zam cN; clear cN; have dk := eq_true (of_decide_eq_true zas : 0 ≤ a1)
    by_cases c9 : a1 ≤ (wrap64 (a1 + bc))
    ·rw [if_pos c9] at H
     have dm := eq_true c9; have dn := decide_eq_true c9
     by_cases cr : (wrap64 (a1 + bc)) ≤ (a0.size : Int)
     ·rw [if_pos cr] at H
      have cP := eq_true cr; have cQ := decide_eq_true cr
      simp only [Option.some.injEq, Prod.mk.injEq] at H
      obtain ⟨rfl, rfl⟩ := H; have p5 := zet (0 ≤ (a1 : Int)); have q5 := zet (a1 < (a0.size : Int)); have ct := bt_at a0 a1
      go_enter Tryz.func122, Tryz.ntmps122
      go_wp2_with (first | ((with_reducible refine gate_callee (f := 160) rfl ?_); refine goesL_ (some 15) rfl rfl Tryz.func160 (by kernel_rfl) rfl #[.string a0, .int .i64 a1] rfl zar ?_; (with_reducible refine (spec_l1RuneLen.calls k a0 a1 bc _ A7.out).mono ?_); rintro e dC ⟨rfl, hb⟩; refine ⟨_, rfl, ?_⟩; replace HB := zam (below_step (zbl HB.out) hb); (try clear hb); (try clear hb2); (try clear hk); (try clear hi)))
      go_ret2
      exact ⟨zer, zbl HB.out⟩
     ·rw [if_neg cr] at H
      exact absurd H (by simp)
    ·rw [if_neg c9] at H
     exact absurd H (by simp)
   ·rw [if_neg c6] at H
    have cF := zge' c6; clear c6
    by_cases bF : (bt a0 a1) = 92
    ·rw [if_pos bF] at H
     have bV := beq_iff_eq.mpr bF; have bW := bne_eq_false_iff_eq.mpr bF; clear bF; have bG := zam H; clear H; have p5 := zet (0 ≤ (a1 : Int)); have q5 := zet (a1 < (a0.size : Int)); have ct := bt_at a0 a1; have cG := zet (0 ≤ (a1 : Int)); have cH := zet (a1 < (a0.size : Int)); have bH := bt_at a0 a1
     go_enter Tryz.func122, Tryz.ntmps122
     go_upto_region 8 with (fail)
     go_cut [54] (fun v54 wc => ∃ (kq : Nat) (bj : Bool), v54 = .bool bj ∧ Aside0 (spec_l1Piece.j0 kq a0 a1 bj = some (r1, r2)) ∧ Aside0 (kq ≤ k) ∧ Aside0 (Below w.heap.size w wc))
     case first =>
      have H := bG.out; clear bG
      by_cases bM : (wrap64 (a1 + 1)) < (a0.size : Int)
      ·rw [if_pos bM] at H
       have bh := decide_eq_true bM; clear bM
       (first | rw [bh] | (simp only [i64_w, i32_w, IntKind.wrap_u8, IntKind.wrap_u32]; rw [bh]) | skip)
       obtain ⟨bp, bv⟩ : ∃ j_ : Int, (wrap64 (a1 + 1)) = j_ := ⟨_, rfl⟩
       replace H : (if 0 ≤ (bp) then ((spec_l1Simple.f k (bt a0 (bp))).bind fun bn => (spec_l1Piece.j0 k a0 a1 (decide (bn ≥ 0)))) else (none)) = some (r1, r2) := by first | (rw [bv] at H; exact H) | (simp only [bv] at H ⊢; exact H)
       (try rw [bv] at bh)
       have cJ : (IntKind.i64.wrap (a1 + 1)) = bp := (i64_w _).trans bv
       by_cases cv : 0 ≤ (bp)
       ·rw [if_pos cv] at H
        have cR := decide_eq_true cv; clear cv; replace H := Option.bind_eq_some_iff.mp H; obtain ⟨bn, bX, H⟩ := H; have dp := zam bX; clear bX; have H' := zam H; clear H; have dD := zet (0 ≤ ((bp) : Int)); have dF := zet ((bp) < (a0.size : Int)); have dq := bt_at a0 (bp)
        go_wp2_with (first | (go_at_call 161; (with_reducible refine (spec_l1Simple.calls k (bt a0 (bp)) bn _ dp.out).mono ?_); rintro e dG ⟨rfl, hb⟩; replace HB := zam (below_step (zbl HB.out) hb); (try clear hb); (try clear hb2); (try clear hk); (try clear hi)))
        go_meet
        case rel => exact ⟨_, (decide (bn ≥ 0)), zrs, H', ⟨zlo0⟩, ⟨zbl HB.out⟩⟩
       ·rw [if_neg cv] at H
        exact absurd H (by simp)
      ·rw [if_neg bM] at H
       have bh := decide_eq_false bM; clear bM
       (first | rw [bh] | (simp only [i64_w, i32_w, IntKind.wrap_u8, IntKind.wrap_u32]; rw [bh]) | skip)
       have H' := zam H; clear H
       go_wp2
       go_meet
       case rel => exact ⟨_, (false), zrs, H', ⟨zlo0⟩, ⟨zbl HB.out⟩⟩
     case rest =>
      clear bG; obtain ⟨kq, bj, rfl, HA, bx, HB⟩ := hcut
      cases kq with
      | zero => exact absurd HA.out (by simp [spec_l1Piece.j0])
      | succ kj13 =>
       have H := HA.out; clear HA
       simp only [spec_l1Piece.j0] at H
       by_cases cw : bj = true
       ·subst cw
        rw [if_pos rfl] at H
        obtain ⟨bf, bq⟩ : ∃ j_ : Int, (wrap64 (a1 + 1)) = j_ := ⟨_, rfl⟩
        replace H : (if 0 ≤ (bf) then (if (bf) < (a0.size : Int) then ((spec_l1Simple.f kj13 (bt a0 (bf))).bind fun bg => (some (strOfNums (([(bg) % 256] : List Int)), 2))) else (none)) else (none)) = some (r1, r2) := by first | (rw [bq] at H; exact H) | (simp only [bq] at H ⊢; exact H)
        have cK : (IntKind.i64.wrap (a1 + 1)) = bf := (i64_w _).trans bq
        by_cases cx : 0 ≤ (bf)
        ·rw [if_pos cx] at H
         have cS := decide_eq_true cx; clear cx
         by_cases cy : (bf) < (a0.size : Int)
         ·rw [if_pos cy] at H
          have cT := decide_eq_true cy; clear cy; replace H := Option.bind_eq_some_iff.mp H; obtain ⟨bg, bY, H⟩ := H; have dr := zam bY; clear bY
          obtain ⟨ds, bw⟩ : ∃ y_ : List Int, y_ = (([(bg) % 256] : List Int)) := ⟨_, rfl⟩
          first | rw [Option.bind_some, ← bw] at H | rw [← bw] at H
          have bB := zam bw; clear bw
          simp only [Option.some.injEq, Prod.mk.injEq] at H
          obtain ⟨rfl, rfl⟩ := H; have dH := zet (0 ≤ ((bf) : Int)); have dJ := zet ((bf) < (a0.size : Int)); have dt := bt_at a0 (bf)
          go_wp2_with (first | ((with_reducible refine gate_callee (f := 161) rfl ?_); refine goesL_ (some 59) rfl rfl Tryz.func161 (by kernel_rfl) rfl #[.int .u8 (bt a0 (bf))] rfl (by (try simp only [List.map_toArray, List.map_cons, List.map_nil]); first | done | (simp only [bq]; rfl) | rfl | (simp only [List.length_drop, List.length_take]; rfl)) ?_; (with_reducible refine (spec_l1Simple.calls kj13 (bt a0 (bf)) bg _ dr.out).mono ?_); rintro e dK ⟨rfl, hb⟩; refine ⟨_, rfl, ?_⟩; replace HB := zam (below_step (zbl HB.out) hb); (try clear hb); (try clear hb2); (try clear hk); (try clear hi)) | ((with_reducible refine gate_dst (N := 61) rfl ?_); refine Kd.R_lit (Kd.int .u8) _ 5 ?hg (N := 61) ?hd (xs := ([(bg) % 256] : List Int)) (inner := [.int .u8 ((bg) % 256)]) (ok := fun _ => True) (okp := fun _ => True) ?hr ?hp (fun _ hk => hk) trivial (Below.refl _ _) (Nat.le_refl _) (by simp) ?_; (case hd => rfl); (case hg => rfl); (case hr => first | (go_simp; done) | (go_simp; rfl)); (case hp => exact (Reps.one (show Kd.M (Kd.int .u8) _ _ _ ((bg) % 256) [.int .u8 ((bg) % 256)] from rfl) (Reps.none _ _))); intro v130 dL bz hb hg_ hnew_; clear hg_ hnew_; (first | rw [← bB.out] at bz | (simp only [Int.reduceToNat] at bz; rw [← bB.out] at bz)); have bZ := zam (Kd.R_lower bz (below_size (zbl HB.out))); replace HB := zam (below_step (zbl HB.out) hb); clear hb bz; have hcv30 := own_string (P := Tryz.prog) Tryz.underlying44 Tryz.underlying5 Tryz.underlying9 (Kd.own_of_R bZ.out)))
          go_ret2
          exact ⟨by first | rfl | (simp [errW_none, errW_some] <;> rfl) | (simp only [← bq]; first | rfl | (simp [errW_none, errW_some] <;> rfl)) | (simp [*, errW_none, errW_some] <;> rfl), zbl HB.out⟩
         ·rw [if_neg cy] at H
          exact absurd H (by simp)
        ·rw [if_neg cx] at H
         exact absurd H (by simp)
       ·replace cw := Bool.eq_false_iff.mpr cw
        subst cw; rw [if_neg (show ¬ (false = true) by decide)] at H; replace H := Option.bind_eq_some_iff.mp H; obtain ⟨bb, cb, H⟩ := H; have dv := zam cb; clear cb; have bJ := zam H; clear H
        go_upto_region 11 with (first | ((with_reducible refine gate_callee (f := 162) rfl ?_); refine goesL_ (some 65) rfl rfl Tryz.func162 (by kernel_rfl) rfl #[.string a0, .int .i64 a1] rfl zar ?_; (with_reducible refine (spec_l1Unit.calls kj13 a0 a1 bb _ dv.out).mono ?_); rintro e w' ⟨rfl, ⟨nd, rfl⟩⟩; refine ⟨_, rfl, ?_⟩))
        (try simp only [Act.put, List.setIfInBounds_toArray, List.set_cons_zero, List.set_cons_succ])
        go_cut [75] (fun v75 wc => ∃ (kq : Nat) (bk : Bool), v75 = .bool bk ∧ Aside0 (spec_l1Piece.j1 kq a0 a1 bb bk = some (r1, r2)) ∧ Aside0 (kq ≤ kj13) ∧ Aside0 (Below w.heap.size w wc))
        case first =>
         have H := bJ.out; clear bJ
         by_cases bN : bb < 0
         ·rw [if_pos bN] at H
          have br := decide_eq_true bN; clear bN
          (first | rw [br] | (simp only [i64_w, i32_w, IntKind.wrap_u8, IntKind.wrap_u32]; rw [br]) | skip)
          have H' := zam H; clear H
          go_wp2
          go_meet
          case rel => exact ⟨_, (true), zrs, H', ⟨zlo bx.out⟩, ⟨zbl HB.out⟩⟩
         ·rw [if_neg bN] at H
          have br := decide_eq_false bN; clear bN
          (first | rw [br] | (simp only [i64_w, i32_w, IntKind.wrap_u8, IntKind.wrap_u32]; rw [br]) | skip)
          by_cases bP : bb ≥ 56320
          ·rw [if_pos bP] at H
           have cc := zge bP; clear bP; have H' := zam H; clear H
           go_wp2
           go_meet
           case rel => exact ⟨_, (decide (bb < 57344)), zrs, H', ⟨zlo bx.out⟩, ⟨zbl HB.out⟩⟩
          ·rw [if_neg bP] at H
           have cc := zge' bP; clear bP; have H' := zam H; clear H
           go_wp2
           go_meet
           case rel => exact ⟨_, (false), zrs, H', ⟨zlo bx.out⟩, ⟨zbl HB.out⟩⟩
        case rest =>
         clear bJ; obtain ⟨kq, bk, rfl, HA, cd, HB⟩ := hcut
         cases kq with
         | zero => exact absurd HA.out (by simp [spec_l1Piece.j1])
         | succ kj31 =>
          have H := HA.out; clear HA
          simp only [spec_l1Piece.j1] at H
          by_cases cz : bk = true
          ·subst cz
           rw [if_pos rfl] at H
           simp only [Option.some.injEq, Prod.mk.injEq] at H
           obtain ⟨rfl, rfl⟩ := H
           go_wp2
           go_ret2
           exact ⟨zer, zbl HB.out⟩
          ·replace cz := Bool.eq_false_iff.mpr cz
           subst cz; rw [if_neg (show ¬ (false = true) by decide)] at H; have bK := zam H; clear H
           go_upto_region 13 with (fail)
           go_cut [81] (fun v81 wc => ∃ (kq : Nat) (bm : Bool), v81 = .bool bm ∧ Aside0 (spec_l1Piece.j2 kq a0 a1 bb bm = some (r1, r2)) ∧ Aside0 (kq ≤ kj31) ∧ Aside0 (Below w.heap.size w wc))
           case first =>
            have H := bK.out; clear bK
            by_cases bQ : bb < 55296
            ·rw [if_pos bQ] at H
             have bs := decide_eq_true bQ; clear bQ
             (first | rw [bs] | (simp only [i64_w, i32_w, IntKind.wrap_u8, IntKind.wrap_u32]; rw [bs]) | skip)
             have H' := zam H; clear H
             go_wp2
             go_meet
             case rel => exact ⟨_, (true), zrs, H', ⟨zlo2 bx.out cd.out⟩, ⟨zbl HB.out⟩⟩
            ·rw [if_neg bQ] at H
             have bs := decide_eq_false bQ; clear bQ
             (first | rw [bs] | (simp only [i64_w, i32_w, IntKind.wrap_u8, IntKind.wrap_u32]; rw [bs]) | skip)
             have H' := zam H; clear H
             go_wp2
             go_meet
             case rel => exact ⟨_, (decide (bb ≥ 57344)), zrs, H', ⟨zlo2 bx.out cd.out⟩, ⟨zbl HB.out⟩⟩
           case rest =>
            clear bK; obtain ⟨kq, bm, rfl, HA, dw, HB⟩ := hcut
            cases kq with
            | zero => exact absurd HA.out (by simp [spec_l1Piece.j2])
            | succ kj35 =>
             have H := HA.out; clear HA
             simp only [spec_l1Piece.j2] at H
             by_cases cB : bm = true
             ·subst cB
              rw [if_pos rfl] at H; replace H := Option.bind_eq_some_iff.mp H; obtain ⟨bC, cf, H⟩ := H; have dx := zam cf; clear cf
              simp only [Option.some.injEq, Prod.mk.injEq] at H
              obtain ⟨rfl, rfl⟩ := H
              go_wp2_with (first | ((with_reducible refine gate_callee (f := 163) rfl ?_); refine goesL_ (some 83) rfl rfl Tryz.func163 (by kernel_rfl) rfl #[.int .i64 bb] rfl zar ?_; (with_reducible refine (spec_l1Utf8.calls bb bC _ dx.out).mono ?_); rintro e dM ⟨rfl, hb⟩; refine ⟨_, rfl, ?_⟩; replace HB := zam (below_step (zbl HB.out) hb); (try clear hb); (try clear hb2); (try clear hk); (try clear hi)))
              go_ret2
              exact ⟨zer, zbl HB.out⟩
             ·replace cB := Bool.eq_false_iff.mpr cB
              subst cB; rw [if_neg (show ¬ (false = true) by decide)] at H; replace H := Option.bind_eq_some_iff.mp H; obtain ⟨bd, cg, H⟩ := H; have cL := zam cg; clear cg
              by_cases bR : bd < 56320
              ·rw [if_pos bR] at H
               have ch := decide_eq_true bR; clear bR
               simp only [Option.some.injEq, Prod.mk.injEq] at H
               obtain ⟨rfl, rfl⟩ := H
               go_wp2_with (first | ((with_reducible refine gate_callee (f := 162) rfl ?_); refine goesL_ (some 87) rfl rfl Tryz.func162 (by kernel_rfl) rfl #[.string a0, .int .i64 (wrap64 (a1 + 6))] rfl zar ?_; (with_reducible refine (spec_l1Unit.calls kj35 a0 (wrap64 (a1 + 6)) bd _ cL.out).mono ?_); rintro e w' ⟨rfl, ⟨nd, rfl⟩⟩; refine ⟨_, rfl, ?_⟩))
               go_ret2
               exact ⟨zer, zbl HB.out⟩
              ·rw [if_neg bR] at H
               have ch := decide_eq_false bR; clear bR
               by_cases bS : bd ≥ 57344
               ·rw [if_pos bS] at H
                have cj := zge bS; clear bS
                simp only [Option.some.injEq, Prod.mk.injEq] at H
                obtain ⟨rfl, rfl⟩ := H
                go_wp2_with (first | ((with_reducible refine gate_callee (f := 162) rfl ?_); refine goesL_ (some 87) rfl rfl Tryz.func162 (by kernel_rfl) rfl #[.string a0, .int .i64 (wrap64 (a1 + 6))] rfl zar ?_; (with_reducible refine (spec_l1Unit.calls kj35 a0 (wrap64 (a1 + 6)) bd _ cL.out).mono ?_); rintro e w' ⟨rfl, ⟨nd, rfl⟩⟩; refine ⟨_, rfl, ?_⟩))
                go_ret2
                exact ⟨zer, zbl HB.out⟩
               ·rw [if_neg bS] at H
                have cj := zge' bS; clear bS; replace H := Option.bind_eq_some_iff.mp H; obtain ⟨bD, ck, H⟩ := H; have dy := zam ck; clear ck
                simp only [Option.some.injEq, Prod.mk.injEq] at H
                obtain ⟨rfl, rfl⟩ := H
                go_wp2_with (first | ((with_reducible refine gate_callee (f := 162) rfl ?_); refine goesL_ (some 87) rfl rfl Tryz.func162 (by kernel_rfl) rfl #[.string a0, .int .i64 (wrap64 (a1 + 6))] rfl zar ?_; (with_reducible refine (spec_l1Unit.calls kj35 a0 (wrap64 (a1 + 6)) bd _ cL.out).mono ?_); rintro e w' ⟨rfl, ⟨nd, rfl⟩⟩; refine ⟨_, rfl, ?_⟩) | ((with_reducible refine gate_callee (f := 163) rfl ?_); refine goesL_ (some 101) rfl rfl Tryz.func163 (by kernel_rfl) rfl #[.int .i64 (wrap64 ((wrap64 ((wrap64 (65536 + (wrap64 ((wrap64 (bb - 55296)) * 1024)))) + bd)) - 56320))] rfl zar ?_; (with_reducible refine (spec_l1Utf8.calls (wrap64 ((wrap64 ((wrap64 (65536 + (wrap64 ((wrap64 (bb - 55296)) * 1024)))) + bd)) - 56320)) bD _ dy.out).mono ?_); rintro e dN ⟨rfl, hb⟩; refine ⟨_, rfl, ?_⟩; replace HB := zam (below_step (zbl HB.out) hb); (try clear hb); (try clear hb2); (try clear hk); (try clear hi)))
                go_ret2
                exact ⟨zer, zbl HB.out⟩
    ·rw [if_neg bF] at H
     have bV := beq_eq_false_iff_ne.mpr bF; have bW := bne_iff_ne.mpr bF
     by_cases bT : (bt a0 a1) < 32
     ·rw [if_pos bT] at H
      have cm := decide_eq_true bT; clear bT
      simp only [Option.some.injEq, Prod.mk.injEq] at H
      obtain ⟨rfl, rfl⟩ := H; have p5 := zet (0 ≤ (a1 : Int)); have q5 := zet (a1 < (a0.size : Int)); have ct := bt_at a0 a1; have cG := zet (0 ≤ (a1 : Int)); have cH := zet (a1 < (a0.size : Int)); have bH := bt_at a0 a1; have cV := zet (0 ≤ (a1 : Int)); have cW := zet (a1 < (a0.size : Int)); have cn := bt_at a0 a1
      go_enter Tryz.func122, Tryz.ntmps122
      go_wp2
      go_ret2
      exact ⟨zer, zbl HB.out⟩
     ·rw [if_neg bT] at H
      have cm := decide_eq_false bT; clear bT
      by_cases bL : (bt a0 a1) = 34
      ·rw [if_pos bL] at H
       have cp := beq_iff_eq.mpr bL; have cq := bne_eq_false_iff_eq.mpr bL; clear bL
       simp only [Option.some.injEq, Prod.mk.injEq] at H
       obtain ⟨rfl, rfl⟩ := H; have p5 := zet (0 ≤ (a1 : Int)); have q5 := zet (a1 < (a0.size : Int)); have ct := bt_at a0 a1; have cG := zet (0 ≤ (a1 : Int)); have cH := zet (a1 < (a0.size : Int)); have bH := bt_at a0 a1; have cV := zet (0 ≤ (a1 : Int)); have cW := zet (a1 < (a0.size : Int)); have cn := bt_at a0 a1; have dz := zet (0 ≤ (a1 : Int)); have dB := zet (a1 < (a0.size : Int)); have cM := bt_at a0 a1
       go_enter Tryz.func122, Tryz.ntmps122
       go_wp2
       go_ret2
       exact ⟨zer, zbl HB.out⟩
      ·rw [if_neg bL] at H
       have cp := beq_eq_false_iff_ne.mpr bL; have cq := bne_iff_ne.mpr bL; have cX := eq_true (of_decide_eq_true zas : 0 ≤ a1)
       by_cases cC : a1 ≤ (wrap64 (a1 + 1))
       ·rw [if_pos cC] at H
        have cY := eq_true cC; have cZ := decide_eq_true cC
        by_cases cD : (wrap64 (a1 + 1)) ≤ (a0.size : Int)
        ·rw [if_pos cD] at H
         have db := eq_true cD; have dc := decide_eq_true cD
         simp only [Option.some.injEq, Prod.mk.injEq] at H
         obtain ⟨rfl, rfl⟩ := H; have p5 := zet (0 ≤ (a1 : Int)); have q5 := zet (a1 < (a0.size : Int)); have ct := bt_at a0 a1; have cG := zet (0 ≤ (a1 : Int)); have cH := zet (a1 < (a0.size : Int)); have bH := bt_at a0 a1; have cV := zet (0 ≤ (a1 : Int)); have cW := zet (a1 < (a0.size : Int)); have cn := bt_at a0 a1; have dz := zet (0 ≤ (a1 : Int)); have dB := zet (a1 < (a0.size : Int)); have cM := bt_at a0 a1
         go_enter Tryz.func122, Tryz.ntmps122
         go_wp2
         go_ret2
         exact ⟨zer, zbl HB.out⟩
        ·rw [if_neg cD] at H
         exact absurd H (by simp)
       ·rw [if_neg cC] at H
        exact absurd H (by simp)
  ·rw [if_neg c4] at H
   exact absurd H (by simp)
 ·rw [if_neg c3] at H
  exact absurd H (by simp)
end Go.Proofs.YtndagnkhjlgjgaaGreatDoor.PJs
