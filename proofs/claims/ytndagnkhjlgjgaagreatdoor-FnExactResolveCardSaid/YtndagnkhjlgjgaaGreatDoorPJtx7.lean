-- Printed
import Derived.Test.YtndagnkhjlgjgaaGreatDoorPJtx6
namespace Go.Proofs.YtndagnkhjlgjgaaGreatDoor.PJt
open Go.RowKit Own Xtra YtndagnkhjlgjgaaGreatDoorW.PrintWords YtndagnkhjlgjgaaGreatDoorW.PrintLast YtndagnkhjlgjgaaGreatDoorW.PrintMore
attribute [local go_sem] max2_int min2_int max_two min_two max_three min_three max_four min_four
set_option linter.unusedVariables false
set_option linter.unusedSimpArgs false
section
variable [Inhabited Rec]
mutual
def spec_l1Parts.j0 : Nat → ByteArray → List (S92) → Bool → Option ((List (S92)))
 | 0, _, _, _ => none
 | k + 1, x0, x3, cW => if cW = true then (some x3) else (spec_l1Parts.l0 k x0 x3 1)
def spec_l1Parts.l0 : Nat → ByteArray → List (S92) → Int → Option ((List (S92)))
 | 0, _, _, _ => none
 | k + 1, x0, x3, x4 => if x4 < (wrap64 ((x0.size : Int) - 1)) then ((spec_l1Dec.f (x3.length : Int)).bind fun bk => (if 0 < (x0.size : Int) then (if (bt x0 0) = 123 then ((spec_l1String.f x0 x4).bind fun bm => ((spec_l1End.f k x0 (wrap64 (bm.2.1 + 1))).bind fun bb => (if 0 ≤ (wrap64 (bm.2.1 + 1)) then (if (wrap64 (bm.2.1 + 1)) ≤ bb then (if bb ≤ (x0.size : Int) then (if x3.length < 4398046511104 then (spec_l1Parts.l0 k x0 (x3 ++ [(⟨bm.1, x0.extract ((wrap64 (bm.2.1 + 1)) : Int).toNat (bb : Int).toNat⟩ : S92)]) (wrap64 (bb + 1))) else (none)) else (none)) else (none)) else (none)))) else ((spec_l1End.f k x0 x4).bind fun bf => (if 0 ≤ x4 then (if x4 ≤ bf then (if bf ≤ (x0.size : Int) then (if x3.length < 4398046511104 then (spec_l1Parts.l0 k x0 (x3 ++ [(⟨bk, x0.extract (x4 : Int).toNat (bf : Int).toNat⟩ : S92)]) (wrap64 (bf + 1))) else (none)) else (none)) else (none)) else (none)))) else (none))) else (some x3)
end
def spec_l1Parts.f (k : Nat) (a0 : ByteArray) : Option ((List (S92))) := (some (([] : List (S92)) : List (S92))).bind fun bh => (if 0 < (a0.size : Int) then (if (bt a0 0) = 91 then (spec_l1Parts.j0 k a0 bh false) else (spec_l1Parts.j0 k a0 bh ((bt a0 0) != 123))) else (none))
set_option maxHeartbeats 8000000 in
set_option maxRecDepth 100000 in
theorem spec_l1Parts.calls (k : Nat) (a0 : ByteArray) (r : List (S92)) (w : World) (h : spec_l1Parts.f k a0 = some r) :
  Calls Tryz.prog 57 #[.string a0] w fun e w' => ∃ v0_ : Value, e = .returned (v0_) ∧ Kd.R k92 92 w' w.heap.size (fun _ => True) v0_ r ∧ Below w.heap.size w w' := by
 have hu92 := Tryz.underlying92; have HB := zam (Below.refl w.heap.size w); have H : ((some (([] : List (S92)) : List (S92))).bind fun bh => (if 0 < (a0.size : Int) then (if (bt a0 0) = 91 then (spec_l1Parts.j0 k a0 bh false) else (spec_l1Parts.j0 k a0 bh ((bt a0 0) != 123))) else (none))) = some r := h; clear h
 obtain ⟨bh, bn⟩ : ∃ y_ : List (S92), y_ = (([] : List (S92))) := ⟨_, rfl⟩
 replace H : (if 0 < (a0.size : Int) then (if (bt a0 0) = 91 then (spec_l1Parts.j0 k a0 bh false) else (spec_l1Parts.j0 k a0 bh ((bt a0 0) != 123))) else (none)) = some r := by first | (rw [bn]; with_reducible exact H) | (have H2_ := (Option.bind_some _ _).symm.trans H; rw [bn]; with_reducible exact H2_) | (have H2_ := (Option.bind_some _ _).symm.trans H; with_reducible exact H2_) | with_reducible exact H | (rw [bn]; exact H) | exact H
 have bv := zam bn; clear bn; have cj := zam H; clear H
 go_enter Tryz.func57, Tryz.ntmps57
 go_upto_region 2 with (first | ((with_reducible refine gate_dst (N := 10) rfl ?_); refine Kd.R_lit k92 _ 92 ?hg (N := 10) ?hd (xs := ([] : List (S92))) (inner := []) (ok := fun _ => True) (okp := fun _ => True) ?hr ?hp (fun _ hk => hk) trivial (Below.refl _ _) (Nat.le_refl _) (by simp) ?_; (case hd => rfl); (case hg => rfl); (case hr => first | (go_simp; done) | (go_simp; rfl)); (case hp => exact (Reps.none _ _)); intro v226 w3 bC hb hg_ hnew_; clear hg_ hnew_; (first | rw [← bv.out] at bC | (simp only [Int.reduceToNat] at bC; rw [← bv.out] at bC)); have bw := zam (Kd.R_lower bC (below_size (zbl HB.out))); replace HB := zam (below_step (zbl HB.out) hb); clear hb bC))
 (try simp only [Act.put, List.setIfInBounds_toArray, List.set_cons_zero, List.set_cons_succ])
 go_cut [18] (fun v18 wc => ∃ (kq : Nat) (bp : Bool), v18 = .bool bp ∧ Aside0 (spec_l1Parts.j0 kq a0 bh bp = some r) ∧ Aside0 (kq ≤ k) ∧ Aside0 (Kd.R k92 92 wc w.heap.size (fun _ => True) v226 bh) ∧ Aside0 (Below w.heap.size w wc))
 case first =>
  have H := cj.out; clear cj
  by_cases c5 : 0 < (a0.size : Int)
  ·rw [if_pos c5] at H
   have bD := decide_eq_true c5; have cX : decide (0 < a0.size) = true := decide_eq_true (by omega); clear c5
   (first | rw [bD] | (simp only [i64_w, i32_w, IntKind.wrap_u8, IntKind.wrap_u32]; rw [bD]) | skip)
   by_cases c7 : (bt a0 0) = 91
   ·rw [if_pos c7] at H
    have ck := beq_iff_eq.mpr c7; have cm := bne_eq_false_iff_eq.mpr c7; clear c7; have H' := zam H; clear H; have p6 : 0 ≤ (0 : Int) := (by omega); have q6 : 0 < a0.size := (by have : (0 : Int) < (a0.size : Int) := of_decide_eq_true zas; omega)
    have cY : ∀ h : 0 < a0.size, ((a0[0]'h).toNat : Int) = bt a0 0 := bt_at a0 0
    clear p6; have qi6 : (0 < (a0.size : Int)) = True := eq_true (of_decide_eq_true zas); replace q6 := eq_true q6
    go_wp2
    go_meet
    case rel => exact ⟨_, (false), zrs, H', ⟨zlo0⟩, ⟨zkr bw.out⟩, ⟨zbl HB.out⟩⟩
   ·rw [if_neg c7] at H
    have ck := beq_eq_false_iff_ne.mpr c7; have cm := bne_iff_ne.mpr c7; have H' := zam H; clear H; have p6 : 0 ≤ (0 : Int) := (by omega); have q6 : 0 < a0.size := (by have : (0 : Int) < (a0.size : Int) := of_decide_eq_true zas; omega)
    have cY : ∀ h : 0 < a0.size, ((a0[0]'h).toNat : Int) = bt a0 0 := bt_at a0 0
    clear p6; have qi6 : (0 < (a0.size : Int)) = True := eq_true (of_decide_eq_true zas); replace q6 := eq_true q6; have p8 : 0 ≤ (0 : Int) := (by omega); have q8 : 0 < a0.size := (by have : (0 : Int) < (a0.size : Int) := of_decide_eq_true zas; omega)
    have db : ∀ h : 0 < a0.size, ((a0[0]'h).toNat : Int) = bt a0 0 := bt_at a0 0
    clear p8; have qi8 : (0 < (a0.size : Int)) = True := eq_true (of_decide_eq_true zas); replace q8 := eq_true q8
    go_wp2
    go_meet
    case rel => exact ⟨_, (((bt a0 0) != 123)), zrs, H', ⟨zlo0⟩, ⟨zkr bw.out⟩, ⟨zbl HB.out⟩⟩
  ·rw [if_neg c5] at H
   exact absurd H (by simp)
 case rest =>
  clear cj; obtain ⟨kq, bp, rfl, HA, cd, HO_3, HB⟩ := hcut
  cases kq with
  | zero => exact absurd HA.out (by simp [spec_l1Parts.j0])
  | succ kj1 =>
   have H := HA.out; clear HA
   simp only [spec_l1Parts.j0] at H
   by_cases c9 : bp = true
   ·subst c9
    rw [if_pos rfl] at H; obtain rfl := Option.some.inj H
    go_wp2
    go_ret
    exact ⟨_, zer, by refine zkr ?_; exact HO_3.out, zbl HB.out⟩
   ·replace c9 := Bool.eq_false_iff.mpr c9
    subst c9; rw [if_neg (show ¬ (false = true) by decide)] at H; have H' := zam H; clear H
    go_wp2
    (try simp only [Act.put, List.setIfInBounds_toArray, List.set_cons_zero, List.set_cons_succ])
    go_loopg [3, 4] kj1 (fun kq v3 v4 w' => ∃ (bc : List (S92)) (bd : Int), v4 = .int .i64 bd ∧ Aside0 (spec_l1Parts.l0 kq a0 bc bd = some r) ∧ Aside0 (kq ≤ kj1) ∧ Aside0 (Kd.R k92 92 w' w.heap.size (fun _ => True) v3 bc) ∧ Aside0 (Below w.heap.size w w'))
    case atStart => exact ⟨(bh), (1), zrs, H', ⟨Nat.le_refl _⟩, ⟨zkr HO_3.out⟩, ⟨zbl HB.out⟩⟩
    case round =>
     clear H'; obtain ⟨bc, bd, rfl, HA, HK2, HO_3, HB⟩ := hrel
     cases gk with
     | zero => exact absurd HA.out (by simp [spec_l1Parts.l0])
     | succ k2 =>
      have H := HA.out; clear HA
      simp only [spec_l1Parts.l0] at H
      by_cases bB : bd < (wrap64 ((a0.size : Int) - 1))
      ·rw [if_pos bB] at H
       have bF := decide_eq_true bB; clear bB; replace H := Option.bind_eq_some_iff.mp H; obtain ⟨bk, bG, H⟩ := H; have cn := zam bG; clear bG
       by_cases cf : 0 < (a0.size : Int)
       ·rw [if_pos cf] at H
        have cC := decide_eq_true cf; have cD : decide (0 < a0.size) = true := decide_eq_true (by omega); clear cf
        by_cases bx : (bt a0 0) = 123
        ·rw [if_pos bx] at H
         have bH := beq_iff_eq.mpr bx; have bJ := bne_eq_false_iff_eq.mpr bx; clear bx; replace H := Option.bind_eq_some_iff.mp H; obtain ⟨⟨bs, bz, cp⟩, bK, H⟩ := H
         try dsimp only at H
         have cF := zam bK; clear bK; replace H := Option.bind_eq_some_iff.mp H; obtain ⟨bb, bL, H⟩ := H; have cG := zam bL; clear bL
         obtain ⟨bg, bj⟩ : ∃ j_ : Int, (wrap64 (bz + 1)) = j_ := ⟨_, rfl⟩
         replace H : (if 0 ≤ (bg) then (if (bg) ≤ bb then (if bb ≤ (a0.size : Int) then (if bc.length < 4398046511104 then (spec_l1Parts.l0 k2 a0 (bc ++ [(⟨bs, a0.extract ((bg) : Int).toNat (bb : Int).toNat⟩ : S92)]) (wrap64 (bb + 1))) else (none)) else (none)) else (none)) else (none)) = some r := by first | (rw [bj] at H; exact H) | (simp only [bj] at H ⊢; exact H)
         (try rw [bj] at cn)
         (try rw [bj] at cF)
         (try rw [bj] at cG)
         have cq : (IntKind.i64.wrap (bz + 1)) = bg := (i64_w _).trans bj
         by_cases bM : 0 ≤ (bg)
         ·rw [if_pos bM] at H
          have cH := eq_true bM; have cJ := decide_eq_true bM; clear bM
          by_cases bN : (bg) ≤ bb
          ·rw [if_pos bN] at H
           have cK := eq_true bN; have cL := decide_eq_true bN; clear bN
           by_cases bP : bb ≤ (a0.size : Int)
           ·rw [if_pos bP] at H
            have cM := eq_true bP; have cN := decide_eq_true bP; clear bP
            by_cases cg : bc.length < 4398046511104
            ·rw [if_pos cg] at H
             have bQ := zam cg; clear cg
             obtain ⟨cr, bq⟩ : ∃ y_ : List (S92), y_ = (bc ++ [(⟨bs, a0.extract ((bg) : Int).toNat (bb : Int).toNat⟩ : S92)]) := ⟨_, rfl⟩
             first | rw [Option.bind_some, ← bq] at H | rw [← bq] at H
             have bR := zam bq; clear bq; have H' := zam H; clear H; obtain ⟨ct, cv, eo22⟩ := Kd.R_slice HO_3.out; subst eo22
             go_wp2_with (first | ((with_reducible refine gate_callee (f := 99) rfl ?_); refine goesL_ (some 27) rfl rfl Tryz.func99 (by kernel_rfl) rfl #[.int .i64 (bc.length : Int)] rfl zar ?_; (with_reducible refine (spec_l1Dec.calls (bc.length : Int) bk _ cn.out).mono ?_); rintro e dc ⟨rfl, hb⟩; refine ⟨_, rfl, ?_⟩; replace HO_3 := zam (Kd.R_below (zkr HO_3.out) hb); replace HB := zam (below_step (zbl HB.out) hb); (try clear hb); (try clear hb2); (try clear hk); (try clear hi); have cw : 0 ≤ (0 : Int) := (by omega); have bS : 0 < a0.size := (by have : (0 : Int) < (a0.size : Int) := of_decide_eq_true zas; omega); have cx : ∀ h : 0 < a0.size, ((a0[0]'h).toNat : Int) = bt a0 0 := bt_at a0 0; clear cw; have qi13 : (0 < (a0.size : Int)) = True := eq_true (of_decide_eq_true zas); replace bS := eq_true bS) | ((with_reducible refine gate_callee (f := 92) rfl ?_); refine goesL_ (some 34) rfl rfl Tryz.func92 (by kernel_rfl) rfl #[.string a0, .int .i64 bd] rfl zar ?_; (with_reducible refine (spec_l1String.calls a0 bd bs bz cp _ cF.out).mono ?_); rintro e dd ⟨rfl, hb⟩; refine ⟨_, rfl, ?_⟩; replace HO_3 := zam (Kd.R_below (zkr HO_3.out) hb); replace HB := zam (below_step (zbl HB.out) hb); (try clear hb); (try clear hb2); (try clear hk); (try clear hi)) | ((with_reducible refine gate_callee (f := 100) rfl ?_); refine goesL_ (some 43) rfl rfl Tryz.func100 (by kernel_rfl) rfl #[.string a0, .int .i64 bg] rfl (by (try simp only [List.map_toArray, List.map_cons, List.map_nil]); first | done | (simp only [bj]; rfl) | rfl | (simp only [List.length_drop, List.length_take]; rfl)) ?_; (with_reducible refine (spec_l1End.calls k2 a0 bg bb _ cG.out).mono ?_); rintro e df ⟨rfl, hb⟩; refine ⟨_, rfl, ?_⟩; replace HO_3 := zam (Kd.R_below (zkr HO_3.out) hb); replace HB := zam (below_step (zbl HB.out) hb); (try clear hb); (try clear hb2); (try clear hk); (try clear hi)) | ((with_reducible refine gate_builtin (b := .append) (xs := #[.tmp 44, .tmp 51]) rfl ?_); at_builtin; refine Kd.R_append k92 (w0 := w) w.heap.size rfl (.tmp 44) (.tmp 51) 93 92 (.agg #[(.string ⟨#[]⟩), (.string ⟨#[]⟩)]) 32 rfl Tryz.underlying93 info92 rfl (by decide) (by omega) (.slice ct bc.length cv) bc (⟨bs, a0.extract ((bg) : Int).toNat (bb : Int).toNat⟩ : S92) [.string bs, .string (a0.extract ((bg) : Int).toNat (bb : Int).toNat)] (fun _ => True) (fun _ => False) rfl rfl ?aP (fun _ hk => hk.elim) ?aF ?aO ?aB ?aS ?aL ?_; (case aP => exact k92_mkM _ _ _ (⟨bs, a0.extract ((bg) : Int).toNat (bb : Int).toNat⟩ : S92)); (case aB => exact (zbl HB.out)); (case aF => exact (fun _ _ => trivial)); (case aO => exact (zkr HO_3.out)); (case aS => exact (below_size (zbl HB.out))); (case aL => have := bQ.out; omega); intro v234 dg ho hb hg hat; rw [← bR.out] at ho; have bT := zam (ho); replace HB := zam (hb); clear HO_3; clear ho hb hg hat))
             go_roundg k2
             case measure => have := cd.out; have := HK2.out; omega
             case rel => exact ⟨(cr), (wrap64 (bb + 1)), zrs, H', ⟨zlo2 cd.out HK2.out⟩, ⟨zkr bT.out⟩, ⟨zbl HB.out⟩⟩
            ·rw [if_neg cg] at H
             exact absurd H (by simp)
           ·rw [if_neg bP] at H
            exact absurd H (by simp)
          ·rw [if_neg bN] at H
           exact absurd H (by simp)
         ·rw [if_neg bM] at H
          exact absurd H (by simp)
        ·rw [if_neg bx] at H
         have bH := beq_eq_false_iff_ne.mpr bx; have bJ := bne_iff_ne.mpr bx; replace H := Option.bind_eq_some_iff.mp H; obtain ⟨bf, bV, H⟩ := H; have cZ := zam bV; clear bV
         by_cases bW : 0 ≤ bd
         ·rw [if_pos bW] at H
          have cP := eq_true bW; have cQ := decide_eq_true bW; clear bW
          by_cases bX : bd ≤ bf
          ·rw [if_pos bX] at H
           have cR := eq_true bX; have cS := decide_eq_true bX; clear bX
           by_cases bY : bf ≤ (a0.size : Int)
           ·rw [if_pos bY] at H
            have cT := eq_true bY; have cV := decide_eq_true bY; clear bY
            by_cases ch : bc.length < 4398046511104
            ·rw [if_pos ch] at H
             have bZ := zam ch; clear ch
             obtain ⟨cy, br⟩ : ∃ y_ : List (S92), y_ = (bc ++ [(⟨bk, a0.extract (bd : Int).toNat (bf : Int).toNat⟩ : S92)]) := ⟨_, rfl⟩
             first | rw [Option.bind_some, ← br] at H | rw [← br] at H
             have cb := zam br; clear br; have H' := zam H; clear H; obtain ⟨cz, cB, eo32⟩ := Kd.R_slice HO_3.out; subst eo32
             go_wp2_with (first | ((with_reducible refine gate_callee (f := 99) rfl ?_); refine goesL_ (some 27) rfl rfl Tryz.func99 (by kernel_rfl) rfl #[.int .i64 (bc.length : Int)] rfl zar ?_; (with_reducible refine (spec_l1Dec.calls (bc.length : Int) bk _ cn.out).mono ?_); rintro e dh ⟨rfl, hb⟩; refine ⟨_, rfl, ?_⟩; replace HO_3 := zam (Kd.R_below (zkr HO_3.out) hb); replace HB := zam (below_step (zbl HB.out) hb); (try clear hb); (try clear hb2); (try clear hk); (try clear hi); have cw : 0 ≤ (0 : Int) := (by omega); have bS : 0 < a0.size := (by have : (0 : Int) < (a0.size : Int) := of_decide_eq_true zas; omega); have cx : ∀ h : 0 < a0.size, ((a0[0]'h).toNat : Int) = bt a0 0 := bt_at a0 0; clear cw; have qi13 : (0 < (a0.size : Int)) = True := eq_true (of_decide_eq_true zas); replace bS := eq_true bS) | ((with_reducible refine gate_callee (f := 100) rfl ?_); refine goesL_ (some 43) rfl rfl Tryz.func100 (by kernel_rfl) rfl #[.string a0, .int .i64 bd] rfl zar ?_; (with_reducible refine (spec_l1End.calls k2 a0 bd bf _ cZ.out).mono ?_); rintro e dj ⟨rfl, hb⟩; refine ⟨_, rfl, ?_⟩; replace HO_3 := zam (Kd.R_below (zkr HO_3.out) hb); replace HB := zam (below_step (zbl HB.out) hb); (try clear hb); (try clear hb2); (try clear hk); (try clear hi)) | ((with_reducible refine gate_builtin (b := .append) (xs := #[.tmp 44, .tmp 51]) rfl ?_); at_builtin; refine Kd.R_append k92 (w0 := w) w.heap.size rfl (.tmp 44) (.tmp 51) 93 92 (.agg #[(.string ⟨#[]⟩), (.string ⟨#[]⟩)]) 32 rfl Tryz.underlying93 info92 rfl (by decide) (by omega) (.slice cz bc.length cB) bc (⟨bk, a0.extract (bd : Int).toNat (bf : Int).toNat⟩ : S92) [.string bk, .string (a0.extract (bd : Int).toNat (bf : Int).toNat)] (fun _ => True) (fun _ => False) rfl rfl ?aP (fun _ hk => hk.elim) ?aF ?aO ?aB ?aS ?aL ?_; (case aP => exact k92_mkM _ _ _ (⟨bk, a0.extract (bd : Int).toNat (bf : Int).toNat⟩ : S92)); (case aB => exact (zbl HB.out)); (case aF => exact (fun _ _ => trivial)); (case aO => exact (zkr HO_3.out)); (case aS => exact (below_size (zbl HB.out))); (case aL => have := bZ.out; omega); intro v238 dk ho hb hg hat; rw [← cb.out] at ho; have cc := zam (ho); replace HB := zam (hb); clear HO_3; clear ho hb hg hat))
             go_roundg k2
             case measure => have := cd.out; have := HK2.out; omega
             case rel => exact ⟨(cy), (wrap64 (bf + 1)), zrs, H', ⟨zlo2 cd.out HK2.out⟩, ⟨zkr cc.out⟩, ⟨zbl HB.out⟩⟩
            ·rw [if_neg ch] at H
             exact absurd H (by simp)
           ·rw [if_neg bY] at H
            exact absurd H (by simp)
          ·rw [if_neg bX] at H
           exact absurd H (by simp)
         ·rw [if_neg bW] at H
          exact absurd H (by simp)
       ·rw [if_neg cf] at H
        exact absurd H (by simp)
      ·rw [if_neg bB] at H
       have bF := decide_eq_false bB; clear bB; obtain rfl := Option.some.inj H
       go_wp2
       go_ret
       exact ⟨_, zer, by refine zkr ?_; exact HO_3.out, zbl HB.out⟩
end
end Go.Proofs.YtndagnkhjlgjgaaGreatDoor.PJt
namespace Go.Proofs.YtndagnkhjlgjgaaGreatDoor.PJt
open Go.RowKit Own Xtra YtndagnkhjlgjgaaGreatDoorW.PrintWords YtndagnkhjlgjgaaGreatDoorW.PrintLast YtndagnkhjlgjgaaGreatDoorW.PrintMore
attribute [local go_sem] max2_int min2_int max_two min_two max_three min_three max_four min_four
set_option linter.unusedVariables false
set_option linter.unusedSimpArgs false
section
variable [Inhabited Rec]
mutual
def spec_l1Within.l0 : Nat → ByteArray → Int → Int → Int → Option (Bool)
 | 0, _, _, _, _ => none
 | k + 1, x0, x3, x4, x5 => if x5 < (x0.size : Int) then (if 0 ≤ x5 then (if (bt x0 x5) = 91 then (spec_l1Within.j1 k x0 x3 x4 x5 true) else (spec_l1Within.j1 k x0 x3 x4 x5 ((bt x0 x5) == 123))) else (none)) else (if x4 > 100 then (some false) else ((spec_l1Sizes.f x0).bind fun bq => (if bq.1 ≤ 100 then (some (decide (bq.2 ≤ 3000))) else (some false))))
def spec_l1Within.j1 : Nat → ByteArray → Int → Int → Int → Bool → Option (Bool)
 | 0, _, _, _, _, _ => none
 | k + 1, x0, x3, x4, x5, cK => if cK = true then (spec_l1Within.j2 k x0 (wrap64 (x3 + 1)) x4 x5) else (spec_l1Within.j2 k x0 x3 x4 x5)
def spec_l1Within.j2 : Nat → ByteArray → Int → Int → Int → Option (Bool)
 | 0, _, _, _, _ => none
 | k + 1, x0, x3, x4, x5 => if 0 ≤ x5 then (if x5 < (x0.size : Int) then (if (bt x0 x5) = 93 then (spec_l1Within.j3 k x0 x3 x4 x5 true) else (spec_l1Within.j3 k x0 x3 x4 x5 ((bt x0 x5) == 125))) else (none)) else (none)
def spec_l1Within.j3 : Nat → ByteArray → Int → Int → Int → Bool → Option (Bool)
 | 0, _, _, _, _, _ => none
 | k + 1, x0, x3, x4, x5, cL => if cL = true then (spec_l1Within.j4 k x0 (wrap64 (x3 - 1)) x4 x5) else (spec_l1Within.j4 k x0 x3 x4 x5)
def spec_l1Within.j4 : Nat → ByteArray → Int → Int → Int → Option (Bool)
 | 0, _, _, _, _ => none
 | k + 1, x0, x3, x4, x5 => if x3 > x4 then (if 0 ≤ x5 then (if x5 < (x0.size : Int) then (if (bt x0 x5) = 34 then ((spec_l1String.f x0 x5).bind fun bG => (spec_l1Within.l0 k x0 x3 x3 bG.2.1)) else (spec_l1Within.l0 k x0 x3 x3 (wrap64 (x5 + 1)))) else (none)) else (none)) else (if 0 ≤ x5 then (if x5 < (x0.size : Int) then (if (bt x0 x5) = 34 then ((spec_l1String.f x0 x5).bind fun bH => (spec_l1Within.l0 k x0 x3 x4 bH.2.1)) else (spec_l1Within.l0 k x0 x3 x4 (wrap64 (x5 + 1)))) else (none)) else (none))
end
def spec_l1Within.f (k : Nat) (a0 : ByteArray) : Option (Bool) := spec_l1Within.l0 k a0 0 0 0
set_option maxHeartbeats 8000000 in
set_option maxRecDepth 100000 in
theorem spec_l1Within.calls (k : Nat) (a0 : ByteArray) (r : Bool) (w : World) (h : spec_l1Within.f k a0 = some r) :
  Calls Tryz.prog 51 #[.string a0] w fun e w' => e = .returned (.bool r) ∧ Below w.heap.size w w' := by
 have HB := zam (Below.refl w.heap.size w); have H : (spec_l1Within.l0 k a0 0 0 0) = some r := h; clear h; have H' := zam H; clear H
 go_enter Tryz.func51, Tryz.ntmps51
 go_wp2
 (try simp only [Act.put, List.setIfInBounds_toArray, List.set_cons_zero, List.set_cons_succ])
 go_loopg [3, 4, 5] k (fun kq v3 v4 v5 w' => ∃ (bk : Int) (bd : Int) (bb : Int), v3 = .int .i64 bk ∧ v4 = .int .i64 bd ∧ v5 = .int .i64 bb ∧ Aside0 (spec_l1Within.l0 kq a0 bk bd bb = some r) ∧ Aside0 (kq ≤ k) ∧ Aside0 (Below w.heap.size w w'))
 case atStart => exact ⟨(0), (0), (0), zrs, zrs, zrs, H', ⟨Nat.le_refl _⟩, ⟨zbl HB.out⟩⟩
 case round =>
  clear H'; obtain ⟨bk, bd, bb, rfl, rfl, rfl, HA, HK1, HB⟩ := hrel
  cases gk with
  | zero => exact absurd HA.out (by simp [spec_l1Within.l0])
  | succ k1 =>
   have H := HA.out; clear HA
   simp only [spec_l1Within.l0] at H
   by_cases c2 : bb < (a0.size : Int)
   ·rw [if_pos c2] at H
    have cm := decide_eq_true c2; clear c2; have cn := zam H; clear H
    go_upto_region 5 with (fail)
    go_cut [24] (fun v24 wc => ∃ (kq : Nat) (bg : Bool), v24 = .bool bg ∧ Aside0 (spec_l1Within.j1 kq a0 bk bd bb bg = some r) ∧ Aside0 (kq ≤ k1) ∧ Aside0 (Below w.heap.size w wc))
    case first =>
     have H := cn.out; clear cn
     by_cases c4 : 0 ≤ bb
     ·rw [if_pos c4] at H
      have bJ := decide_eq_true c4; clear c4
      (first | rw [bJ] | (simp only [i64_w, i32_w, IntKind.wrap_u8, IntKind.wrap_u32]; rw [bJ]) | skip)
      by_cases c6 : (bt a0 bb) = 91
      ·rw [if_pos c6] at H
       have cp := beq_iff_eq.mpr c6; have cq := bne_eq_false_iff_eq.mpr c6; clear c6; have H' := zam H; clear H; have p5 := zet (0 ≤ (bb : Int)); have q5 := zet (bb < (a0.size : Int)); have cM := bt_at a0 bb
       go_wp2
       go_meet
       case rel => exact ⟨_, (true), zrs, H', ⟨zlo HK1.out⟩, ⟨zbl HB.out⟩⟩
      ·rw [if_neg c6] at H
       have cp := beq_eq_false_iff_ne.mpr c6; have cq := bne_iff_ne.mpr c6; have H' := zam H; clear H; have p5 := zet (0 ≤ (bb : Int)); have q5 := zet (bb < (a0.size : Int)); have cM := bt_at a0 bb; have p7 := zet (0 ≤ (bb : Int)); have q7 := zet (bb < (a0.size : Int)); have cY := bt_at a0 bb
       go_wp2
       go_meet
       case rel => exact ⟨_, (((bt a0 bb) == 123)), zrs, H', ⟨zlo HK1.out⟩, ⟨zbl HB.out⟩⟩
     ·rw [if_neg c4] at H
      exact absurd H (by simp)
    case rest =>
     clear cn; obtain ⟨kq, bg, rfl, HA, bh, HB⟩ := hcut
     cases kq with
     | zero => exact absurd HA.out (by simp [spec_l1Within.j1])
     | succ kj2 =>
      have H := HA.out; clear HA
      simp only [spec_l1Within.j1] at H
      have cr := zam H; clear H
      go_upto_if 24 with (fail)
      go_cut [3] (fun v3 wc => ∃ (kq : Nat) (bm : Int), v3 = .int .i64 bm ∧ Aside0 (spec_l1Within.j2 kq a0 bm bd bb = some r) ∧ Aside0 (kq ≤ kj2) ∧ Aside0 (Below w.heap.size w wc))
      case first =>
       have H := cr.out; clear cr
       by_cases c9 : bg = true
       ·subst c9
        rw [if_pos rfl] at H; have H' := zam H; clear H
        go_wp2
        go_meet
        case rel => exact ⟨_, (wrap64 (bk + 1)), zrs, H', ⟨zlo2 HK1.out bh.out⟩, ⟨zbl HB.out⟩⟩
       ·replace c9 := Bool.eq_false_iff.mpr c9
        subst c9; rw [if_neg (show ¬ (false = true) by decide)] at H; have H' := zam H; clear H
        go_wp2
        go_meet
        case rel => exact ⟨_, (bk), zrs, H', ⟨zlo2 HK1.out bh.out⟩, ⟨zbl HB.out⟩⟩
      case rest =>
       clear cr; obtain ⟨kq, bm, rfl, HA, bn, HB⟩ := hcut
       cases kq with
       | zero => exact absurd HA.out (by simp [spec_l1Within.j2])
       | succ kj7 =>
        have H := HA.out; clear HA
        simp only [spec_l1Within.j2] at H
        have bs := zam H; clear H
        go_upto_region 7 with (fail)
        go_cut [36] (fun v36 wc => ∃ (kq : Nat) (bj : Bool), v36 = .bool bj ∧ Aside0 (spec_l1Within.j3 kq a0 bm bd bb bj = some r) ∧ Aside0 (kq ≤ kj7) ∧ Aside0 (Below w.heap.size w wc))
        case first =>
         have H := bs.out; clear bs
         by_cases cc : 0 ≤ bb
         ·rw [if_pos cc] at H
          have br := decide_eq_true cc; clear cc
          (first | rw [br] | (simp only [i64_w, i32_w, IntKind.wrap_u8, IntKind.wrap_u32]; rw [br]) | skip)
          by_cases cd : bb < (a0.size : Int)
          ·rw [if_pos cd] at H
           have cC := decide_eq_true cd; clear cd
           by_cases bv : (bt a0 bb) = 93
           ·rw [if_pos bv] at H
            have bK := beq_iff_eq.mpr bv; have bL := bne_eq_false_iff_eq.mpr bv; clear bv; have H' := zam H; clear H; have cN := zet (0 ≤ (bb : Int)); have cP := zet (bb < (a0.size : Int)); have ct := bt_at a0 bb
            go_wp2
            go_meet
            case rel => exact ⟨_, (true), zrs, H', ⟨zlo3 HK1.out bh.out bn.out⟩, ⟨zbl HB.out⟩⟩
           ·rw [if_neg bv] at H
            have bK := beq_eq_false_iff_ne.mpr bv; have bL := bne_iff_ne.mpr bv; have H' := zam H; clear H; have cN := zet (0 ≤ (bb : Int)); have cP := zet (bb < (a0.size : Int)); have ct := bt_at a0 bb; have cZ := zet (0 ≤ (bb : Int)); have db := zet (bb < (a0.size : Int)); have cQ := bt_at a0 bb
            go_wp2
            go_meet
            case rel => exact ⟨_, (((bt a0 bb) == 125)), zrs, H', ⟨zlo3 HK1.out bh.out bn.out⟩, ⟨zbl HB.out⟩⟩
          ·rw [if_neg cd] at H
           exact absurd H (by simp)
         ·rw [if_neg cc] at H
          exact absurd H (by simp)
        case rest =>
         clear bs; obtain ⟨kq, bj, rfl, HA, bp, HB⟩ := hcut
         cases kq with
         | zero => exact absurd HA.out (by simp [spec_l1Within.j3])
         | succ kj9 =>
          have H := HA.out; clear HA
          simp only [spec_l1Within.j3] at H
          have bw := zam H; clear H
          go_upto_if 36 with (fail)
          go_cut [3] (fun v3 wc => ∃ (kq : Nat) (bc : Int), v3 = .int .i64 bc ∧ Aside0 (spec_l1Within.j4 kq a0 bc bd bb = some r) ∧ Aside0 (kq ≤ kj9) ∧ Aside0 (Below w.heap.size w wc))
          case first =>
           have H := bw.out; clear bw
           by_cases cf : bj = true
           ·subst cf
            rw [if_pos rfl] at H; have H' := zam H; clear H
            go_wp2
            go_meet
            case rel => exact ⟨_, (wrap64 (bm - 1)), zrs, H', ⟨by have := HK1.out; have := bh.out; have := bn.out; have := bp.out; first | omega | exact Nat.le_refl _⟩, ⟨zbl HB.out⟩⟩
           ·replace cf := Bool.eq_false_iff.mpr cf
            subst cf; rw [if_neg (show ¬ (false = true) by decide)] at H; have H' := zam H; clear H
            go_wp2
            go_meet
            case rel => exact ⟨_, (bm), zrs, H', ⟨by have := HK1.out; have := bh.out; have := bn.out; have := bp.out; first | omega | exact Nat.le_refl _⟩, ⟨zbl HB.out⟩⟩
          case rest =>
           clear bw; obtain ⟨kq, bc, rfl, HA, bf, HB⟩ := hcut
           cases kq with
           | zero => exact absurd HA.out (by simp [spec_l1Within.j4])
           | succ kj15 =>
            have H := HA.out; clear HA
            simp only [spec_l1Within.j4] at H
            by_cases bC : bc > bd
            ·rw [if_pos bC] at H
             have bM := zgt bC; clear bC
             by_cases cg : 0 ≤ bb
             ·rw [if_pos cg] at H
              have cD := decide_eq_true cg; clear cg
              by_cases ch : bb < (a0.size : Int)
              ·rw [if_pos ch] at H
               have cF := decide_eq_true ch; clear ch
               by_cases bx : (bt a0 bb) = 34
               ·rw [if_pos bx] at H
                have bN := beq_iff_eq.mpr bx; have bP := bne_eq_false_iff_eq.mpr bx; clear bx; replace H := Option.bind_eq_some_iff.mp H; obtain ⟨⟨cv, bQ, cw⟩, bR, H⟩ := H
                try dsimp only at H
                have cR := zam bR; clear bR; have H' := zam H; clear H; have cS := zet (0 ≤ (bb : Int)); have cT := zet (bb < (a0.size : Int)); have cx := bt_at a0 bb
                go_wp2_with (first | ((with_reducible refine gate_callee (f := 92) rfl ?_); refine goesL_ (some 50) rfl rfl Tryz.func92 (by kernel_rfl) rfl #[.string a0, .int .i64 bb] rfl zar ?_; (with_reducible refine (spec_l1String.calls a0 bb cv bQ cw _ cR.out).mono ?_); rintro e dc ⟨rfl, hb⟩; refine ⟨_, rfl, ?_⟩; replace HB := zam (below_step (zbl HB.out) hb); (try clear hb); (try clear hb2); (try clear hk); (try clear hi)))
                go_roundg kj15
                case measure => have := HK1.out; have := bh.out; have := bn.out; have := bp.out; have := bf.out; omega
                case rel => exact ⟨(bc), (bc), (bQ), zrs, zrs, zrs, H', ⟨by have := HK1.out; have := bh.out; have := bn.out; have := bp.out; have := bf.out; omega⟩, ⟨zbl HB.out⟩⟩
               ·rw [if_neg bx] at H
                have bN := beq_eq_false_iff_ne.mpr bx; have bP := bne_iff_ne.mpr bx; have H' := zam H; clear H; have cS := zet (0 ≤ (bb : Int)); have cT := zet (bb < (a0.size : Int)); have cx := bt_at a0 bb
                go_wp2
                go_roundg kj15
                case measure => have := HK1.out; have := bh.out; have := bn.out; have := bp.out; have := bf.out; omega
                case rel => exact ⟨(bc), (bc), (wrap64 (bb + 1)), zrs, zrs, zrs, H', ⟨by have := HK1.out; have := bh.out; have := bn.out; have := bp.out; have := bf.out; omega⟩, ⟨zbl HB.out⟩⟩
              ·rw [if_neg ch] at H
               exact absurd H (by simp)
             ·rw [if_neg cg] at H
              exact absurd H (by simp)
            ·rw [if_neg bC] at H
             have bM := zgt' bC; clear bC
             by_cases cj : 0 ≤ bb
             ·rw [if_pos cj] at H
              have cG := decide_eq_true cj; clear cj
              by_cases ck : bb < (a0.size : Int)
              ·rw [if_pos ck] at H
               have cH := decide_eq_true ck; clear ck
               by_cases bz : (bt a0 bb) = 34
               ·rw [if_pos bz] at H
                have bS := beq_iff_eq.mpr bz; have bT := bne_eq_false_iff_eq.mpr bz; clear bz; replace H := Option.bind_eq_some_iff.mp H; obtain ⟨⟨cy, bV, cz⟩, bW, H⟩ := H
                try dsimp only at H
                have cV := zam bW; clear bW; have H' := zam H; clear H; have cW := zet (0 ≤ (bb : Int)); have cX := zet (bb < (a0.size : Int)); have cB := bt_at a0 bb
                go_wp2_with (first | ((with_reducible refine gate_callee (f := 92) rfl ?_); refine goesL_ (some 50) rfl rfl Tryz.func92 (by kernel_rfl) rfl #[.string a0, .int .i64 bb] rfl zar ?_; (with_reducible refine (spec_l1String.calls a0 bb cy bV cz _ cV.out).mono ?_); rintro e dd ⟨rfl, hb⟩; refine ⟨_, rfl, ?_⟩; replace HB := zam (below_step (zbl HB.out) hb); (try clear hb); (try clear hb2); (try clear hk); (try clear hi)))
                go_roundg kj15
                case measure => have := HK1.out; have := bh.out; have := bn.out; have := bp.out; have := bf.out; omega
                case rel => exact ⟨(bc), (bd), (bV), zrs, zrs, zrs, H', ⟨by have := HK1.out; have := bh.out; have := bn.out; have := bp.out; have := bf.out; omega⟩, ⟨zbl HB.out⟩⟩
               ·rw [if_neg bz] at H
                have bS := beq_eq_false_iff_ne.mpr bz; have bT := bne_iff_ne.mpr bz; have H' := zam H; clear H; have cW := zet (0 ≤ (bb : Int)); have cX := zet (bb < (a0.size : Int)); have cB := bt_at a0 bb
                go_wp2
                go_roundg kj15
                case measure => have := HK1.out; have := bh.out; have := bn.out; have := bp.out; have := bf.out; omega
                case rel => exact ⟨(bc), (bd), (wrap64 (bb + 1)), zrs, zrs, zrs, H', ⟨by have := HK1.out; have := bh.out; have := bn.out; have := bp.out; have := bf.out; omega⟩, ⟨zbl HB.out⟩⟩
              ·rw [if_neg ck] at H
               exact absurd H (by simp)
             ·rw [if_neg cj] at H
              exact absurd H (by simp)
   ·rw [if_neg c2] at H
    have cm := decide_eq_false c2; clear c2
    by_cases bD : bd > 100
    ·rw [if_pos bD] at H
     have bX := zgt bD; clear bD; obtain rfl := Option.some.inj H
     go_wp2
     go_ret
     exact ⟨zer, zbl HB.out⟩
    ·rw [if_neg bD] at H
     have bX := zgt' bD; clear bD; replace H := Option.bind_eq_some_iff.mp H; obtain ⟨⟨bB, bY⟩, bZ, H⟩ := H
     try dsimp only at H
     have cJ := zam bZ; clear bZ
     by_cases bF : bB ≤ 100
     ·rw [if_pos bF] at H
      have cb := decide_eq_true bF; clear bF; obtain rfl := Option.some.inj H
      go_wp2_with (first | ((with_reducible refine gate_callee (f := 52) rfl ?_); refine goesL_ (some 61) rfl rfl Tryz.func52 (by kernel_rfl) rfl #[.string a0] rfl zar ?_; (with_reducible refine (spec_l1Sizes.calls a0 bB bY _ cJ.out).mono ?_); rintro e df ⟨rfl, hb⟩; refine ⟨_, rfl, ?_⟩; replace HB := zam (below_step (zbl HB.out) hb); (try clear hb); (try clear hb2); (try clear hk); (try clear hi)))
      go_ret
      exact ⟨zer, zbl HB.out⟩
     ·rw [if_neg bF] at H
      have cb := decide_eq_false bF; clear bF; obtain rfl := Option.some.inj H
      go_wp2_with (first | ((with_reducible refine gate_callee (f := 52) rfl ?_); refine goesL_ (some 61) rfl rfl Tryz.func52 (by kernel_rfl) rfl #[.string a0] rfl zar ?_; (with_reducible refine (spec_l1Sizes.calls a0 bB bY _ cJ.out).mono ?_); rintro e dg ⟨rfl, hb⟩; refine ⟨_, rfl, ?_⟩; replace HB := zam (below_step (zbl HB.out) hb); (try clear hb); (try clear hb2); (try clear hk); (try clear hi)))
      go_ret
      exact ⟨zer, zbl HB.out⟩
end
end Go.Proofs.YtndagnkhjlgjgaaGreatDoor.PJt
