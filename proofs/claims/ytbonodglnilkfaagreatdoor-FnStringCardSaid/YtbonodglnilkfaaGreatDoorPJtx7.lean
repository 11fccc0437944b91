-- Written by a turned copy of the kit print (wip/patch_print.py of this repo), this session
import Derived.Test.YtbonodglnilkfaaGreatDoorPJtx0
import Derived.Test.YtbonodglnilkfaaGreatDoorPJtx6
import Derived.Test.YtbonodglnilkfaaGreatDoorOwn
namespace Go.Proofs.YtbonodglnilkfaaGreatDoor.PJt
open Go.RowKit Go.Proofs.YtbonodglnilkfaaGreatDoor.Own Go.Proofs.YtbonodglnilkfaaGreatDoor.Xtra Go.Proofs.YtbonodglnilkfaaGreatDoorW.PrintWords Go.Proofs.YtbonodglnilkfaaGreatDoorW.PrintLast Go.Proofs.YtbonodglnilkfaaGreatDoorW.PrintMore
attribute [local go_sem] max2_int min2_int max_two min_two max_three min_three max_four min_four   -- for this text's walks alone
set_option linter.unusedVariables false
set_option linter.unusedSimpArgs false
section
variable [Inhabited Rec]
mutual
def spec_l1Parts.j0 : Nat → ByteArray → List (S91) → Bool → Option ((List (S91)))
 | 0, _, _, _ => none
 | k + 1, x0, x3, cW => if cW = true then (some x3) else (spec_l1Parts.l0 k x0 x3 1)
def spec_l1Parts.l0 : Nat → ByteArray → List (S91) → Int → Option ((List (S91)))
 | 0, _, _, _ => none
 | k + 1, x0, x3, x4 => if x4 < (wrap64 ((x0.size : Int) - 1)) then ((spec_l1Dec.f (x3.length : Int)).bind fun bk => (if 0 < (x0.size : Int) then (if (bt x0 0) = 123 then ((spec_l1String.f x0 x4).bind fun bm => ((spec_l1End.f k x0 (wrap64 (bm.2.1 + 1))).bind fun bb => (if 0 ≤ (wrap64 (bm.2.1 + 1)) then (if (wrap64 (bm.2.1 + 1)) ≤ bb then (if bb ≤ (x0.size : Int) then (if x3.length < 4398046511104 then (spec_l1Parts.l0 k x0 (x3 ++ [(⟨bm.1, x0.extract ((wrap64 (bm.2.1 + 1)) : Int).toNat (bb : Int).toNat⟩ : S91)]) (wrap64 (bb + 1))) else (none)) else (none)) else (none)) else (none)))) else ((spec_l1End.f k x0 x4).bind fun bf => (if 0 ≤ x4 then (if x4 ≤ bf then (if bf ≤ (x0.size : Int) then (if x3.length < 4398046511104 then (spec_l1Parts.l0 k x0 (x3 ++ [(⟨bk, x0.extract (x4 : Int).toNat (bf : Int).toNat⟩ : S91)]) (wrap64 (bf + 1))) else (none)) else (none)) else (none)) else (none)))) else (none))) else (some x3)
end
def spec_l1Parts.f (k : Nat) (a0 : ByteArray) : Option ((List (S91))) := (some (([] : List (S91)) : List (S91))).bind fun bh => (if 0 < (a0.size : Int) then (if (bt a0 0) = 91 then (spec_l1Parts.j0 k a0 bh false) else (spec_l1Parts.j0 k a0 bh ((bt a0 0) != 123))) else (none))
set_option maxHeartbeats 8000000 in
set_option maxRecDepth 100000 in
theorem spec_l1Parts.calls (k : Nat) (a0 : ByteArray) (r : List (S91)) (w : World) (h : spec_l1Parts.f k a0 = some r) :
  Calls Tryz.prog 66 #[.string a0] w fun e w' => ∃ v0_ : Value, e = .returned (v0_) ∧ Kd.R k91 91 w' w.heap.size (fun _ => True) v0_ r ∧ Below w.heap.size w w' := by
 have hu91 := Tryz.underlying91
 have HB := zam (Below.refl w.heap.size w)
 have H : ((some (([] : List (S91)) : List (S91))).bind fun bh => (if 0 < (a0.size : Int) then (if (bt a0 0) = 91 then (spec_l1Parts.j0 k a0 bh false) else (spec_l1Parts.j0 k a0 bh ((bt a0 0) != 123))) else (none))) = some r := h
 clear h
 obtain ⟨bh, bn⟩ : ∃ y_ : List (S91), y_ = (([] : List (S91))) := ⟨_, rfl⟩
 replace H : (if 0 < (a0.size : Int) then (if (bt a0 0) = 91 then (spec_l1Parts.j0 k a0 bh false) else (spec_l1Parts.j0 k a0 bh ((bt a0 0) != 123))) else (none)) = some r := by first | (rw [bn]; with_reducible exact H) | (have H2_ := (Option.bind_some _ _).symm.trans H; rw [bn]; with_reducible exact H2_) | (have H2_ := (Option.bind_some _ _).symm.trans H; with_reducible exact H2_) | with_reducible exact H | (rw [bn]; exact H) | exact H
 have bv := zam bn
 clear bn
 have cj := zam H
 clear H
 go_enter Tryz.func66, Tryz.ntmps66
 go_upto_region 2 with (first | ((with_reducible refine gate_dst (N := 10) rfl ?_); refine Kd.R_lit k91 _ 91 ?hg (N := 10) ?hd (xs := ([] : List (S91))) (inner := []) (ok := fun _ => True) (okp := fun _ => True) ?hr ?hp (fun _ hk => hk) trivial (Below.refl _ _) (Nat.le_refl _) (by simp) ?_; (case hd => rfl); (case hg => rfl); (case hr => first | (go_simp; done) | (go_simp; rfl)); (case hp => exact (Reps.none _ _)); intro v226 w3 bC hb hg_ hnew_; clear hg_ hnew_; (first | rw [← bv.out] at bC | (simp only [Int.reduceToNat] at bC; rw [← bv.out] at bC)); have bw := zam (Kd.R_lower bC (below_size (zbl HB.out))); replace HB := zam (below_step (zbl HB.out) hb); clear hb bC))
 (try simp only [Act.put, List.setIfInBounds_toArray, List.set_cons_zero, List.set_cons_succ])
 go_cut [18] (fun v18 wc => ∃ (kq : Nat) (bp : Bool), v18 = .bool bp ∧ Aside0 (spec_l1Parts.j0 kq a0 bh bp = some r) ∧ Aside0 (kq ≤ k) ∧ Aside0 (Kd.R k91 91 wc w.heap.size (fun _ => True) v226 bh) ∧ Aside0 (Below w.heap.size w wc))
 case first =>
  have H := cj.out
  clear cj
  by_cases c5 : 0 < (a0.size : Int)
  ·rw [if_pos c5] at H
   have bD := decide_eq_true c5
   have cX : decide (0 < a0.size) = true := decide_eq_true (by omega)
   clear c5
   (first | rw [bD] | (simp only [i64_w, i32_w, IntKind.wrap_u8, IntKind.wrap_u32]; rw [bD]) | skip)
   by_cases c7 : (bt a0 0) = 91
   ·rw [if_pos c7] at H
    have ck := beq_iff_eq.mpr c7
    have cm := bne_eq_false_iff_eq.mpr c7
    clear c7
    have H' := zam H
    clear H
    have p6 : 0 ≤ (0 : Int) := (by omega)
    have q6 : 0 < a0.size := (by have : (0 : Int) < (a0.size : Int) := of_decide_eq_true zas; omega)
    have cY : ∀ h : 0 < a0.size, ((a0[0]'h).toNat : Int) = bt a0 0 := bt_at a0 0
    clear p6
    have qi6 : (0 < (a0.size : Int)) = True := eq_true (of_decide_eq_true zas)
    replace q6 := eq_true q6
    go_wp2
    go_meet
    case rel => exact ⟨_, (false), zrs, H', ⟨zlo0⟩, ⟨zkr bw.out⟩, ⟨zbl HB.out⟩⟩
   ·rw [if_neg c7] at H
    have ck := beq_eq_false_iff_ne.mpr c7
    have cm := bne_iff_ne.mpr c7
    have H' := zam H
    clear H
    have p6 : 0 ≤ (0 : Int) := (by omega)
    have q6 : 0 < a0.size := (by have : (0 : Int) < (a0.size : Int) := of_decide_eq_true zas; omega)
    have cY : ∀ h : 0 < a0.size, ((a0[0]'h).toNat : Int) = bt a0 0 := bt_at a0 0
    clear p6
    have qi6 : (0 < (a0.size : Int)) = True := eq_true (of_decide_eq_true zas)
    replace q6 := eq_true q6
    have p8 : 0 ≤ (0 : Int) := (by omega)
    have q8 : 0 < a0.size := (by have : (0 : Int) < (a0.size : Int) := of_decide_eq_true zas; omega)
    have db : ∀ h : 0 < a0.size, ((a0[0]'h).toNat : Int) = bt a0 0 := bt_at a0 0
    clear p8
    have qi8 : (0 < (a0.size : Int)) = True := eq_true (of_decide_eq_true zas)
    replace q8 := eq_true q8
    go_wp2
    go_meet
    case rel => exact ⟨_, (((bt a0 0) != 123)), zrs, H', ⟨zlo0⟩, ⟨zkr bw.out⟩, ⟨zbl HB.out⟩⟩
  ·rw [if_neg c5] at H
   exact absurd H (by simp)
 case rest =>
  clear cj
  obtain ⟨kq, bp, rfl, HA, cd, HO_3, HB⟩ := hcut
  cases kq with
  | zero => exact absurd HA.out (by simp [spec_l1Parts.j0])
  | succ kj1 =>
   have H := HA.out
   clear HA
   simp only [spec_l1Parts.j0] at H
   by_cases c9 : bp = true
   ·subst c9
    rw [if_pos rfl] at H
    obtain rfl := Option.some.inj H
    go_wp2
    go_ret
    exact ⟨_, zer, by refine zkr ?_; exact HO_3.out, zbl HB.out⟩
   ·replace c9 := Bool.eq_false_iff.mpr c9
    subst c9
    rw [if_neg (show ¬ (false = true) by decide)] at H
    have H' := zam H
    clear H
    go_wp2
    (try simp only [Act.put, List.setIfInBounds_toArray, List.set_cons_zero, List.set_cons_succ])
    go_loopg [3, 4] kj1 (fun kq v3 v4 w' => ∃ (bc : List (S91)) (bd : Int), v4 = .int .i64 bd ∧ Aside0 (spec_l1Parts.l0 kq a0 bc bd = some r) ∧ Aside0 (kq ≤ kj1) ∧ Aside0 (Kd.R k91 91 w' w.heap.size (fun _ => True) v3 bc) ∧ Aside0 (Below w.heap.size w w'))
    case atStart => exact ⟨(bh), (1), zrs, H', ⟨Nat.le_refl _⟩, ⟨zkr HO_3.out⟩, ⟨zbl HB.out⟩⟩
    case round =>
     clear H'
     obtain ⟨bc, bd, rfl, HA, HK2, HO_3, HB⟩ := hrel
     cases gk with
     | zero => exact absurd HA.out (by simp [spec_l1Parts.l0])
     | succ k2 =>
      have H := HA.out
      clear HA
      simp only [spec_l1Parts.l0] at H
      by_cases bB : bd < (wrap64 ((a0.size : Int) - 1))
      ·rw [if_pos bB] at H
       have bF := decide_eq_true bB
       clear bB
       replace H := Option.bind_eq_some_iff.mp H
       obtain ⟨bk, bG, H⟩ := H
       have cn := zam bG
       clear bG
       by_cases cf : 0 < (a0.size : Int)
       ·rw [if_pos cf] at H
        have cC := decide_eq_true cf
        have cD : decide (0 < a0.size) = true := decide_eq_true (by omega)
        clear cf
        by_cases bx : (bt a0 0) = 123
        ·rw [if_pos bx] at H
         have bH := beq_iff_eq.mpr bx
         have bJ := bne_eq_false_iff_eq.mpr bx
         clear bx
         replace H := Option.bind_eq_some_iff.mp H
         obtain ⟨⟨bs, bz, cp⟩, bK, H⟩ := H
         try dsimp only at H
         have cF := zam bK
         clear bK
         replace H := Option.bind_eq_some_iff.mp H
         obtain ⟨bb, bL, H⟩ := H
         have cG := zam bL
         clear bL
         obtain ⟨bg, bj⟩ : ∃ j_ : Int, (wrap64 (bz + 1)) = j_ := ⟨_, rfl⟩
         replace H : (if 0 ≤ (bg) then (if (bg) ≤ bb then (if bb ≤ (a0.size : Int) then (if bc.length < 4398046511104 then (spec_l1Parts.l0 k2 a0 (bc ++ [(⟨bs, a0.extract ((bg) : Int).toNat (bb : Int).toNat⟩ : S91)]) (wrap64 (bb + 1))) else (none)) else (none)) else (none)) else (none)) = some r := by first | (rw [bj] at H; exact H) | (simp only [bj] at H ⊢; exact H)
         (try rw [bj] at cn)
         (try rw [bj] at cF)
         (try rw [bj] at cG)
         have cq : (IntKind.i64.wrap (bz + 1)) = bg := (i64_w _).trans bj
         by_cases bM : 0 ≤ (bg)
         ·rw [if_pos bM] at H
          have cH := eq_true bM
          have cJ := decide_eq_true bM
          clear bM
          by_cases bN : (bg) ≤ bb
          ·rw [if_pos bN] at H
           have cK := eq_true bN
           have cL := decide_eq_true bN
           clear bN
           by_cases bP : bb ≤ (a0.size : Int)
           ·rw [if_pos bP] at H
            have cM := eq_true bP
            have cN := decide_eq_true bP
            clear bP
            by_cases cg : bc.length < 4398046511104
            ·rw [if_pos cg] at H
             have bQ := zam cg
             clear cg
             obtain ⟨cr, bq⟩ : ∃ y_ : List (S91), y_ = (bc ++ [(⟨bs, a0.extract ((bg) : Int).toNat (bb : Int).toNat⟩ : S91)]) := ⟨_, rfl⟩
             first | rw [Option.bind_some, ← bq] at H | rw [← bq] at H
             have bR := zam bq
             clear bq
             have H' := zam H
             clear H
             obtain ⟨ct, cv, eo22⟩ := Kd.R_slice HO_3.out
             subst eo22
             go_wp2_with (first | ((with_reducible refine gate_callee (f := 84) rfl ?_); refine goesL_ (some 27) rfl rfl Tryz.func84 (by kernel_rfl) rfl #[.int .i64 (bc.length : Int)] rfl zar ?_; (with_reducible refine (spec_l1Dec.calls (bc.length : Int) bk _ cn.out).mono ?_); rintro e dc ⟨rfl, hb⟩; refine ⟨_, rfl, ?_⟩; replace HO_3 := zam (Kd.R_below (zkr HO_3.out) hb); replace HB := zam (below_step (zbl HB.out) hb); (try clear hb); (try clear hb2); (try clear hk); (try clear hi); have cw : 0 ≤ (0 : Int) := (by omega); have bS : 0 < a0.size := (by have : (0 : Int) < (a0.size : Int) := of_decide_eq_true zas; omega); have cx : ∀ h : 0 < a0.size, ((a0[0]'h).toNat : Int) = bt a0 0 := bt_at a0 0; clear cw; have qi13 : (0 < (a0.size : Int)) = True := eq_true (of_decide_eq_true zas); replace bS := eq_true bS) | ((with_reducible refine gate_callee (f := 40) rfl ?_); refine goesL_ (some 34) rfl rfl Tryz.func40 (by kernel_rfl) rfl #[.string a0, .int .i64 bd] rfl zar ?_; (with_reducible refine (spec_l1String.calls a0 bd bs bz cp _ cF.out).mono ?_); rintro e dd ⟨rfl, hb⟩; refine ⟨_, rfl, ?_⟩; replace HO_3 := zam (Kd.R_below (zkr HO_3.out) hb); replace HB := zam (below_step (zbl HB.out) hb); (try clear hb); (try clear hb2); (try clear hk); (try clear hi)) | ((with_reducible refine gate_callee (f := 85) rfl ?_); refine goesL_ (some 43) rfl rfl Tryz.func85 (by kernel_rfl) rfl #[.string a0, .int .i64 bg] rfl (by (try simp only [List.map_toArray, List.map_cons, List.map_nil]); first | done | (simp only [bj]; rfl) | rfl | (simp only [List.length_drop, List.length_take]; rfl)) ?_; (with_reducible refine (spec_l1End.calls k2 a0 bg bb _ cG.out).mono ?_); rintro e df ⟨rfl, hb⟩; refine ⟨_, rfl, ?_⟩; replace HO_3 := zam (Kd.R_below (zkr HO_3.out) hb); replace HB := zam (below_step (zbl HB.out) hb); (try clear hb); (try clear hb2); (try clear hk); (try clear hi)) | ((with_reducible refine gate_builtin (b := .append) (xs := #[.tmp 44, .tmp 51]) rfl ?_); at_builtin; refine Kd.R_append k91 (w0 := w) w.heap.size rfl (.tmp 44) (.tmp 51) 88 91 (.agg #[(.string ⟨#[]⟩), (.string ⟨#[]⟩)]) 32 rfl Tryz.underlying88 info91 rfl (by decide) (by omega) (.slice ct bc.length cv) bc (⟨bs, a0.extract ((bg) : Int).toNat (bb : Int).toNat⟩ : S91) [.string bs, .string (a0.extract ((bg) : Int).toNat (bb : Int).toNat)] (fun _ => True) (fun _ => False) rfl rfl ?aP (fun _ hk => hk.elim) ?aF ?aO ?aB ?aS ?aL ?_; (case aP => exact k91_mkM _ _ _ (⟨bs, a0.extract ((bg) : Int).toNat (bb : Int).toNat⟩ : S91)); (case aB => exact (zbl HB.out)); (case aF => exact (fun _ _ => trivial)); (case aO => exact (zkr HO_3.out)); (case aS => exact (below_size (zbl HB.out))); (case aL => have := bQ.out; omega); intro v234 dg ho hb hg hat; rw [← bR.out] at ho; have bT := zam (ho); replace HB := zam (hb); clear HO_3; clear ho hb hg hat))
             go_roundg k2
             case measure => have := cd.out; have := HK2.out; omega
             case rel => exact ⟨(cr), (wrap64 (bb + 1)), zrs, H', ⟨zlo2 cd.out HK2.out⟩, ⟨zkr bT.out⟩, ⟨zbl HB.out⟩⟩
            ·rw [if_neg cg] at H
             exact absurd H (by simp)
           ·rw [if_neg bP] at H
            exact absurd H (by simp)
          ·rw [if_neg bN] at H
           exact absurd H (by simp)
         ·rw [if_neg bM] at H
          exact absurd H (by simp)
        ·rw [if_neg bx] at H
         have bH := beq_eq_false_iff_ne.mpr bx
         have bJ := bne_iff_ne.mpr bx
         replace H := Option.bind_eq_some_iff.mp H
         obtain ⟨bf, bV, H⟩ := H
         have cZ := zam bV
         clear bV
         by_cases bW : 0 ≤ bd
         ·rw [if_pos bW] at H
          have cP := eq_true bW
          have cQ := decide_eq_true bW
          clear bW
          by_cases bX : bd ≤ bf
          ·rw [if_pos bX] at H
           have cR := eq_true bX
           have cS := decide_eq_true bX
           clear bX
           by_cases bY : bf ≤ (a0.size : Int)
           ·rw [if_pos bY] at H
            have cT := eq_true bY
            have cV := decide_eq_true bY
            clear bY
            by_cases ch : bc.length < 4398046511104
            ·rw [if_pos ch] at H
             have bZ := zam ch
             clear ch
             obtain ⟨cy, br⟩ : ∃ y_ : List (S91), y_ = (bc ++ [(⟨bk, a0.extract (bd : Int).toNat (bf : Int).toNat⟩ : S91)]) := ⟨_, rfl⟩
             first | rw [Option.bind_some, ← br] at H | rw [← br] at H
             have cb := zam br
             clear br
             have H' := zam H
             clear H
             obtain ⟨cz, cB, eo32⟩ := Kd.R_slice HO_3.out
             subst eo32
             go_wp2_with (first | ((with_reducible refine gate_callee (f := 84) rfl ?_); refine goesL_ (some 27) rfl rfl Tryz.func84 (by kernel_rfl) rfl #[.int .i64 (bc.length : Int)] rfl zar ?_; (with_reducible refine (spec_l1Dec.calls (bc.length : Int) bk _ cn.out).mono ?_); rintro e dh ⟨rfl, hb⟩; refine ⟨_, rfl, ?_⟩; replace HO_3 := zam (Kd.R_below (zkr HO_3.out) hb); replace HB := zam (below_step (zbl HB.out) hb); (try clear hb); (try clear hb2); (try clear hk); (try clear hi); have cw : 0 ≤ (0 : Int) := (by omega); have bS : 0 < a0.size := (by have : (0 : Int) < (a0.size : Int) := of_decide_eq_true zas; omega); have cx : ∀ h : 0 < a0.size, ((a0[0]'h).toNat : Int) = bt a0 0 := bt_at a0 0; clear cw; have qi13 : (0 < (a0.size : Int)) = True := eq_true (of_decide_eq_true zas); replace bS := eq_true bS) | ((with_reducible refine gate_callee (f := 85) rfl ?_); refine goesL_ (some 43) rfl rfl Tryz.func85 (by kernel_rfl) rfl #[.string a0, .int .i64 bd] rfl zar ?_; (with_reducible refine (spec_l1End.calls k2 a0 bd bf _ cZ.out).mono ?_); rintro e dj ⟨rfl, hb⟩; refine ⟨_, rfl, ?_⟩; replace HO_3 := zam (Kd.R_below (zkr HO_3.out) hb); replace HB := zam (below_step (zbl HB.out) hb); (try clear hb); (try clear hb2); (try clear hk); (try clear hi)) | ((with_reducible refine gate_builtin (b := .append) (xs := #[.tmp 44, .tmp 51]) rfl ?_); at_builtin; refine Kd.R_append k91 (w0 := w) w.heap.size rfl (.tmp 44) (.tmp 51) 88 91 (.agg #[(.string ⟨#[]⟩), (.string ⟨#[]⟩)]) 32 rfl Tryz.underlying88 info91 rfl (by decide) (by omega) (.slice cz bc.length cB) bc (⟨bk, a0.extract (bd : Int).toNat (bf : Int).toNat⟩ : S91) [.string bk, .string (a0.extract (bd : Int).toNat (bf : Int).toNat)] (fun _ => True) (fun _ => False) rfl rfl ?aP (fun _ hk => hk.elim) ?aF ?aO ?aB ?aS ?aL ?_; (case aP => exact k91_mkM _ _ _ (⟨bk, a0.extract (bd : Int).toNat (bf : Int).toNat⟩ : S91)); (case aB => exact (zbl HB.out)); (case aF => exact (fun _ _ => trivial)); (case aO => exact (zkr HO_3.out)); (case aS => exact (below_size (zbl HB.out))); (case aL => have := bZ.out; omega); intro v238 dk ho hb hg hat; rw [← cb.out] at ho; have cc := zam (ho); replace HB := zam (hb); clear HO_3; clear ho hb hg hat))
             go_roundg k2
             case measure => have := cd.out; have := HK2.out; omega
             case rel => exact ⟨(cy), (wrap64 (bf + 1)), zrs, H', ⟨zlo2 cd.out HK2.out⟩, ⟨zkr cc.out⟩, ⟨zbl HB.out⟩⟩
            ·rw [if_neg ch] at H
             exact absurd H (by simp)
           ·rw [if_neg bY] at H
            exact absurd H (by simp)
          ·rw [if_neg bX] at H
           exact absurd H (by simp)
         ·rw [if_neg bW] at H
          exact absurd H (by simp)
       ·rw [if_neg cf] at H
        exact absurd H (by simp)
      ·rw [if_neg bB] at H
       have bF := decide_eq_false bB
       clear bB
       obtain rfl := Option.some.inj H
       go_wp2
       go_ret
       exact ⟨_, zer, by refine zkr ?_; exact HO_3.out, zbl HB.out⟩
end
end Go.Proofs.YtbonodglnilkfaaGreatDoor.PJt
