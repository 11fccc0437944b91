-- Printed
import Derived.Test.YtndagnkhjlgjgaaGreatDoorPJsx1
namespace Go.Proofs.YtndagnkhjlgjgaaGreatDoor.PJs
open Go.RowKit YtndagnkhjlgjgaaGreatDoorW.PrintWords YtndagnkhjlgjgaaGreatDoorW.PrintLast YtndagnkhjlgjgaaGreatDoorW.PrintMore
attribute [local go_sem] max2_int min2_int max_two min_two max_three min_three max_four min_four
set_option linter.unusedVariables false
set_option linter.unusedSimpArgs false
mutual
def spec_l1Quoted.l0 : Nat → ByteArray → ByteArray → List Int → Int → Option (ByteArray)
 | 0, _, _, _, _ => none
 | k + 1, x0, x3, x4, x5 => if x5 < (x0.size : Int) then (if 0 ≤ x5 then (if (bt x0 x5) = 34 then (spec_l1Quoted.j1 k x0 x3 x4 x5 (bt x0 x5) true) else (spec_l1Quoted.j1 k x0 x3 x4 x5 (bt x0 x5) ((bt x0 x5) == 92))) else (none)) else (if x4.length < 140737488355328 then (some (strOfNums (x4 ++ [34]))) else (none))
def spec_l1Quoted.j1 : Nat → ByteArray → ByteArray → List Int → Int → Int → Bool → Option (ByteArray)
 | 0, _, _, _, _, _, _ => none
 | k + 1, x0, x3, x4, x5, x6, hW => if hW = true then ((some (([92, x6] : List Int) : List Int)).bind fun cy => (if x4.length + cy.length < 140737488355328 then (spec_l1Quoted.l0 k x0 x3 (x4 ++ cy) (wrap64 (x5 + 1))) else (none))) else (if x6 = 8 then ((some (([92, 98] : List Int) : List Int)).bind fun bQ => (if x4.length + bQ.length < 140737488355328 then (spec_l1Quoted.l0 k x0 x3 (x4 ++ bQ) (wrap64 (x5 + 1))) else (none))) else (if x6 = 9 then ((some (([92, 116] : List Int) : List Int)).bind fun bR => (if x4.length + bR.length < 140737488355328 then (spec_l1Quoted.l0 k x0 x3 (x4 ++ bR) (wrap64 (x5 + 1))) else (none))) else (if x6 = 10 then ((some (([92, 110] : List Int) : List Int)).bind fun bS => (if x4.length + bS.length < 140737488355328 then (spec_l1Quoted.l0 k x0 x3 (x4 ++ bS) (wrap64 (x5 + 1))) else (none))) else (if x6 = 12 then ((some (([92, 102] : List Int) : List Int)).bind fun bT => (if x4.length + bT.length < 140737488355328 then (spec_l1Quoted.l0 k x0 x3 (x4 ++ bT) (wrap64 (x5 + 1))) else (none))) else (if x6 = 13 then ((some (([92, 114] : List Int) : List Int)).bind fun bV => (if x4.length + bV.length < 140737488355328 then (spec_l1Quoted.l0 k x0 x3 (x4 ++ bV) (wrap64 (x5 + 1))) else (none))) else (if x6 < 32 then (if 0 ≤ ((Int.tdiv x6 16) % 256) then (if ((Int.tdiv x6 16) % 256) < (x3.size : Int) then (if 0 ≤ (Int.tmod x6 16) then (if (Int.tmod x6 16) < (x3.size : Int) then ((some (([92, 117, 48, 48, bt x3 ((Int.tdiv x6 16) % 256), bt x3 (Int.tmod x6 16)] : List Int) : List Int)).bind fun bz => (if x4.length + bz.length < 140737488355328 then (spec_l1Quoted.l0 k x0 x3 (x4 ++ bz) (wrap64 (x5 + 1))) else (none))) else (none)) else (none)) else (none)) else (none)) else (if x4.length < 140737488355328 then (spec_l1Quoted.l0 k x0 x3 (x4 ++ [x6]) (wrap64 (x5 + 1))) else (none))))))))
end
def spec_l1Quoted.f (k : Nat) (a0 : ByteArray) : Option (ByteArray) := spec_l1Quoted.l0 k a0 (⟨#[48, 49, 50, 51, 52, 53, 54, 55, 56, 57, 97, 98, 99, 100, 101, 102]⟩ : ByteArray) (([34] : List Int)) 0
def spec_l1Quoted.T20 : Bool × List (List Nat × List Nat) := (true, [([], []), ([], []), ([], []), ([2], [2]), ([1, 3], [1, 3]), ([], []), ([], []), ([6], [6]), ([5, 7], [5, 7]), ([4, 8], [4, 8]), ([0, 9], [0, 9]), ([10, 10, 0, 1, 2, 3, 4, 5, 6, 7, 8, 9, 10], [0, 10])])
def spec_l1Quoted.B20 : List Nat := [0, 0, 0, 4, 14, 0, 0, 64, 224, 510, 1023, 2047]
theorem spec_l1Quoted.tab20 : rtab .any (opsOf Tryz.f93 20) = spec_l1Quoted.T20 := by kernel_rfl
theorem spec_l1Quoted.bits20 : waitsOk spec_l1Quoted.T20.2 spec_l1Quoted.B20 = true := by kernel_rfl
set_option maxHeartbeats 8000000 in
set_option maxRecDepth 100000 in
theorem spec_l1Quoted.calls (k : Nat) (a0 : ByteArray) (r : ByteArray) (w : World) (h : spec_l1Quoted.f k a0 = some r) :
  Calls Tryz.prog 93 #[.string a0] w fun e w' => e = .returned (.string r) ∧ Below w.heap.size w w' := by
 have HB := zam (Below.refl w.heap.size w); have H : (spec_l1Quoted.l0 k a0 (⟨#[48, 49, 50, 51, 52, 53, 54, 55, 56, 57, 97, 98, 99, 100, 101, 102]⟩ : ByteArray) (([34] : List Int)) 0) = some r := h; clear h
 obtain ⟨fw, cb⟩ : ∃ y_ : List Int, y_ = (([34] : List Int)) := ⟨_, rfl⟩
 replace H : (spec_l1Quoted.l0 k a0 (⟨#[48, 49, 50, 51, 52, 53, 54, 55, 56, 57, 97, 98, 99, 100, 101, 102]⟩ : ByteArray) fw 0) = some r := by first | (rw [cb]; with_reducible exact H) | (have H2_ := (Option.bind_some _ _).symm.trans H; rw [cb]; with_reducible exact H2_) | (have H2_ := (Option.bind_some _ _).symm.trans H; with_reducible exact H2_) | with_reducible exact H | (rw [cb]; exact H) | exact H
 have dT := zam cb; clear cb; have H' := zam H; clear H
 go_enter Tryz.func93, Tryz.ntmps93
 go_wp2_with (first | ((with_reducible refine gate_dst (N := 7) rfl ?_); refine Kd.R_lit (Kd.int .u8) _ 5 ?hg (N := 7) ?hd (xs := ([34] : List Int)) (inner := [.int .u8 34]) (ok := fun _ => True) (okp := fun _ => True) ?hr ?hp (fun _ hk => hk) trivial (Below.refl _ _) (Nat.le_refl _) (by simp) ?_; (case hd => rfl); (case hg => rfl); (case hr => first | (go_simp; done) | (go_simp; rfl)); (case hp => exact (Reps.one (show Kd.M (Kd.int .u8) _ _ _ 34 [.int .u8 34] from rfl) (Reps.none _ _))); intro v143 w2 bJ hb hg_ hnew_; clear hg_ hnew_; (first | rw [← dT.out] at bJ | (simp only [Int.reduceToNat] at bJ; rw [← dT.out] at bJ)); have fx := zam (Kd.R_lower bJ (below_size (zbl HB.out))); replace HB := zam (below_step (zbl HB.out) hb); clear hb bJ))
 go_loopg [4, 5] k (fun kq v4 v5 w' => ∃ (bg : List Int) (bj : Int), v5 = .int .i64 bj ∧ Aside0 (spec_l1Quoted.l0 kq a0 (⟨#[48, 49, 50, 51, 52, 53, 54, 55, 56, 57, 97, 98, 99, 100, 101, 102]⟩ : ByteArray) bg bj = some r) ∧ Aside0 (kq ≤ k) ∧ Aside0 (Kd.R (Kd.int .u8) 5 w' w.heap.size (fun _ => True) v4 bg) ∧ Aside0 (Below w.heap.size w w'))
 case atStart => exact ⟨(fw), (0), zrs, H', ⟨Nat.le_refl _⟩, ⟨zkr fx.out⟩, ⟨zbl HB.out⟩⟩
 case round =>
  clear H'; obtain ⟨bg, bj, rfl, HA, HK1, HO_4, HB⟩ := hrel
  cases gk with
  | zero => exact absurd HA.out (by simp [spec_l1Quoted.l0])
  | succ k1 =>
   have H := HA.out; clear HA
   simp only [spec_l1Quoted.l0] at H
   by_cases c4 : bj < (a0.size : Int)
   ·rw [if_pos c4] at H
    have dy := decide_eq_true c4; clear c4
    by_cases c5 : 0 ≤ bj
    ·rw [if_pos c5] at H
     have fy := decide_eq_true c5; clear c5; have gR := zam H; clear H; have p6 := zet (0 ≤ (bj : Int)); have q6 := zet (bj < (a0.size : Int)); have jg := bt_at a0 bj
     go_upto_region 7 with (fail)
     go_cut [22] (fun v22 wc => ∃ (kq : Nat) (cF : Bool), v22 = .bool cF ∧ Aside0 (spec_l1Quoted.j1 kq a0 (⟨#[48, 49, 50, 51, 52, 53, 54, 55, 56, 57, 97, 98, 99, 100, 101, 102]⟩ : ByteArray) bg bj (bt a0 bj) cF = some r) ∧ Aside0 (kq ≤ k1) ∧ Aside0 (Kd.R (Kd.int .u8) 5 wc w.heap.size (fun _ => True) u4 bg) ∧ Aside0 (Below w.heap.size w wc))
     case first =>
      have H := gR.out; clear gR
      by_cases c8 : (bt a0 bj) = 34
      ·rw [if_pos c8] at H
       have dz := beq_iff_eq.mpr c8; have gS := bne_eq_false_iff_eq.mpr c8; clear c8
       (first | rw [dz] | (simp only [i64_w, i32_w, IntKind.wrap_u8, IntKind.wrap_u32]; rw [dz]) | skip)
       have H' := zam H; clear H
       go_wp2
       go_meet
       case rel => exact ⟨_, (true), zrs, H', ⟨zlo HK1.out⟩, ⟨zkr HO_4.out⟩, ⟨zbl HB.out⟩⟩
      ·rw [if_neg c8] at H
       have dz := beq_eq_false_iff_ne.mpr c8; have gS := bne_iff_ne.mpr c8
       (first | rw [dz] | (simp only [i64_w, i32_w, IntKind.wrap_u8, IntKind.wrap_u32]; rw [dz]) | skip)
       have H' := zam H; clear H
       go_wp2
       go_meet
       case rel => exact ⟨_, (((bt a0 bj) == 92)), zrs, H', ⟨zlo HK1.out⟩, ⟨zkr HO_4.out⟩, ⟨zbl HB.out⟩⟩
     case rest =>
      clear gR; obtain ⟨kq, cF, rfl, HA, cx, HO_4, HB⟩ := hcut
      cases kq with
      | zero => exact absurd HA.out (by simp [spec_l1Quoted.j1])
      | succ kj6 =>
       have H := HA.out; clear HA
       simp only [spec_l1Quoted.j1] at H
       by_cases c9 : cF = true
       ·subst c9
        rw [if_pos rfl] at H
        obtain ⟨cy, cG⟩ : ∃ y_ : List Int, y_ = (([92, (bt a0 bj)] : List Int)) := ⟨_, rfl⟩
        first | rw [Option.bind_some, ← cG] at H | rw [← cG] at H
        have dV := zam cG; clear cG
        by_cases dR : bg.length + cy.length < 140737488355328
        ·rw [if_pos dR] at H
         have fz := zam dR; clear dR
         obtain ⟨gT, cH⟩ : ∃ y_ : List Int, y_ = (bg ++ cy) := ⟨_, rfl⟩
         first | rw [Option.bind_some, ← cH] at H | rw [← cH] at H
         have fB := zam cH; clear cH; have H' := zam H; clear H
         go_wp2_with (first | ((with_reducible refine gate_dst (N := 25) rfl ?_); refine Kd.R_lit (Kd.int .u8) _ 5 ?hg (N := 25) ?hd (xs := ([92, (bt a0 bj)] : List Int)) (inner := [.int .u8 92, .int .u8 (bt a0 bj)]) (ok := fun _ => True) (okp := fun _ => True) ?hr ?hp (fun _ hk => hk) trivial (Below.refl _ _) (Nat.le_refl _) (by simp) ?_; (case hd => rfl); (case hg => rfl); (case hr => first | (go_simp; done) | (go_simp; rfl)); (case hp => exact (Reps.one (show Kd.M (Kd.int .u8) _ _ _ 92 [.int .u8 92] from rfl) (Reps.one (show Kd.M (Kd.int .u8) _ _ _ (bt a0 bj) [.int .u8 (bt a0 bj)] from rfl) (Reps.none _ _)))); intro v149 jh dm hb hg_ hnew_; clear hg_ hnew_; (first | rw [← dV.out] at dm | (simp only [Int.reduceToNat] at dm; rw [← dV.out] at dm)); have cc := zam (Kd.R_lower (Kd.R_new' dm (Kd.R_lt (zkr HO_4.out))) (below_size (zbl HB.out))); replace HO_4 := zam (Kd.R_elder' (zkr HO_4.out) (Kd.R_base dm) hb); replace HB := zam (below_step (zbl HB.out) hb); clear hb dm; obtain ⟨gV, gW, eo14⟩ := Kd.R_slice cc.out; subst eo14) | ((with_reducible refine gate_builtin (b := .append) (xs := #[.tmp 23, .tmp 25]) rfl ?_); at_builtin; refine Kd.R_append_rows (Kd.int .u8) (w0 := w) w.heap.size rfl (.tmp 23) (.tmp 25) 44 5 (.int .u8 0) 1 rfl Tryz.underlying44 info5 rfl (by decide) (by omega) u4 bg cy _ _ _ (fun k_ => some k_ ≠ (.slice gV cy.length gW : Value).ownBlock) (fun _ => False) rfl rfl ?aO ?aR (fun _ _ h => h) (fun _ h => h.elim) ?aF ?aB ?aS ?aL ?_; (case aR => repeat (first | exact (Kd.R_reads' cc.out).2.2 | (with_reducible refine Kd.C_alloc ?_ _) | (with_reducible refine Kd.C_drewN ?_ _) | (with_reducible refine Kd.C_drew ?_))); (case aB => exact (zbl HB.out)); (case aF => exact (fun k_ hk => Kd.fresh' (Kd.R_lt (zkr cc.out)) k_ hk)); (case aO => exact (by refine zkr ?_; exact Kd.R_mono HO_4.out (fun _ hk => hk.2))); (case aS => exact (below_size (zbl HB.out))); (case aL => have := fz.out; omega); intro v152 jj ho hb hg hat; rw [← fB.out] at ho; have fC := zam (ho); replace cc := zam (Kd.R_after (ok := (fun _ => True)) (zkr cc.out) hg hat); replace HB := zam (hb); clear HO_4; clear ho hb hg hat))
         go_roundg kj6
         case measure => have := HK1.out; have := cx.out; omega
         case rel => exact ⟨(gT), (wrap64 (bj + 1)), zrs, H', ⟨zlo2 HK1.out cx.out⟩, ⟨by refine zkr ?_; exact Kd.R_mono fC.out (fun _ hk => trivial)⟩, ⟨zbl HB.out⟩⟩
        ·rw [if_neg dR] at H
         exact absurd H (by simp)
       ·replace c9 := Bool.eq_false_iff.mpr c9
        subst c9; rw [if_neg (show ¬ (false = true) by decide)] at H
        by_cases cJ : (bt a0 bj) = 8
        ·rw [if_pos cJ] at H
         have dB := beq_iff_eq.mpr cJ; have fD := bne_eq_false_iff_eq.mpr cJ; clear cJ
         obtain ⟨bQ, cd⟩ : ∃ y_ : List Int, y_ = (([92, 98] : List Int)) := ⟨_, rfl⟩
         replace H : (if bg.length + bQ.length < 140737488355328 then (spec_l1Quoted.l0 kj6 a0 (⟨#[48, 49, 50, 51, 52, 53, 54, 55, 56, 57, 97, 98, 99, 100, 101, 102]⟩ : ByteArray) (bg ++ bQ) (wrap64 (bj + 1))) else (none)) = some r := by first | (rw [cd]; with_reducible exact H) | (have H2_ := (Option.bind_some _ _).symm.trans H; rw [cd]; with_reducible exact H2_) | (have H2_ := (Option.bind_some _ _).symm.trans H; with_reducible exact H2_) | with_reducible exact H | (rw [cd]; exact H) | exact H
         have dW := zam cd; clear cd
         by_cases gy : bg.length + bQ.length < 140737488355328
         ·rw [if_pos gy] at H
          have fF := zam gy; clear gy
          obtain ⟨gX, cK⟩ : ∃ y_ : List Int, y_ = (bg ++ bQ) := ⟨_, rfl⟩
          first | rw [Option.bind_some, ← cK] at H | rw [← cK] at H
          have fG := zam cK; clear cK; have H' := zam H; clear H
          go_wp2_with (first | ((with_reducible refine gate_dst (N := 30) rfl ?_); refine Kd.R_lit (Kd.int .u8) _ 5 ?hg (N := 30) ?hd (xs := ([92, 98] : List Int)) (inner := [.int .u8 92, .int .u8 98]) (ok := fun _ => True) (okp := fun _ => True) ?hr ?hp (fun _ hk => hk) trivial (Below.refl _ _) (Nat.le_refl _) (by simp) ?_; (case hd => rfl); (case hg => rfl); (case hr => first | (go_simp; done) | (go_simp; rfl)); (case hp => exact (Reps.one (show Kd.M (Kd.int .u8) _ _ _ 92 [.int .u8 92] from rfl) (Reps.one (show Kd.M (Kd.int .u8) _ _ _ 98 [.int .u8 98] from rfl) (Reps.none _ _)))); intro v155 jk dn hb hg_ hnew_; clear hg_ hnew_; (first | rw [← dW.out] at dn | (simp only [Int.reduceToNat] at dn; rw [← dW.out] at dn)); have cf := zam (Kd.R_lower (Kd.R_new' dn (Kd.R_lt (zkr HO_4.out))) (below_size (zbl HB.out))); replace HO_4 := zam (Kd.R_elder' (zkr HO_4.out) (Kd.R_base dn) hb); replace HB := zam (below_step (zbl HB.out) hb); clear hb dn; obtain ⟨gY, gZ, eo20⟩ := Kd.R_slice cf.out; subst eo20) | ((with_reducible refine gate_builtin (b := .append) (xs := #[.tmp 29, .tmp 30]) rfl ?_); at_builtin; refine Kd.R_append_rows (Kd.int .u8) (w0 := w) w.heap.size rfl (.tmp 29) (.tmp 30) 44 5 (.int .u8 0) 1 rfl Tryz.underlying44 info5 rfl (by decide) (by omega) u4 bg bQ _ _ _ (fun k_ => some k_ ≠ (.slice gY bQ.length gZ : Value).ownBlock) (fun _ => False) rfl rfl ?aO ?aR (fun _ _ h => h) (fun _ h => h.elim) ?aF ?aB ?aS ?aL ?_; (case aR => repeat (first | exact (Kd.R_reads' cf.out).2.2 | (with_reducible refine Kd.C_alloc ?_ _) | (with_reducible refine Kd.C_drewN ?_ _) | (with_reducible refine Kd.C_drew ?_))); (case aB => exact (zbl HB.out)); (case aF => exact (fun k_ hk => Kd.fresh' (Kd.R_lt (zkr cf.out)) k_ hk)); (case aO => exact (by refine zkr ?_; exact Kd.R_mono HO_4.out (fun _ hk => hk.2))); (case aS => exact (below_size (zbl HB.out))); (case aL => have := fF.out; omega); intro v158 jm ho hb hg hat; rw [← fG.out] at ho; have fH := zam (ho); replace cf := zam (Kd.R_after (ok := (fun _ => True)) (zkr cf.out) hg hat); replace HB := zam (hb); clear HO_4; clear ho hb hg hat))
          go_roundg kj6
          case measure => have := HK1.out; have := cx.out; omega
          case rel => exact ⟨(gX), (wrap64 (bj + 1)), zrs, H', ⟨zlo2 HK1.out cx.out⟩, ⟨by refine zkr ?_; exact Kd.R_mono fH.out (fun _ hk => trivial)⟩, ⟨zbl HB.out⟩⟩
         ·rw [if_neg gy] at H
          exact absurd H (by simp)
        ·rw [if_neg cJ] at H
         have dB := beq_eq_false_iff_ne.mpr cJ; have fD := bne_iff_ne.mpr cJ
         by_cases fh : (bt a0 bj) = 9
         ·rw [if_pos fh] at H
          have fJ := beq_iff_eq.mpr fh; have fK := bne_eq_false_iff_eq.mpr fh; clear fh
          obtain ⟨bR, cg⟩ : ∃ y_ : List Int, y_ = (([92, 116] : List Int)) := ⟨_, rfl⟩
          replace H : (if bg.length + bR.length < 140737488355328 then (spec_l1Quoted.l0 kj6 a0 (⟨#[48, 49, 50, 51, 52, 53, 54, 55, 56, 57, 97, 98, 99, 100, 101, 102]⟩ : ByteArray) (bg ++ bR) (wrap64 (bj + 1))) else (none)) = some r := by first | (rw [cg]; with_reducible exact H) | (have H2_ := (Option.bind_some _ _).symm.trans H; rw [cg]; with_reducible exact H2_) | (have H2_ := (Option.bind_some _ _).symm.trans H; with_reducible exact H2_) | with_reducible exact H | (rw [cg]; exact H) | exact H
          have dX := zam cg; clear cg
          by_cases gz : bg.length + bR.length < 140737488355328
          ·rw [if_pos gz] at H
           have fL := zam gz; clear gz
           obtain ⟨hc, cL⟩ : ∃ y_ : List Int, y_ = (bg ++ bR) := ⟨_, rfl⟩
           first | rw [Option.bind_some, ← cL] at H | rw [← cL] at H
           have fM := zam cL; clear cL; have H' := zam H; clear H
           go_wp2_with (first | ((with_reducible refine gate_dst (N := 35) rfl ?_); refine Kd.R_lit (Kd.int .u8) _ 5 ?hg (N := 35) ?hd (xs := ([92, 116] : List Int)) (inner := [.int .u8 92, .int .u8 116]) (ok := fun _ => True) (okp := fun _ => True) ?hr ?hp (fun _ hk => hk) trivial (Below.refl _ _) (Nat.le_refl _) (by simp) ?_; (case hd => rfl); (case hg => rfl); (case hr => first | (go_simp; done) | (go_simp; rfl)); (case hp => exact (Reps.one (show Kd.M (Kd.int .u8) _ _ _ 92 [.int .u8 92] from rfl) (Reps.one (show Kd.M (Kd.int .u8) _ _ _ 116 [.int .u8 116] from rfl) (Reps.none _ _)))); intro v161 jn dp hb hg_ hnew_; clear hg_ hnew_; (first | rw [← dX.out] at dp | (simp only [Int.reduceToNat] at dp; rw [← dX.out] at dp)); have ch := zam (Kd.R_lower (Kd.R_new' dp (Kd.R_lt (zkr HO_4.out))) (below_size (zbl HB.out))); replace HO_4 := zam (Kd.R_elder' (zkr HO_4.out) (Kd.R_base dp) hb); replace HB := zam (below_step (zbl HB.out) hb); clear hb dp; obtain ⟨hf, hh, eo26⟩ := Kd.R_slice ch.out; subst eo26) | ((with_reducible refine gate_builtin (b := .append) (xs := #[.tmp 34, .tmp 35]) rfl ?_); at_builtin; refine Kd.R_append_rows (Kd.int .u8) (w0 := w) w.heap.size rfl (.tmp 34) (.tmp 35) 44 5 (.int .u8 0) 1 rfl Tryz.underlying44 info5 rfl (by decide) (by omega) u4 bg bR _ _ _ (fun k_ => some k_ ≠ (.slice hf bR.length hh : Value).ownBlock) (fun _ => False) rfl rfl ?aO ?aR (fun _ _ h => h) (fun _ h => h.elim) ?aF ?aB ?aS ?aL ?_; (case aR => repeat (first | exact (Kd.R_reads' ch.out).2.2 | (with_reducible refine Kd.C_alloc ?_ _) | (with_reducible refine Kd.C_drewN ?_ _) | (with_reducible refine Kd.C_drew ?_))); (case aB => exact (zbl HB.out)); (case aF => exact (fun k_ hk => Kd.fresh' (Kd.R_lt (zkr ch.out)) k_ hk)); (case aO => exact (by refine zkr ?_; exact Kd.R_mono HO_4.out (fun _ hk => hk.2))); (case aS => exact (below_size (zbl HB.out))); (case aL => have := fL.out; omega); intro v164 dx ho hb hg hat; rw [← fM.out] at ho; have fN := zam (ho); replace ch := zam (Kd.R_after (ok := (fun _ => True)) (zkr ch.out) hg hat); replace HB := zam (hb); clear HO_4; clear ho hb hg hat))
           go_roundg kj6
           case measure => have := HK1.out; have := cx.out; omega
           case rel => exact ⟨(hc), (wrap64 (bj + 1)), zrs, H', ⟨zlo2 HK1.out cx.out⟩, ⟨by refine zkr ?_; exact Kd.R_mono fN.out (fun _ hk => trivial)⟩, ⟨zbl HB.out⟩⟩
          ·rw [if_neg gz] at H
           exact absurd H (by simp)
         ·rw [if_neg fh] at H
          have fJ := beq_eq_false_iff_ne.mpr fh; have fK := bne_iff_ne.mpr fh
          by_cases fj : (bt a0 bj) = 10
          ·rw [if_pos fj] at H
           have fP := beq_iff_eq.mpr fj; have fQ := bne_eq_false_iff_eq.mpr fj; clear fj
           obtain ⟨bS, cj⟩ : ∃ y_ : List Int, y_ = (([92, 110] : List Int)) := ⟨_, rfl⟩
           replace H : (if bg.length + bS.length < 140737488355328 then (spec_l1Quoted.l0 kj6 a0 (⟨#[48, 49, 50, 51, 52, 53, 54, 55, 56, 57, 97, 98, 99, 100, 101, 102]⟩ : ByteArray) (bg ++ bS) (wrap64 (bj + 1))) else (none)) = some r := by first | (rw [cj]; with_reducible exact H) | (have H2_ := (Option.bind_some _ _).symm.trans H; rw [cj]; with_reducible exact H2_) | (have H2_ := (Option.bind_some _ _).symm.trans H; with_reducible exact H2_) | with_reducible exact H | (rw [cj]; exact H) | exact H
           have dY := zam cj; clear cj
           by_cases gB : bg.length + bS.length < 140737488355328
           ·rw [if_pos gB] at H
            have fR := zam gB; clear gB
            obtain ⟨hj, cM⟩ : ∃ y_ : List Int, y_ = (bg ++ bS) := ⟨_, rfl⟩
            first | rw [Option.bind_some, ← cM] at H | rw [← cM] at H
            have fS := zam cM; clear cM; have H' := zam H; clear H
            go_wp2_with (first | ((with_reducible refine gate_dst (N := 40) rfl ?_); refine Kd.R_lit (Kd.int .u8) _ 5 ?hg (N := 40) ?hd (xs := ([92, 110] : List Int)) (inner := [.int .u8 92, .int .u8 110]) (ok := fun _ => True) (okp := fun _ => True) ?hr ?hp (fun _ hk => hk) trivial (Below.refl _ _) (Nat.le_refl _) (by simp) ?_; (case hd => rfl); (case hg => rfl); (case hr => first | (go_simp; done) | (go_simp; rfl)); (case hp => exact (Reps.one (show Kd.M (Kd.int .u8) _ _ _ 92 [.int .u8 92] from rfl) (Reps.one (show Kd.M (Kd.int .u8) _ _ _ 110 [.int .u8 110] from rfl) (Reps.none _ _)))); intro v167 jp dq hb hg_ hnew_; clear hg_ hnew_; (first | rw [← dY.out] at dq | (simp only [Int.reduceToNat] at dq; rw [← dY.out] at dq)); have ck := zam (Kd.R_lower (Kd.R_new' dq (Kd.R_lt (zkr HO_4.out))) (below_size (zbl HB.out))); replace HO_4 := zam (Kd.R_elder' (zkr HO_4.out) (Kd.R_base dq) hb); replace HB := zam (below_step (zbl HB.out) hb); clear hb dq; obtain ⟨hm, hq, eo32⟩ := Kd.R_slice ck.out; subst eo32) | ((with_reducible refine gate_builtin (b := .append) (xs := #[.tmp 39, .tmp 40]) rfl ?_); at_builtin; refine Kd.R_append_rows (Kd.int .u8) (w0 := w) w.heap.size rfl (.tmp 39) (.tmp 40) 44 5 (.int .u8 0) 1 rfl Tryz.underlying44 info5 rfl (by decide) (by omega) u4 bg bS _ _ _ (fun k_ => some k_ ≠ (.slice hm bS.length hq : Value).ownBlock) (fun _ => False) rfl rfl ?aO ?aR (fun _ _ h => h) (fun _ h => h.elim) ?aF ?aB ?aS ?aL ?_; (case aR => repeat (first | exact (Kd.R_reads' ck.out).2.2 | (with_reducible refine Kd.C_alloc ?_ _) | (with_reducible refine Kd.C_drewN ?_ _) | (with_reducible refine Kd.C_drew ?_))); (case aB => exact (zbl HB.out)); (case aF => exact (fun k_ hk => Kd.fresh' (Kd.R_lt (zkr ck.out)) k_ hk)); (case aO => exact (by refine zkr ?_; exact Kd.R_mono HO_4.out (fun _ hk => hk.2))); (case aS => exact (below_size (zbl HB.out))); (case aL => have := fR.out; omega); intro v170 jq ho hb hg hat; rw [← fS.out] at ho; have fT := zam (ho); replace ck := zam (Kd.R_after (ok := (fun _ => True)) (zkr ck.out) hg hat); replace HB := zam (hb); clear HO_4; clear ho hb hg hat))
            go_roundg kj6
            case measure => have := HK1.out; have := cx.out; omega
            case rel => exact ⟨(hj), (wrap64 (bj + 1)), zrs, H', ⟨zlo2 HK1.out cx.out⟩, ⟨by refine zkr ?_; exact Kd.R_mono fT.out (fun _ hk => trivial)⟩, ⟨zbl HB.out⟩⟩
           ·rw [if_neg gB] at H
            exact absurd H (by simp)
          ·rw [if_neg fj] at H
           have fP := beq_eq_false_iff_ne.mpr fj; have fQ := bne_iff_ne.mpr fj
           by_cases fk : (bt a0 bj) = 12
           ·rw [if_pos fk] at H
            have fV := beq_iff_eq.mpr fk; have fW := bne_eq_false_iff_eq.mpr fk; clear fk
            obtain ⟨bT, cm⟩ : ∃ y_ : List Int, y_ = (([92, 102] : List Int)) := ⟨_, rfl⟩
            replace H : (if bg.length + bT.length < 140737488355328 then (spec_l1Quoted.l0 kj6 a0 (⟨#[48, 49, 50, 51, 52, 53, 54, 55, 56, 57, 97, 98, 99, 100, 101, 102]⟩ : ByteArray) (bg ++ bT) (wrap64 (bj + 1))) else (none)) = some r := by first | (rw [cm]; with_reducible exact H) | (have H2_ := (Option.bind_some _ _).symm.trans H; rw [cm]; with_reducible exact H2_) | (have H2_ := (Option.bind_some _ _).symm.trans H; with_reducible exact H2_) | with_reducible exact H | (rw [cm]; exact H) | exact H
            have dZ := zam cm; clear cm
            by_cases gC : bg.length + bT.length < 140737488355328
            ·rw [if_pos gC] at H
             have fX := zam gC; clear gC
             obtain ⟨hs, cN⟩ : ∃ y_ : List Int, y_ = (bg ++ bT) := ⟨_, rfl⟩
             first | rw [Option.bind_some, ← cN] at H | rw [← cN] at H
             have fY := zam cN; clear cN; have H' := zam H; clear H
             go_wp2_with (first | ((with_reducible refine gate_dst (N := 45) rfl ?_); refine Kd.R_lit (Kd.int .u8) _ 5 ?hg (N := 45) ?hd (xs := ([92, 102] : List Int)) (inner := [.int .u8 92, .int .u8 102]) (ok := fun _ => True) (okp := fun _ => True) ?hr ?hp (fun _ hk => hk) trivial (Below.refl _ _) (Nat.le_refl _) (by simp) ?_; (case hd => rfl); (case hg => rfl); (case hr => first | (go_simp; done) | (go_simp; rfl)); (case hp => exact (Reps.one (show Kd.M (Kd.int .u8) _ _ _ 92 [.int .u8 92] from rfl) (Reps.one (show Kd.M (Kd.int .u8) _ _ _ 102 [.int .u8 102] from rfl) (Reps.none _ _)))); intro v173 jr dr hb hg_ hnew_; clear hg_ hnew_; (first | rw [← dZ.out] at dr | (simp only [Int.reduceToNat] at dr; rw [← dZ.out] at dr)); have cn := zam (Kd.R_lower (Kd.R_new' dr (Kd.R_lt (zkr HO_4.out))) (below_size (zbl HB.out))); replace HO_4 := zam (Kd.R_elder' (zkr HO_4.out) (Kd.R_base dr) hb); replace HB := zam (below_step (zbl HB.out) hb); clear hb dr; obtain ⟨ht, hv, eo38⟩ := Kd.R_slice cn.out; subst eo38) | ((with_reducible refine gate_builtin (b := .append) (xs := #[.tmp 44, .tmp 45]) rfl ?_); at_builtin; refine Kd.R_append_rows (Kd.int .u8) (w0 := w) w.heap.size rfl (.tmp 44) (.tmp 45) 44 5 (.int .u8 0) 1 rfl Tryz.underlying44 info5 rfl (by decide) (by omega) u4 bg bT _ _ _ (fun k_ => some k_ ≠ (.slice ht bT.length hv : Value).ownBlock) (fun _ => False) rfl rfl ?aO ?aR (fun _ _ h => h) (fun _ h => h.elim) ?aF ?aB ?aS ?aL ?_; (case aR => repeat (first | exact (Kd.R_reads' cn.out).2.2 | (with_reducible refine Kd.C_alloc ?_ _) | (with_reducible refine Kd.C_drewN ?_ _) | (with_reducible refine Kd.C_drew ?_))); (case aB => exact (zbl HB.out)); (case aF => exact (fun k_ hk => Kd.fresh' (Kd.R_lt (zkr cn.out)) k_ hk)); (case aO => exact (by refine zkr ?_; exact Kd.R_mono HO_4.out (fun _ hk => hk.2))); (case aS => exact (below_size (zbl HB.out))); (case aL => have := fX.out; omega); intro v176 js ho hb hg hat; rw [← fY.out] at ho; have fZ := zam (ho); replace cn := zam (Kd.R_after (ok := (fun _ => True)) (zkr cn.out) hg hat); replace HB := zam (hb); clear HO_4; clear ho hb hg hat))
             go_roundg kj6
             case measure => have := HK1.out; have := cx.out; omega
             case rel => exact ⟨(hs), (wrap64 (bj + 1)), zrs, H', ⟨zlo2 HK1.out cx.out⟩, ⟨by refine zkr ?_; exact Kd.R_mono fZ.out (fun _ hk => trivial)⟩, ⟨zbl HB.out⟩⟩
            ·rw [if_neg gC] at H
             exact absurd H (by simp)
           ·rw [if_neg fk] at H
            have fV := beq_eq_false_iff_ne.mpr fk; have fW := bne_iff_ne.mpr fk
            by_cases fm : (bt a0 bj) = 13
            ·rw [if_pos fm] at H
             have gb := beq_iff_eq.mpr fm; have gc := bne_eq_false_iff_eq.mpr fm; clear fm
             obtain ⟨bV, cp⟩ : ∃ y_ : List Int, y_ = (([92, 114] : List Int)) := ⟨_, rfl⟩
             replace H : (if bg.length + bV.length < 140737488355328 then (spec_l1Quoted.l0 kj6 a0 (⟨#[48, 49, 50, 51, 52, 53, 54, 55, 56, 57, 97, 98, 99, 100, 101, 102]⟩ : ByteArray) (bg ++ bV) (wrap64 (bj + 1))) else (none)) = some r := by first | (rw [cp]; with_reducible exact H) | (have H2_ := (Option.bind_some _ _).symm.trans H; rw [cp]; with_reducible exact H2_) | (have H2_ := (Option.bind_some _ _).symm.trans H; with_reducible exact H2_) | with_reducible exact H | (rw [cp]; exact H) | exact H
             have fb := zam cp; clear cp
             by_cases gD : bg.length + bV.length < 140737488355328
             ·rw [if_pos gD] at H
              have gd := zam gD; clear gD
              obtain ⟨hx, cP⟩ : ∃ y_ : List Int, y_ = (bg ++ bV) := ⟨_, rfl⟩
              first | rw [Option.bind_some, ← cP] at H | rw [← cP] at H
              have gf := zam cP; clear cP; have H' := zam H; clear H
              go_wp2_with (first | ((with_reducible refine gate_dst (N := 50) rfl ?_); refine Kd.R_lit (Kd.int .u8) _ 5 ?hg (N := 50) ?hd (xs := ([92, 114] : List Int)) (inner := [.int .u8 92, .int .u8 114]) (ok := fun _ => True) (okp := fun _ => True) ?hr ?hp (fun _ hk => hk) trivial (Below.refl _ _) (Nat.le_refl _) (by simp) ?_; (case hd => rfl); (case hg => rfl); (case hr => first | (go_simp; done) | (go_simp; rfl)); (case hp => exact (Reps.one (show Kd.M (Kd.int .u8) _ _ _ 92 [.int .u8 92] from rfl) (Reps.one (show Kd.M (Kd.int .u8) _ _ _ 114 [.int .u8 114] from rfl) (Reps.none _ _)))); intro v179 jt dt hb hg_ hnew_; clear hg_ hnew_; (first | rw [← fb.out] at dt | (simp only [Int.reduceToNat] at dt; rw [← fb.out] at dt)); have cq := zam (Kd.R_lower (Kd.R_new' dt (Kd.R_lt (zkr HO_4.out))) (below_size (zbl HB.out))); replace HO_4 := zam (Kd.R_elder' (zkr HO_4.out) (Kd.R_base dt) hb); replace HB := zam (below_step (zbl HB.out) hb); clear hb dt; obtain ⟨hy, hz, eo44⟩ := Kd.R_slice cq.out; subst eo44) | ((with_reducible refine gate_builtin (b := .append) (xs := #[.tmp 49, .tmp 50]) rfl ?_); at_builtin; refine Kd.R_append_rows (Kd.int .u8) (w0 := w) w.heap.size rfl (.tmp 49) (.tmp 50) 44 5 (.int .u8 0) 1 rfl Tryz.underlying44 info5 rfl (by decide) (by omega) u4 bg bV _ _ _ (fun k_ => some k_ ≠ (.slice hy bV.length hz : Value).ownBlock) (fun _ => False) rfl rfl ?aO ?aR (fun _ _ h => h) (fun _ h => h.elim) ?aF ?aB ?aS ?aL ?_; (case aR => repeat (first | exact (Kd.R_reads' cq.out).2.2 | (with_reducible refine Kd.C_alloc ?_ _) | (with_reducible refine Kd.C_drewN ?_ _) | (with_reducible refine Kd.C_drew ?_))); (case aB => exact (zbl HB.out)); (case aF => exact (fun k_ hk => Kd.fresh' (Kd.R_lt (zkr cq.out)) k_ hk)); (case aO => exact (by refine zkr ?_; exact Kd.R_mono HO_4.out (fun _ hk => hk.2))); (case aS => exact (below_size (zbl HB.out))); (case aL => have := gd.out; omega); intro v182 jv ho hb hg hat; rw [← gf.out] at ho; have gg := zam (ho); replace cq := zam (Kd.R_after (ok := (fun _ => True)) (zkr cq.out) hg hat); replace HB := zam (hb); clear HO_4; clear ho hb hg hat))
              go_roundg kj6
              case measure => have := HK1.out; have := cx.out; omega
              case rel => exact ⟨(hx), (wrap64 (bj + 1)), zrs, H', ⟨zlo2 HK1.out cx.out⟩, ⟨by refine zkr ?_; exact Kd.R_mono gg.out (fun _ hk => trivial)⟩, ⟨zbl HB.out⟩⟩
             ·rw [if_neg gD] at H
              exact absurd H (by simp)
            ·rw [if_neg fm] at H
             have gb := beq_eq_false_iff_ne.mpr fm; have gc := bne_iff_ne.mpr fm
             by_cases fv : (bt a0 bj) < 32
             ·rw [if_pos fv] at H
              have gh := decide_eq_true fv; clear fv
              obtain ⟨bv, fc⟩ : ∃ j_ : Int, ((Int.tdiv (bt a0 bj) 16) % 256) = j_ := ⟨_, rfl⟩
              replace H : (if 0 ≤ (bv) then (if (bv) < ((⟨#[48, 49, 50, 51, 52, 53, 54, 55, 56, 57, 97, 98, 99, 100, 101, 102]⟩ : ByteArray).size : Int) then (if 0 ≤ (Int.tmod (bt a0 bj) 16) then (if (Int.tmod (bt a0 bj) 16) < ((⟨#[48, 49, 50, 51, 52, 53, 54, 55, 56, 57, 97, 98, 99, 100, 101, 102]⟩ : ByteArray).size : Int) then ((some (([92, 117, 48, 48, bt (⟨#[48, 49, 50, 51, 52, 53, 54, 55, 56, 57, 97, 98, 99, 100, 101, 102]⟩ : ByteArray) (bv), bt (⟨#[48, 49, 50, 51, 52, 53, 54, 55, 56, 57, 97, 98, 99, 100, 101, 102]⟩ : ByteArray) (Int.tmod (bt a0 bj) 16)] : List Int) : List Int)).bind fun bz => (if bg.length + bz.length < 140737488355328 then (spec_l1Quoted.l0 kj6 a0 (⟨#[48, 49, 50, 51, 52, 53, 54, 55, 56, 57, 97, 98, 99, 100, 101, 102]⟩ : ByteArray) (bg ++ bz) (wrap64 (bj + 1))) else (none))) else (none)) else (none)) else (none)) else (none)) = some r := by first | (rw [fc] at H; exact H) | (simp only [fc] at H ⊢; exact H)
              by_cases gF : 0 ≤ (bv)
              ·rw [if_pos gF] at H
               have hL := decide_eq_true gF; clear gF
               by_cases gG : (bv) < ((⟨#[48, 49, 50, 51, 52, 53, 54, 55, 56, 57, 97, 98, 99, 100, 101, 102]⟩ : ByteArray).size : Int)
               ·rw [if_pos gG] at H
                have hM := decide_eq_true gG; clear gG
                obtain ⟨bB, fd⟩ : ∃ j_ : Int, (Int.tmod (bt a0 bj) 16) = j_ := ⟨_, rfl⟩
                replace H : (if 0 ≤ (bB) then (if (bB) < ((⟨#[48, 49, 50, 51, 52, 53, 54, 55, 56, 57, 97, 98, 99, 100, 101, 102]⟩ : ByteArray).size : Int) then ((some (([92, 117, 48, 48, bt (⟨#[48, 49, 50, 51, 52, 53, 54, 55, 56, 57, 97, 98, 99, 100, 101, 102]⟩ : ByteArray) (bv), bt (⟨#[48, 49, 50, 51, 52, 53, 54, 55, 56, 57, 97, 98, 99, 100, 101, 102]⟩ : ByteArray) (bB)] : List Int) : List Int)).bind fun bz => (if bg.length + bz.length < 140737488355328 then (spec_l1Quoted.l0 kj6 a0 (⟨#[48, 49, 50, 51, 52, 53, 54, 55, 56, 57, 97, 98, 99, 100, 101, 102]⟩ : ByteArray) (bg ++ bz) (wrap64 (bj + 1))) else (none))) else (none)) else (none)) = some r := by first | (rw [fd] at H; exact H) | (simp only [fd] at H ⊢; exact H)
                by_cases gH : 0 ≤ (bB)
                ·rw [if_pos gH] at H
                 have hN := decide_eq_true gH; clear gH
                 by_cases gJ : (bB) < ((⟨#[48, 49, 50, 51, 52, 53, 54, 55, 56, 57, 97, 98, 99, 100, 101, 102]⟩ : ByteArray).size : Int)
                 ·rw [if_pos gJ] at H
                  have hP := decide_eq_true gJ; clear gJ
                  obtain ⟨bz, cQ⟩ : ∃ y_ : List Int, y_ = (([92, 117, 48, 48, bt (⟨#[48, 49, 50, 51, 52, 53, 54, 55, 56, 57, 97, 98, 99, 100, 101, 102]⟩ : ByteArray) (bv), bt (⟨#[48, 49, 50, 51, 52, 53, 54, 55, 56, 57, 97, 98, 99, 100, 101, 102]⟩ : ByteArray) (bB)] : List Int)) := ⟨_, rfl⟩
                  first | rw [Option.bind_some, ← cQ] at H | rw [← cQ] at H
                  have ff := zam cQ; clear cQ
                  by_cases gK : bg.length + bz.length < 140737488355328
                  ·rw [if_pos gK] at H
                   have gj := zam gK; clear gK
                   obtain ⟨hB, cR⟩ : ∃ y_ : List Int, y_ = (bg ++ bz) := ⟨_, rfl⟩
                   first | rw [Option.bind_some, ← cR] at H | rw [← cR] at H
                   have gm := zam cR; clear cR; have H' := zam H; clear H
                   try go_wp2
                   replace HO_4 := zam (Kd.R_drew HO_4.out); replace HB := zam (below_drew1 HB.out)
                   have jw := zet (0 ≤ ((bv) : Int)); have jx := zet ((bv) < (16 : Int)); have hX := bt_at (⟨#[48, 49, 50, 51, 52, 53, 54, 55, 56, 57, 97, 98, 99, 100, 101, 102]⟩ : ByteArray) (bv); have jy := zet (0 ≤ ((bB) : Int)); have jz := zet ((bB) < (16 : Int)); have hY := bt_at (⟨#[48, 49, 50, 51, 52, 53, 54, 55, 56, 57, 97, 98, 99, 100, 101, 102]⟩ : ByteArray) (bB)
                   refine start_ (n := 12) (S := fun w' => True) (ds := []) #[false, false, false, false, false, false, false, false, false, false, false, false] (by kernel_rfl) rfl rfl trivial (fun hHeld => ?_); refine with_tabW spec_l1Quoted.tab20 spec_l1Quoted.bits20 (fun HT_ HW_ => ?_)
                   generalize wc.drew = jB at HO_4 HB hHeld ⊢
                   refine zpv (i := 0) (N := some 54) HT_.out (zb 12 1) rfl rfl ?_
                   refine zpv (i := 1) (N := some 55) HT_.out (zb 12 3) rfl rfl ?_
                   refine zpv (i := 2) (N := some 56) HT_.out (zb 12 7) rfl rfl ?_
                   refine zpv (i := 3) (N := some 57) HT_.out (zb 12 15) rfl rfl ?_
                   refine zpv (i := 5) (N := some 59) HT_.out (zb 12 47) rfl rfl ?_
                   refine zpv (i := 6) (N := some 60) HT_.out (zb 12 111) rfl rfl ?_
                   refine zpv (i := 7) (N := some 61) HT_.out (zb 12 239) rfl rfl ?_
                   refine take_ (i := 4) (N := some 58) (v := ?_) (a' := ?_) (zb 12 255) rfl rfl (take_ofW HT_.out HW_.out (by kernel_rfl)) (fun _ _ _ h => h) (Or.inl ⟨by rfl, ?_⟩) hHeld ?_ ?_
                   rotate_left
                   ·intro w' _
                    go_simp
                    with_reducible rfl
                   rotate_left
                   ·simp only [Act.put, List.setIfInBounds_toArray, List.set_cons_zero, List.set_cons_succ, i64_w, i32_w, IntKind.wrap_u8, IntKind.wrap_u32]
                    rfl
                   refine take_ (i := 8) (N := some 62) (v := ?_) (a' := ?_) (zb 12 511) rfl rfl (take_ofW HT_.out HW_.out (by kernel_rfl)) (fun _ _ _ h => h) (Or.inl ⟨by rfl, ?_⟩) hHeld ?_ ?_
                   rotate_left
                   ·intro w' _
                    go_simp
                    with_reducible rfl
                   rotate_left
                   ·simp only [Act.put, List.setIfInBounds_toArray, List.set_cons_zero, List.set_cons_succ, i64_w, i32_w, IntKind.wrap_u8, IntKind.wrap_u32]
                    rfl
                   refine one_ (i := 9) (N := some 63) (zb 12 1023) rfl rfl (one_of HT_.out (by kernel_rfl)) (by decide) (fun K hK => ?_)
                   refine Kd.R_lit_step (Kd.int .u8) _ 5 ?hg (N := 63) ?hd (xs := ([92, 117, 48, 48, bt (⟨#[48, 49, 50, 51, 52, 53, 54, 55, 56, 57, 97, 98, 99, 100, 101, 102]⟩ : ByteArray) (bv), bt (⟨#[48, 49, 50, 51, 52, 53, 54, 55, 56, 57, 97, 98, 99, 100, 101, 102]⟩ : ByteArray) (bB)] : List Int)) (inner := [.int .u8 92, .int .u8 117, .int .u8 48, .int .u8 48, .int .u8 (bt (⟨#[48, 49, 50, 51, 52, 53, 54, 55, 56, 57, 97, 98, 99, 100, 101, 102]⟩ : ByteArray) (bv)), .int .u8 (bt (⟨#[48, 49, 50, 51, 52, 53, 54, 55, 56, 57, 97, 98, 99, 100, 101, 102]⟩ : ByteArray) (bB))]) (ok := fun _ => True) (okp := fun _ => True) ?hr ?hp (fun _ hk => hk) trivial (Below.refl _ _) (Nat.le_refl _) (by simp) ?_; (case hd => rfl); (case hg => rfl); (case hr => first | (go_simp; done) | (go_simp; rfl)); (case hp => exact (Reps.one (show Kd.M (Kd.int .u8) _ _ _ 92 [.int .u8 92] from rfl) (Reps.one (show Kd.M (Kd.int .u8) _ _ _ 117 [.int .u8 117] from rfl) (Reps.one (show Kd.M (Kd.int .u8) _ _ _ 48 [.int .u8 48] from rfl) (Reps.one (show Kd.M (Kd.int .u8) _ _ _ 48 [.int .u8 48] from rfl) (Reps.one (show Kd.M (Kd.int .u8) _ _ _ (bt (⟨#[48, 49, 50, 51, 52, 53, 54, 55, 56, 57, 97, 98, 99, 100, 101, 102]⟩ : ByteArray) (bv)) [.int .u8 (bt (⟨#[48, 49, 50, 51, 52, 53, 54, 55, 56, 57, 97, 98, 99, 100, 101, 102]⟩ : ByteArray) (bv))] from rfl) (Reps.one (show Kd.M (Kd.int .u8) _ _ _ (bt (⟨#[48, 49, 50, 51, 52, 53, 54, 55, 56, 57, 97, 98, 99, 100, 101, 102]⟩ : ByteArray) (bB)) [.int .u8 (bt (⟨#[48, 49, 50, 51, 52, 53, 54, 55, 56, 57, 97, 98, 99, 100, 101, 102]⟩ : ByteArray) (bB))] from rfl) (Reps.none _ _))))))))
                   intro v185 jC dv hb hg_ hnew_
                   clear hg_ hnew_
                   (first | rw [← ff.out] at dv | (simp only [Int.reduceToNat] at dv; rw [← ff.out] at dv))
                   have cr := zam (Kd.R_lower (Kd.R_new' dv (Kd.R_lt (zkr HO_4.out))) (below_size (zbl HB.out))); replace HO_4 := zam (Kd.R_elder' (zkr HO_4.out) (Kd.R_base dv) hb); replace HB := zam (below_step (zbl HB.out) hb)
                   clear hb dv; obtain ⟨hC, hD, eo59⟩ := Kd.R_slice cr.out
                   (first | subst eo59 | (injection eo59 with f1_ f2_ f3_; have f4_ := f1_.symm; have f5_ := f3_.symm; clear f1_ f2_ f3_; subst f4_; subst f5_))
                   refine hK.out _ _ trivial (fun hHeld => ?_)
                   clear hK K
                   refine norm_ (a' := ?_) ?_ ?_
                   rotate_left
                   ·show Act.put _ (some 63) _ = _
                    simp only [Act.put, List.setIfInBounds_toArray, List.set_cons_zero, List.set_cons_succ, i64_w, i32_w, IntKind.wrap_u8, IntKind.wrap_u32]
                    rfl
                   refine one_ (i := 10) (N := some 64) (zb 12 2047) rfl rfl (one_of HT_.out (by kernel_rfl)) (by decide) (fun K hK => ?_)
                   refine Kd.R_append_rows_step (Kd.int .u8) (w0 := w) w.heap.size (by rfl) (.tmp 54) (.tmp 63) 44 5 (.int .u8 0) 1 rfl Tryz.underlying44 info5 rfl (by decide) (by omega) u4 bg bz _ _ _ (fun k_ => some k_ ≠ (.slice hC bz.length hD : Value).ownBlock) (fun _ => False) rfl rfl ?aO ?aR (fun _ _ h => h) (fun _ h => h.elim) ?aF ?aB ?aS ?aL ?_
                   (case aR => repeat (first | exact (Kd.R_reads' cr.out).2.2 | (with_reducible refine Kd.C_alloc ?_ _) | (with_reducible refine Kd.C_drewN ?_ _) | (with_reducible refine Kd.C_drew ?_)))
                   (case aB => exact (zbl HB.out))
                   (case aF => exact (fun k_ hk => Kd.fresh' (Kd.R_lt (zkr cr.out)) k_ hk))
                   (case aO => exact (by refine zkr ?_; exact Kd.R_mono HO_4.out (fun _ hk => hk.2)))
                   (case aS => exact (below_size (zbl HB.out)))
                   (case aL => have := gj.out; omega)
                   intro v188 jD ho hb hg hat
                   rw [← gm.out] at ho
                   have gn := zam (ho); replace cr := zam (Kd.R_after (ok := (fun _ => True)) (zkr cr.out) hg hat); replace HB := zam (hb); clear HO_4
                   clear ho hb hg hat
                   refine hK.out _ _ trivial (fun hHeld => ?_)
                   clear hK K
                   refine norm_ (a' := ?_) ?_ ?_
                   rotate_left
                   ·show Act.put _ (some 64) _ = _
                    simp only [Act.put, List.setIfInBounds_toArray, List.set_cons_zero, List.set_cons_succ, i64_w, i32_w, IntKind.wrap_u8, IntKind.wrap_u32]
                    rfl
                   refine zpv (i := 11) (N := some 4) HT_.out (zb 12 4095) rfl rfl ?_
                   refine done_ (done_of HT_.out (by kernel_rfl)) ?_
                   try go_wp2
                   go_roundg kj6
                   case measure => have := HK1.out; have := cx.out; omega
                   case rel => exact ⟨(hB), (wrap64 (bj + 1)), zrs, H', ⟨zlo2 HK1.out cx.out⟩, ⟨by refine zkr ?_; exact Kd.R_mono gn.out (fun _ hk => trivial)⟩, ⟨zbl HB.out⟩⟩
                  ·rw [if_neg gK] at H
                   exact absurd H (by simp)
                 ·rw [if_neg gJ] at H
                  exact absurd H (by simp)
                ·rw [if_neg gH] at H
                 exact absurd H (by simp)
               ·rw [if_neg gG] at H
                exact absurd H (by simp)
              ·rw [if_neg gF] at H
               exact absurd H (by simp)
             ·rw [if_neg fv] at H
              have gh := decide_eq_false fv; clear fv
              by_cases gL : bg.length < 140737488355328
              ·rw [if_pos gL] at H
               have gp := zam gL; clear gL
               obtain ⟨hF, cS⟩ : ∃ y_ : List Int, y_ = (bg ++ [(bt a0 bj)]) := ⟨_, rfl⟩
               first | rw [Option.bind_some, ← cS] at H | rw [← cS] at H
               have gq := zam cS; clear cS; have H' := zam H; clear H
               go_wp2_with (first | ((with_reducible refine gate_builtin (b := .append) (xs := #[.tmp 65, .tmp 67]) rfl ?_); at_builtin; refine Kd.R_append (Kd.int .u8) (w0 := w) w.heap.size rfl (.tmp 65) (.tmp 67) 44 5 (.int .u8 0) 1 rfl Tryz.underlying44 info5 rfl (by decide) (by omega) u4 bg (bt a0 bj) [.int .u8 (bt a0 bj)] (fun _ => True) (fun _ => False) rfl rfl ?aP (fun _ hk => hk.elim) ?aF ?aO ?aB ?aS ?aL ?_; (case aP => exact rfl); (case aB => exact (zbl HB.out)); (case aF => exact (fun _ _ => trivial)); (case aO => exact (zkr HO_4.out)); (case aS => exact (below_size (zbl HB.out))); (case aL => have := gp.out; omega); intro v191 jF ho hb hg hat; rw [← gq.out] at ho; have gr := zam (ho); replace HB := zam (hb); clear HO_4; clear ho hb hg hat))
               go_roundg kj6
               case measure => have := HK1.out; have := cx.out; omega
               case rel => exact ⟨(hF), (wrap64 (bj + 1)), zrs, H', ⟨zlo2 HK1.out cx.out⟩, ⟨zkr gr.out⟩, ⟨zbl HB.out⟩⟩
              ·rw [if_neg gL] at H
               exact absurd H (by simp)
    ·rw [if_neg c5] at H
     exact absurd H (by simp)
   ·rw [if_neg c4] at H
    have dy := decide_eq_false c4; clear c4
    by_cases gM : bg.length < 140737488355328
    ·rw [if_pos gM] at H
     have gs := zam gM; clear gM
     obtain ⟨hZ, cT⟩ : ∃ y_ : List Int, y_ = (bg ++ [34]) := ⟨_, rfl⟩
     first | rw [Option.bind_some, ← cT] at H | rw [← cT] at H
     have gt := zam cT; clear cT; obtain rfl := Option.some.inj H
     go_wp2_with (first | ((with_reducible refine gate_builtin (b := .append) (xs := #[.tmp 69, .tmp 70]) rfl ?_); at_builtin; refine Kd.R_append (Kd.int .u8) (w0 := w) w.heap.size rfl (.tmp 69) (.tmp 70) 44 5 (.int .u8 0) 1 rfl Tryz.underlying44 info5 rfl (by decide) (by omega) u4 bg 34 [.int .u8 34] (fun _ => True) (fun _ => False) rfl rfl ?aP (fun _ hk => hk.elim) ?aF ?aO ?aB ?aS ?aL ?_; (case aP => exact rfl); (case aB => exact (zbl HB.out)); (case aF => exact (fun _ _ => trivial)); (case aO => exact (zkr HO_4.out)); (case aS => exact (below_size (zbl HB.out))); (case aL => have := gs.out; omega); intro v146 jG ho hb hg hat; rw [← gt.out] at ho; have gv := zam (ho); replace HB := zam (hb); clear HO_4; clear ho hb hg hat; have hcv64 := own_string (P := Tryz.prog) Tryz.underlying44 Tryz.underlying5 Tryz.underlying9 (Kd.own_of_R gv.out)))
     go_ret
     exact ⟨zer, zbl HB.out⟩
    ·rw [if_neg gM] at H
     exact absurd H (by simp)
end Go.Proofs.YtndagnkhjlgjgaaGreatDoor.PJs
