-- Written by a turned copy of the kit print (wip/patch_print.py of this repo), this session
import Derived.Test.YtbonodglnilkfaaGreatDoorPJtx0
import Derived.Test.YtbonodglnilkfaaGreatDoorPJtx1
import Derived.Test.YtbonodglnilkfaaGreatDoorPJtx2
import Derived.Test.YtbonodglnilkfaaGreatDoorPJtx3
import Derived.Test.YtbonodglnilkfaaGreatDoorOwn
namespace Go.Proofs.YtbonodglnilkfaaGreatDoor.PJt
open Go.RowKit Go.Proofs.YtbonodglnilkfaaGreatDoor.Own Go.Proofs.YtbonodglnilkfaaGreatDoor.Xtra Go.Proofs.YtbonodglnilkfaaGreatDoorW.PrintWords Go.Proofs.YtbonodglnilkfaaGreatDoorW.PrintLast Go.Proofs.YtbonodglnilkfaaGreatDoorW.PrintMore
attribute [local go_sem] max2_int min2_int max_two min_two max_three min_three max_four min_four   -- for this text's walks alone
set_option linter.unusedVariables false
set_option linter.unusedSimpArgs false
section
variable [Inhabited Rec]
mutual
def spec_l1Object.l0 : Nat → ByteArray → Int → List (S91) → ByteArray → Int → Bool → Bool → Bool → Option (ByteArray × Int × Bool × Bool × Bool)
 | 0, _, _, _, _, _, _, _, _ => none
 | k + 1, x0, x1, x6, bN, bP, bL, bQ, bS => (spec_l1String.f x0 x1).bind fun cQ => ((spec_l1Skip.f k x0 cQ.2.1).bind fun ck => (if cQ.2.2 = true then ((spec_l1At.f x0 ck 58).bind fun df => (spec_l1Object.j1 k x0 ck x6 cQ.1 (!df) bN bP bL bQ bS)) else (spec_l1Object.j1 k x0 ck x6 cQ.1 true bN bP bL bQ bS)))
def spec_l1Object.j1 : Nat → ByteArray → Int → List (S91) → ByteArray → Bool → ByteArray → Int → Bool → Bool → Bool → Option (ByteArray × Int × Bool × Bool × Bool)
 | 0, _, _, _, _, _, _, _, _, _, _ => none
 | k + 1, x0, x1, x6, x7, pV, bN, bP, bL, bQ, bS => if pV = true then (some ((⟨#[]⟩ : ByteArray), 0, false, false, false)) else ((spec_l1Skip.f k x0 (wrap64 (x1 + 1))).bind fun cp => ((spec_l1Value.f x0 cp).bind fun bX => (if bX.2.2.1 = true then (if bQ = true then (spec_l1Object.j2 k x0 x6 x7 bN bP bL true bS bX.1 bX.2.1 bX.2.2.1 bX.2.2.2.1 bX.2.2.2.2) else (spec_l1Object.j2 k x0 x6 x7 bN bP bL bX.2.2.2.1 bS bX.1 bX.2.1 bX.2.2.1 bX.2.2.2.1 bX.2.2.2.2)) else (some ((⟨#[]⟩ : ByteArray), 0, false, false, false)))))
def spec_l1Object.j2 : Nat → ByteArray → List (S91) → ByteArray → ByteArray → Int → Bool → Bool → Bool → ByteArray → Int → Bool → Bool → Bool → Option (ByteArray × Int × Bool × Bool × Bool)
 | 0, _, _, _, _, _, _, _, _, _, _, _, _, _ => none
 | k + 1, x0, x6, x7, bN, bP, bL, bQ, bS, cc, cd, ch, cj, cf => if bS = true then (spec_l1Object.j3 k x0 x6 x7 bN bP bL bQ true cc cd ch cj cf) else (if cf = true then (spec_l1Object.j3 k x0 x6 x7 bN bP bL bQ true cc cd ch cj cf) else ((spec_l1Find.f k x6 x7).bind fun cV => (spec_l1Object.j3 k x0 x6 x7 bN bP bL bQ (decide (cV ≥ 0)) cc cd ch cj cf)))
def spec_l1Object.j3 : Nat → ByteArray → List (S91) → ByteArray → ByteArray → Int → Bool → Bool → Bool → ByteArray → Int → Bool → Bool → Bool → Option (ByteArray × Int × Bool × Bool × Bool)
 | 0, _, _, _, _, _, _, _, _, _, _, _, _, _ => none
 | k + 1, x0, x6, x7, bN, bP, bL, bQ, bS, cc, cd, ch, cj, cf => if x6.length < 4398046511104 then ((some (x6 ++ [(⟨x7, cc⟩ : S91)] : List (S91))).bind fun cT => ((spec_l1Skip.f k x0 cd).bind fun bV => ((spec_l1At.f x0 bV 125).bind fun dj => (if dj = true then ((spec_l1Sorted.f k cT).bind fun cW => ((spec_l1Make.f cW).bind fun cq => (some (cq, wrap64 (bV + 1), bL, bQ, bS)))) else ((spec_l1At.f x0 bV 44).bind fun dk => (if dk = true then ((spec_l1Skip.f k x0 (wrap64 (bV + 1))).bind fun dg => (spec_l1Object.l0 k x0 dg cT bN bP bL bQ bS)) else (some ((⟨#[]⟩ : ByteArray), 0, false, false, false)))))))) else (none)
end
def spec_l1Object.f (k : Nat) (a0 : ByteArray) (a1 : Int) : Option (ByteArray × Int × Bool × Bool × Bool) := (spec_l1Skip.f k a0 (wrap64 (a1 + 1))).bind fun bW => ((spec_l1At.f a0 bW 125).bind fun cv => (if cv = true then (some ((⟨#[123, 125]⟩ : ByteArray), wrap64 (bW + 1), true, false, false)) else (spec_l1Object.l0 k a0 bW (([] : List (S91))) (⟨#[]⟩ : ByteArray) 0 true false false)))
set_option maxHeartbeats 8000000 in
set_option maxRecDepth 100000 in
theorem spec_l1Object.calls (k : Nat) (a0 : ByteArray) (a1 : Int) (r1 : ByteArray) (r2 : Int) (r3 : Bool) (r4 : Bool) (r5 : Bool) (w : World) (h : spec_l1Object.f k a0 a1 = some (r1, r2, r3, r4, r5)) :
  Calls Tryz.prog 39 #[.string a0, .int .i64 a1] w fun e w' => e = .returned (.agg #[.string r1, .int .i64 r2, .bool r3, .bool r4, .bool r5]) ∧ Below w.heap.size w w' := by
 have hu38 := Tryz.underlying38
 have hu91 := Tryz.underlying91
 have HB := zam (Below.refl w.heap.size w)
 have H : ((spec_l1Skip.f k a0 (wrap64 (a1 + 1))).bind fun bW => ((spec_l1At.f a0 bW 125).bind fun cv => (if cv = true then (some ((⟨#[123, 125]⟩ : ByteArray), wrap64 (bW + 1), true, false, false)) else (spec_l1Object.l0 k a0 bW (([] : List (S91))) (⟨#[]⟩ : ByteArray) 0 true false false)))) = some (r1, r2, r3, r4, r5) := h
 clear h
 obtain ⟨dt, cr⟩ : ∃ y_ : List (S91), y_ = (([] : List (S91))) := ⟨_, rfl⟩
 replace H : ((spec_l1Skip.f k a0 (wrap64 (a1 + 1))).bind fun bW => ((spec_l1At.f a0 bW 125).bind fun cv => (if cv = true then (some ((⟨#[123, 125]⟩ : ByteArray), wrap64 (bW + 1), true, false, false)) else (spec_l1Object.l0 k a0 bW dt (⟨#[]⟩ : ByteArray) 0 true false false)))) = some (r1, r2, r3, r4, r5) := by first | (rw [cr]; with_reducible exact H) | (have H2_ := (Option.bind_some _ _).symm.trans H; rw [cr]; with_reducible exact H2_) | (have H2_ := (Option.bind_some _ _).symm.trans H; with_reducible exact H2_) | with_reducible exact H | (rw [cr]; exact H) | exact H
 have cR := zam cr
 clear cr
 replace H := Option.bind_eq_some_iff.mp H
 obtain ⟨bW, nz, H⟩ := H
 have A3 := zam nz
 clear nz
 replace H := Option.bind_eq_some_iff.mp H
 obtain ⟨cv, nB, H⟩ := H
 have A4 := zam nB
 clear nB
 by_cases c5 : cv = true
 ·subst c5
  rw [if_pos rfl] at H
  simp only [Option.some.injEq, Prod.mk.injEq] at H
  obtain ⟨rfl, rfl, rfl, rfl, rfl⟩ := H
  go_enter Tryz.func39, Tryz.ntmps39
  go_wp2_with (first | ((with_reducible refine gate_dst (N := 4) rfl ?_); refine zbox (N := 4) (cs := #[.string (⟨#[]⟩ : ByteArray), .int .i64 0, .bool false, .bool false, .bool false]) (t := 38) ?_; intro bw hg w6 hbox hb; have bc := zam (hbox); have dv := zam ((by rw [hg]; exact (below_size (zbl HB.out)) : w.heap.size ≤ bw)); have bx := zam ((by rw [hg]; exact (below_size (zbl HB.out)) : w.heap.size ≤ bw)); replace HB := zam (below_step (zbl HB.out) hb); clear hb hbox hg) | ((with_reducible refine gate_dst (N := 5) rfl ?_); refine zbox (N := 5) (cs := #[.string (⟨#[]⟩ : ByteArray), .int .i64 0, .bool false, .bool false, .bool false]) (t := 38) ?_; intro bB hg w7 hbox hb; have bd := zam (hbox); have dw := zam ((by rw [hg]; exact (below_size (zbl1 HB.out bx.out)) : w.heap.size ≤ bB)); have bC := zam ((by rw [hg]; exact (below_size (zbl1 HB.out bx.out)) : w.heap.size ≤ bB)); have bh := zam ((by rw [hg]; exact Nat.ne_of_lt (blk_lt (g := bw) (o := .cells #[.string (⟨#[]⟩ : ByteArray), .int .i64 0, .bool false, .bool false, .bool false] 38 (0, 0)) (zbk bc.out)) : bw ≠ bB)); have bG := zam ((by rw [hg]; exact Nat.ne_of_gt (blk_lt (g := bw) (o := .cells #[.string (⟨#[]⟩ : ByteArray), .int .i64 0, .bool false, .bool false, .bool false] 38 (0, 0)) (zbk bc.out)) : bB ≠ bw)); replace bc := zam (blk_below (g := bw) (o := .cells #[.string (⟨#[]⟩ : ByteArray), .int .i64 0, .bool false, .bool false, .bool false] 38 (0, 0)) (zbk bc.out) hb); replace HB := zam (below_step (zbl1 HB.out bx.out) hb); clear hb hbox hg; have pW := bG.out; have pX := bh.out; obtain ⟨mW, mX, mY, mZ, nb, nc, nf, ng, nh, nj⟩ := cells5 bd.out) | ((with_reducible refine gate_dst (N := 12) rfl ?_); refine Kd.R_lit k91 _ 91 ?hg (N := 12) ?hd (xs := ([] : List (S91))) (inner := []) (ok := fun _ => True) (okp := fun _ => True) ?hr ?hp (fun _ hk => hk) trivial (Below.refl _ _) (Nat.le_refl _) (by simp) ?_; (case hd => rfl); (case hg => rfl); (case hr => first | (go_simp; done) | (go_simp; rfl)); (case hp => exact (Reps.none _ _)); intro v184 dr cX hb hg_ hnew_; clear hg_ hnew_; (first | rw [← cR.out] at cX | (simp only [Int.reduceToNat] at cX; rw [← cR.out] at cX)); have cm := zam (Kd.R_lower cX (below_size (zbl2 HB.out bx.out bC.out))); replace bc := zam (blk_below (g := bw) (o := .cells #[.string (⟨#[]⟩ : ByteArray), .int .i64 0, .bool false, .bool false, .bool false] 38 (0, 0)) (by refine zbk ?_; refine blk_far ?_ bh.out _; refine zbk ?_; refine blk_far ?_ bh.out _; refine zbk ?_; refine blk_far ?_ bh.out _; refine zbk ?_; refine blk_far ?_ bh.out _; refine zbk ?_; refine blk_far ?_ bh.out _; refine zbk ?_; exact bc.out) hb); replace bd := zam (blk_below (g := bB) (o := .cells #[.string (⟨#[]⟩ : ByteArray), .int .i64 0, .bool true, .bool false, .bool false] 38 (0, 0)) (by refine zbk ?_; refine blk_put (cs := #[.string (⟨#[]⟩ : ByteArray), .int .i64 0, .bool true, .bool false, .bool false]) ?_ 4 _ rfl; refine zbk ?_; refine blk_put (cs := #[.string (⟨#[]⟩ : ByteArray), .int .i64 0, .bool true, .bool false, .bool false]) ?_ 3 _ rfl; refine zbk ?_; refine blk_put (cs := #[.string (⟨#[]⟩ : ByteArray), .int .i64 0, .bool false, .bool false, .bool false]) ?_ 2 _ rfl; refine zbk ?_; refine blk_put (cs := #[.string (⟨#[]⟩ : ByteArray), .int .i64 0, .bool false, .bool false, .bool false]) ?_ 1 _ rfl; refine zbk ?_; refine blk_put (cs := #[.string (⟨#[]⟩ : ByteArray), .int .i64 0, .bool false, .bool false, .bool false]) ?_ 0 _ rfl; refine zbk ?_; exact bd.out) hb); replace HB := zam (below_step (zbl2 HB.out bx.out bC.out) hb); clear hb cX) | ((with_reducible refine gate_callee (f := 18) rfl ?_); refine goesL_ (some 16) rfl rfl Tryz.func18 (by kernel_rfl) rfl #[.string a0, .int .i64 (wrap64 (a1 + 1))] rfl zar ?_; (with_reducible refine (spec_l1Skip.calls k a0 (wrap64 (a1 + 1)) bW _ A3.out).mono ?_); rintro e w' ⟨rfl, ⟨nd, rfl⟩⟩; refine ⟨_, rfl, ?_⟩; (try (rw [drewN_self dr]; generalize hq_ : World.drewN dr _ = dr; replace cm := zam (Kd.R_at hq_ cm.out); replace bc := zam (blk_at hq_ bc.out); replace bd := zam (blk_at hq_ bd.out); replace HB := zam (below_at hq_ HB.out); clear hq_))) | ((with_reducible refine gate_callee (f := 37) rfl ?_); refine goesL_ (some 19) rfl rfl Tryz.func37 (by kernel_rfl) rfl #[.string a0, .int .i64 bW, .int .u8 125] rfl zar ?_; (with_reducible refine (spec_l1At.calls a0 bW 125 true _ A4.out).mono ?_); rintro e w' ⟨rfl, ⟨nd, rfl⟩⟩; refine ⟨_, rfl, ?_⟩; (try (rw [drewN_self dr]; generalize hq_ : World.drewN dr _ = dr; replace cm := zam (Kd.R_at hq_ cm.out); replace bc := zam (blk_at hq_ bc.out); replace bd := zam (blk_at hq_ bd.out); replace HB := zam (below_at hq_ HB.out); clear hq_)); obtain ⟨fq, fr, ft, fv, fw, fx, fy, fz, fB, fC⟩ := cells5 bc.out))
  refine bodyPost_ret (results_cell_row rfl _ _ bw 38 #[.string (⟨#[123, 125]⟩ : ByteArray), .int .i64 (wrap64 (bW + 1)), .bool true, .bool false, .bool false] (0, 0) _ rfl (by refine zbk ?_; refine blk_put (cs := #[.string (⟨#[123, 125]⟩ : ByteArray), .int .i64 (wrap64 (bW + 1)), .bool true, .bool false, .bool false]) ?_ 4 _ rfl; refine zbk ?_; refine blk_put (cs := #[.string (⟨#[123, 125]⟩ : ByteArray), .int .i64 (wrap64 (bW + 1)), .bool true, .bool false, .bool false]) ?_ 3 _ rfl; refine zbk ?_; refine blk_put (cs := #[.string (⟨#[123, 125]⟩ : ByteArray), .int .i64 (wrap64 (bW + 1)), .bool false, .bool false, .bool false]) ?_ 2 _ rfl; refine zbk ?_; refine blk_put (cs := #[.string (⟨#[123, 125]⟩ : ByteArray), .int .i64 0, .bool false, .bool false, .bool false]) ?_ 1 _ rfl; refine zbk ?_; refine blk_put (cs := #[.string (⟨#[]⟩ : ByteArray), .int .i64 0, .bool false, .bool false, .bool false]) ?_ 0 _ rfl; refine zbk ?_; exact bc.out) Tryz.underlying38 rfl (by kernel_rfl)) rfl ?_
  exact ⟨zer, zbl2 HB.out bx.out bC.out⟩
 ·replace c5 := Bool.eq_false_iff.mpr c5
  subst c5
  rw [if_neg (show ¬ (false = true) by decide)] at H
  have H' := zam H
  clear H
  go_enter Tryz.func39, Tryz.ntmps39
  go_wp2_with (first | ((with_reducible refine gate_dst (N := 4) rfl ?_); refine zbox (N := 4) (cs := #[.string (⟨#[]⟩ : ByteArray), .int .i64 0, .bool false, .bool false, .bool false]) (t := 38) ?_; intro bw hg qk hbox hb; have bc := zam (hbox); have dv := zam ((by rw [hg]; exact (below_size (zbl HB.out)) : w.heap.size ≤ bw)); have bx := zam ((by rw [hg]; exact (below_size (zbl HB.out)) : w.heap.size ≤ bw)); replace HB := zam (below_step (zbl HB.out) hb); clear hb hbox hg) | ((with_reducible refine gate_dst (N := 5) rfl ?_); refine zbox (N := 5) (cs := #[.string (⟨#[]⟩ : ByteArray), .int .i64 0, .bool false, .bool false, .bool false]) (t := 38) ?_; intro bB hg qm hbox hb; have bd := zam (hbox); have dw := zam ((by rw [hg]; exact (below_size (zbl1 HB.out bx.out)) : w.heap.size ≤ bB)); have bC := zam ((by rw [hg]; exact (below_size (zbl1 HB.out bx.out)) : w.heap.size ≤ bB)); have bh := zam ((by rw [hg]; exact Nat.ne_of_lt (blk_lt (g := bw) (o := .cells #[.string (⟨#[]⟩ : ByteArray), .int .i64 0, .bool false, .bool false, .bool false] 38 (0, 0)) (zbk bc.out)) : bw ≠ bB)); have bG := zam ((by rw [hg]; exact Nat.ne_of_gt (blk_lt (g := bw) (o := .cells #[.string (⟨#[]⟩ : ByteArray), .int .i64 0, .bool false, .bool false, .bool false] 38 (0, 0)) (zbk bc.out)) : bB ≠ bw)); replace bc := zam (blk_below (g := bw) (o := .cells #[.string (⟨#[]⟩ : ByteArray), .int .i64 0, .bool false, .bool false, .bool false] 38 (0, 0)) (zbk bc.out) hb); replace HB := zam (below_step (zbl1 HB.out bx.out) hb); clear hb hbox hg; have nC := bG.out; have nD := bh.out; obtain ⟨fD, fF, fG, fH, fJ, fK, fL, fM, fN, fP⟩ := cells5 bd.out) | ((with_reducible refine gate_dst (N := 12) rfl ?_); refine Kd.R_lit k91 _ 91 ?hg (N := 12) ?hd (xs := ([] : List (S91))) (inner := []) (ok := fun _ => True) (okp := fun _ => True) ?hr ?hp (fun _ hk => hk) trivial (Below.refl _ _) (Nat.le_refl _) (by simp) ?_; (case hd => rfl); (case hg => rfl); (case hr => first | (go_simp; done) | (go_simp; rfl)); (case hp => exact (Reps.none _ _)); intro v184 qn cY hb hg_ hnew_; clear hg_ hnew_; (first | rw [← cR.out] at cY | (simp only [Int.reduceToNat] at cY; rw [← cR.out] at cY)); have cm := zam (Kd.R_lower cY (below_size (zbl2 HB.out bx.out bC.out))); replace bc := zam (blk_below (g := bw) (o := .cells #[.string (⟨#[]⟩ : ByteArray), .int .i64 0, .bool false, .bool false, .bool false] 38 (0, 0)) (by refine zbk ?_; refine blk_far ?_ bh.out _; refine zbk ?_; refine blk_far ?_ bh.out _; refine zbk ?_; refine blk_far ?_ bh.out _; refine zbk ?_; refine blk_far ?_ bh.out _; refine zbk ?_; refine blk_far ?_ bh.out _; refine zbk ?_; exact bc.out) hb); replace bd := zam (blk_below (g := bB) (o := .cells #[.string (⟨#[]⟩ : ByteArray), .int .i64 0, .bool true, .bool false, .bool false] 38 (0, 0)) (by refine zbk ?_; refine blk_put (cs := #[.string (⟨#[]⟩ : ByteArray), .int .i64 0, .bool true, .bool false, .bool false]) ?_ 4 _ rfl; refine zbk ?_; refine blk_put (cs := #[.string (⟨#[]⟩ : ByteArray), .int .i64 0, .bool true, .bool false, .bool false]) ?_ 3 _ rfl; refine zbk ?_; refine blk_put (cs := #[.string (⟨#[]⟩ : ByteArray), .int .i64 0, .bool false, .bool false, .bool false]) ?_ 2 _ rfl; refine zbk ?_; refine blk_put (cs := #[.string (⟨#[]⟩ : ByteArray), .int .i64 0, .bool false, .bool false, .bool false]) ?_ 1 _ rfl; refine zbk ?_; refine blk_put (cs := #[.string (⟨#[]⟩ : ByteArray), .int .i64 0, .bool false, .bool false, .bool false]) ?_ 0 _ rfl; refine zbk ?_; exact bd.out) hb); replace HB := zam (below_step (zbl2 HB.out bx.out bC.out) hb); clear hb cY) | ((with_reducible refine gate_callee (f := 18) rfl ?_); refine goesL_ (some 16) rfl rfl Tryz.func18 (by kernel_rfl) rfl #[.string a0, .int .i64 (wrap64 (a1 + 1))] rfl zar ?_; (with_reducible refine (spec_l1Skip.calls k a0 (wrap64 (a1 + 1)) bW _ A3.out).mono ?_); rintro e w' ⟨rfl, ⟨nd, rfl⟩⟩; refine ⟨_, rfl, ?_⟩) | ((with_reducible refine gate_callee (f := 37) rfl ?_); refine goesL_ (some 19) rfl rfl Tryz.func37 (by kernel_rfl) rfl #[.string a0, .int .i64 bW, .int .u8 125] rfl zar ?_; (with_reducible refine (spec_l1At.calls a0 bW 125 false _ A4.out).mono ?_); rintro e w' ⟨rfl, ⟨nd, rfl⟩⟩; refine ⟨_, rfl, ?_⟩))
  (try simp only [Act.put, List.setIfInBounds_toArray, List.set_cons_zero, List.set_cons_succ])
  go_loopg [1, 6] k (fun kq v1 v6 w' => ∃ (cZ : Int) (bZ : List (S91)) (bn : ByteArray) (bm : Int) (bg : Bool) (bf : Bool) (bb : Bool) (bj : ByteArray) (bk : Int) (bD : Bool) (bs : Bool), v1 = .int .i64 cZ ∧ Aside0 (spec_l1Object.l0 kq a0 cZ bZ bj bk true bD bs = some (r1, r2, r3, r4, r5)) ∧ Aside0 (kq ≤ k) ∧ Aside0 (Kd.R k91 91 w' w.heap.size (fun _ => True) v6 bZ) ∧ Aside0 (w'.heap[bw]? = some (.cells #[.string bn, .int .i64 bm, .bool bg, .bool bf, .bool bb] 38 (0, 0))) ∧ Aside0 (w'.heap[bB]? = some (.cells #[.string bj, .int .i64 bk, .bool true, .bool bD, .bool bs] 38 (0, 0))) ∧ Aside0 (Below w.heap.size w w'))
  case atStart => exact ⟨(bW), (dt), ((⟨#[]⟩ : ByteArray)), (0), (false), (false), (false), ((⟨#[]⟩ : ByteArray)), (0), (false), (false), zrs, H', ⟨Nat.le_refl _⟩, ⟨zkr cm.out⟩, ⟨zbk bc.out⟩, ⟨zbk bd.out⟩, ⟨zbl2 HB.out bx.out bC.out⟩⟩
  case round =>
   clear H'
   obtain ⟨cZ, bZ, bn, bm, bg, bf, bb, bj, bk, bD, bs, rfl, HA, HK1, HO_6, bc, bd, HB⟩ := hrel
   cases gk with
   | zero => exact absurd HA.out (by simp [spec_l1Object.l0])
   | succ k1 =>
    have H := HA.out
    clear HA
    simp only [spec_l1Object.l0] at H
    replace H := Option.bind_eq_some_iff.mp H
    obtain ⟨⟨cb, dm, dx⟩, dy, H⟩ := H
    try dsimp only at H
    have pY := zam dy
    clear dy
    replace H := Option.bind_eq_some_iff.mp H
    obtain ⟨ck, dz, H⟩ := H
    have pZ := zam dz
    clear dz
    have dn := zam H
    clear H
    go_upto_region 8 with (first | ((with_reducible refine gate_callee (f := 40) rfl ?_); refine goesL_ (some 26) rfl rfl Tryz.func40 (by kernel_rfl) rfl #[.string a0, .int .i64 cZ] rfl zar ?_; (with_reducible refine (spec_l1String.calls a0 cZ cb dm dx _ pY.out).mono ?_); rintro e qp ⟨rfl, hb⟩; refine ⟨_, rfl, ?_⟩; replace HO_6 := zam (Kd.R_below (zkr HO_6.out) hb); replace bc := zam (blk_below (g := bw) (o := .cells #[.string bn, .int .i64 bm, .bool bg, .bool bf, .bool bb] 38 (0, 0)) (zbk bc.out) hb); replace bd := zam (blk_below (g := bB) (o := .cells #[.string bj, .int .i64 bk, .bool true, .bool bD, .bool bs] 38 (0, 0)) (zbk bd.out) hb); replace HB := zam (below_step (zbl2 HB.out bx.out bC.out) hb); (try clear hb); (try clear hb2); (try clear hk); (try clear hi)) | ((with_reducible refine gate_callee (f := 18) rfl ?_); refine goesL_ (some 32) rfl rfl Tryz.func18 (by kernel_rfl) rfl #[.string a0, .int .i64 dm] rfl zar ?_; (with_reducible refine (spec_l1Skip.calls k1 a0 dm ck _ pZ.out).mono ?_); rintro e w' ⟨rfl, ⟨nd, rfl⟩⟩; refine ⟨_, rfl, ?_⟩))
    (try simp only [Act.put, List.setIfInBounds_toArray, List.set_cons_zero, List.set_cons_succ])
    go_cut [40] (fun v40 wc => ∃ (kq : Nat) (cn : Bool), v40 = .bool cn ∧ Aside0 (spec_l1Object.j1 kq a0 ck bZ cb cn bj bk true bD bs = some (r1, r2, r3, r4, r5)) ∧ Aside0 (kq ≤ k1) ∧ Aside0 (Kd.R k91 91 wc w.heap.size (fun _ => True) u6 bZ) ∧ Aside0 (wc.heap[bw]? = some (.cells #[.string bn, .int .i64 bm, .bool bg, .bool bf, .bool bb] 38 (0, 0))) ∧ Aside0 (wc.heap[bB]? = some (.cells #[.string bj, .int .i64 bk, .bool true, .bool bD, .bool bs] 38 (0, 0))) ∧ Aside0 (Below w.heap.size w wc))
    case first =>
     have H := dn.out
     clear dn
     by_cases fQ : dx = true
     ·subst fQ
      rw [if_pos rfl] at H
      replace H := Option.bind_eq_some_iff.mp H
      obtain ⟨df, dB, H⟩ := H
      have qb := zam dB
      clear dB
      have H' := zam H
      clear H
      go_wp2_with (first | (go_at_call 37; (with_reducible refine (spec_l1At.calls a0 ck 58 df _ qb.out).mono ?_); rintro e w' ⟨rfl, ⟨nd, rfl⟩⟩))
      go_meet
      case rel => exact ⟨_, (!df), zrs, H', ⟨zlo HK1.out⟩, ⟨zkr HO_6.out⟩, ⟨zbk bc.out⟩, ⟨zbk bd.out⟩, ⟨zbl2 HB.out bx.out bC.out⟩⟩
     ·replace fQ := Bool.eq_false_iff.mpr fQ
      subst fQ
      rw [if_neg (show ¬ (false = true) by decide)] at H
      have H' := zam H
      clear H
      go_wp2
      go_meet
      case rel => exact ⟨_, (true), zrs, H', ⟨zlo HK1.out⟩, ⟨zkr HO_6.out⟩, ⟨zbk bc.out⟩, ⟨zbk bd.out⟩, ⟨zbl2 HB.out bx.out bC.out⟩⟩
    case rest =>
     clear dn
     obtain ⟨kq, cn, rfl, HA, cw, HO_6, bc, bd, HB⟩ := hcut
     cases kq with
     | zero => exact absurd HA.out (by simp [spec_l1Object.j1])
     | succ kj20 =>
      have H := HA.out
      clear HA
      simp only [spec_l1Object.j1] at H
      by_cases fR : cn = true
      ·subst fR
       rw [if_pos rfl] at H
       simp only [Option.some.injEq, Prod.mk.injEq] at H
       obtain ⟨rfl, rfl, rfl, rfl, rfl⟩ := H
       have nF := bh.out
       have nG := bG.out
       obtain ⟨fS, fT, fV, fW, fX, fY, fZ, gb, gc, gd⟩ := cells5 bc.out
       go_wp2
       refine bodyPost_ret (results_cell_row rfl _ _ bw 38 #[.string (⟨#[]⟩ : ByteArray), .int .i64 0, .bool false, .bool false, .bool false] (0, 0) _ rfl (by refine zbk ?_; refine blk_put (cs := #[.string (⟨#[]⟩ : ByteArray), .int .i64 0, .bool false, .bool false, .bool bb]) ?_ 4 _ rfl; refine zbk ?_; refine blk_put (cs := #[.string (⟨#[]⟩ : ByteArray), .int .i64 0, .bool false, .bool bf, .bool bb]) ?_ 3 _ rfl; refine zbk ?_; refine blk_put (cs := #[.string (⟨#[]⟩ : ByteArray), .int .i64 0, .bool bg, .bool bf, .bool bb]) ?_ 2 _ rfl; refine zbk ?_; refine blk_put (cs := #[.string (⟨#[]⟩ : ByteArray), .int .i64 bm, .bool bg, .bool bf, .bool bb]) ?_ 1 _ rfl; refine zbk ?_; refine blk_put (cs := #[.string bn, .int .i64 bm, .bool bg, .bool bf, .bool bb]) ?_ 0 _ rfl; refine zbk ?_; exact bc.out) Tryz.underlying38 rfl (by kernel_rfl)) rfl ?_
       exact ⟨zer, zbl2 HB.out bx.out bC.out⟩
      ·replace fR := Bool.eq_false_iff.mpr fR
       subst fR
       rw [if_neg (show ¬ (false = true) by decide)] at H
       replace H := Option.bind_eq_some_iff.mp H
       obtain ⟨cp, dC, H⟩ := H
       have nH := zam dC
       clear dC
       replace H := Option.bind_eq_some_iff.mp H
       obtain ⟨⟨bM, bT, nk, bY, cg⟩, dD, H⟩ := H
       try dsimp only at H
       have nJ := zam dD
       clear dD
       by_cases gf : nk = true
       ·subst gf
        rw [if_pos rfl] at H
        have dp := zam H
        clear H
        go_upto_region 13 with (first | ((with_reducible refine gate_callee (f := 18) rfl ?_); refine goesL_ (some 46) rfl rfl Tryz.func18 (by kernel_rfl) rfl #[.string a0, .int .i64 (wrap64 (ck + 1))] rfl zar ?_; (with_reducible refine (spec_l1Skip.calls kj20 a0 (wrap64 (ck + 1)) cp _ nH.out).mono ?_); rintro e w' ⟨rfl, ⟨nd, rfl⟩⟩; refine ⟨_, rfl, ?_⟩; (try (rw [drewN_self wc]; generalize hq_ : World.drewN wc _ = wc; replace HO_6 := zam (Kd.R_at hq_ HO_6.out); replace bc := zam (blk_at hq_ bc.out); replace bd := zam (blk_at hq_ bd.out); replace HB := zam (below_at hq_ HB.out); clear hq_))) | ((with_reducible refine gate_callee (f := 17) rfl ?_); refine goesL_ (some 47) rfl rfl Tryz.func17 (by kernel_rfl) rfl #[.string a0, .int .i64 cp] rfl zar ?_; (with_reducible refine (spec_l1Value.calls a0 cp bM bT true bY cg _ nJ.out).mono ?_); rintro e qq ⟨rfl, hb⟩; refine ⟨_, rfl, ?_⟩; replace HO_6 := zam (Kd.R_below (zkr HO_6.out) hb); replace bc := zam (blk_below (g := bw) (o := .cells #[.string bn, .int .i64 bm, .bool bg, .bool bf, .bool bb] 38 (0, 0)) (zbk bc.out) hb); replace bd := zam (blk_below (g := bB) (o := .cells #[.string bj, .int .i64 bk, .bool true, .bool bD, .bool bs] 38 (0, 0)) (zbk bd.out) hb); replace HB := zam (below_step (zbl2 HB.out bx.out bC.out) hb); (try clear hb); (try clear hb2); (try clear hk); (try clear hi)) | ((with_reducible refine gate_dst (N := 10) rfl ?_); refine zbox (N := 10) (cs := #[.string (⟨#[]⟩ : ByteArray), .int .i64 0, .bool false, .bool false, .bool false]) (t := 38) ?_; intro bF hg qr hbox hb; have bq := zam (hbox); have dF := zam ((by rw [hg]; exact (below_size (zbl2 HB.out bx.out bC.out)) : w.heap.size ≤ bF)); have bR := zam ((by rw [hg]; exact (below_size (zbl2 HB.out bx.out bC.out)) : w.heap.size ≤ bF)); have bp := zam ((by rw [hg]; exact Nat.ne_of_lt (blk_lt (g := bw) (o := .cells #[.string bn, .int .i64 bm, .bool bg, .bool bf, .bool bb] 38 (0, 0)) (zbk bc.out)) : bw ≠ bF)); have bJ := zam ((by rw [hg]; exact Nat.ne_of_gt (blk_lt (g := bw) (o := .cells #[.string bn, .int .i64 bm, .bool bg, .bool bf, .bool bb] 38 (0, 0)) (zbk bc.out)) : bF ≠ bw)); have br := zam ((by rw [hg]; exact Nat.ne_of_lt (blk_lt (g := bB) (o := .cells #[.string bj, .int .i64 bk, .bool true, .bool bD, .bool bs] 38 (0, 0)) (zbk bd.out)) : bB ≠ bF)); have bz := zam ((by rw [hg]; exact Nat.ne_of_gt (blk_lt (g := bB) (o := .cells #[.string bj, .int .i64 bk, .bool true, .bool bD, .bool bs] 38 (0, 0)) (zbk bd.out)) : bF ≠ bB)); replace HO_6 := zam (Kd.R_below (zkr HO_6.out) hb); replace bc := zam (blk_below (g := bw) (o := .cells #[.string bn, .int .i64 bm, .bool bg, .bool bf, .bool bb] 38 (0, 0)) (zbk bc.out) hb); replace bd := zam (blk_below (g := bB) (o := .cells #[.string bj, .int .i64 bk, .bool true, .bool bD, .bool bs] 38 (0, 0)) (zbk bd.out) hb); replace HB := zam (below_step (zbl2 HB.out bx.out bC.out) hb); clear hb hbox hg; have nK := bJ.out; have nL := bp.out; have nM := bz.out; have nN := br.out; obtain ⟨gg, gh, gj, gm, gn, gp, gq, gr, gs, gt⟩ := cells5 bq.out))
        (try simp only [Act.put, List.setIfInBounds_toArray, List.set_cons_zero, List.set_cons_succ])
        go_cut [] (fun wc => ∃ (kq : Nat) (bv : Bool), Aside0 (spec_l1Object.j2 kq a0 bZ cb bj bk true bv bs bM bT true bY cg = some (r1, r2, r3, r4, r5)) ∧ Aside0 (kq ≤ kj20) ∧ Aside0 (Kd.R k91 91 wc w.heap.size (fun _ => True) u6 bZ) ∧ Aside0 (wc.heap[bw]? = some (.cells #[.string bn, .int .i64 bm, .bool bg, .bool bf, .bool bb] 38 (0, 0))) ∧ Aside0 (wc.heap[bB]? = some (.cells #[.string bj, .int .i64 bk, .bool true, .bool bv, .bool bs] 38 (0, 0))) ∧ Aside0 (wc.heap[bF]? = some (.cells #[.string bM, .int .i64 bT, .bool true, .bool bY, .bool cg] 38 (0, 0))) ∧ Aside0 (Below w.heap.size w wc))
        case first =>
         have H := dp.out
         clear dp
         by_cases gv : bD = true
         ·subst gv
          rw [if_pos rfl] at H
          have H' := zam H
          clear H
          have nP := bG.out
          have nQ := bh.out
          have nR := br.out
          have nS := bz.out
          obtain ⟨gw, gx, gy, gz, gB, gC, gD, gF, gG, gH⟩ := cells5 bd.out
          go_wp2
          go_meet
          case rel => exact ⟨_, (true), H', ⟨zlo2 HK1.out cw.out⟩, ⟨by refine zkr ?_; exact Kd.R_mono (Kd.R_far (p := ⟨bB, 3, none⟩) (Kd.R_far (p := ⟨bF, 4, none⟩) (Kd.R_far (p := ⟨bF, 3, none⟩) (Kd.R_far (p := ⟨bF, 2, none⟩) (Kd.R_far (p := ⟨bF, 1, none⟩) (Kd.R_far (p := ⟨bF, 0, none⟩) (Kd.R_types (Kd.R_types HO_6.out bq.out (by decide)) bd.out (by decide)) (fun _ hk => hk.1.2) (.string bM)) (fun _ hk => hk.1.2) (.int .i64 bT)) (fun _ hk => hk.1.2) (.bool true)) (fun _ hk => hk.1.2) (.bool bY)) (fun _ hk => hk.1.2) (.bool cg)) (fun _ hk => hk.2) (.bool true)) (fun _ hk => trivial)⟩, ⟨by refine zbk ?_; refine blk_far ?_ bh.out _; refine zbk ?_; refine blk_far ?_ bp.out _; refine zbk ?_; refine blk_far ?_ bp.out _; refine zbk ?_; refine blk_far ?_ bp.out _; refine zbk ?_; refine blk_far ?_ bp.out _; refine zbk ?_; refine blk_far ?_ bp.out _; refine zbk ?_; exact bc.out⟩, ⟨by refine zbk ?_; refine blk_put (cs := #[.string bj, .int .i64 bk, .bool true, .bool true, .bool bs]) ?_ 3 _ rfl; refine zbk ?_; refine blk_far ?_ br.out _; refine zbk ?_; refine blk_far ?_ br.out _; refine zbk ?_; refine blk_far ?_ br.out _; refine zbk ?_; refine blk_far ?_ br.out _; refine zbk ?_; refine blk_far ?_ br.out _; refine zbk ?_; exact bd.out⟩, ⟨by refine zbk ?_; refine blk_far ?_ bz.out _; refine zbk ?_; refine blk_put (cs := #[.string bM, .int .i64 bT, .bool true, .bool bY, .bool false]) ?_ 4 _ rfl; refine zbk ?_; refine blk_put (cs := #[.string bM, .int .i64 bT, .bool true, .bool false, .bool false]) ?_ 3 _ rfl; refine zbk ?_; refine blk_put (cs := #[.string bM, .int .i64 bT, .bool false, .bool false, .bool false]) ?_ 2 _ rfl; refine zbk ?_; refine blk_put (cs := #[.string bM, .int .i64 0, .bool false, .bool false, .bool false]) ?_ 1 _ rfl; refine zbk ?_; refine blk_put (cs := #[.string (⟨#[]⟩ : ByteArray), .int .i64 0, .bool false, .bool false, .bool false]) ?_ 0 _ rfl; refine zbk ?_; exact bq.out⟩, ⟨zbl3 HB.out bx.out bC.out bR.out⟩⟩
         ·replace gv := Bool.eq_false_iff.mpr gv
          subst gv
          rw [if_neg (show ¬ (false = true) by decide)] at H
          have H' := zam H
          clear H
          have nT := bG.out
          have nV := bh.out
          have nW := br.out
          have nX := bz.out
          obtain ⟨gJ, gK, gL, gM, gN, gP, gQ, gR, gS, gT⟩ := cells5 bd.out
          have nY := bJ.out
          have nZ := bp.out
          obtain ⟨gV, gW, gX, gY, gZ, hc, hf, hh, hj, hm⟩ := cells5 bq.out
          go_wp2
          go_meet
          case rel => exact ⟨_, (bY), H', ⟨zlo2 HK1.out cw.out⟩, ⟨by refine zkr ?_; exact Kd.R_mono (Kd.R_far (p := ⟨bB, 3, none⟩) (Kd.R_far (p := ⟨bF, 4, none⟩) (Kd.R_far (p := ⟨bF, 3, none⟩) (Kd.R_far (p := ⟨bF, 2, none⟩) (Kd.R_far (p := ⟨bF, 1, none⟩) (Kd.R_far (p := ⟨bF, 0, none⟩) (Kd.R_types (Kd.R_types HO_6.out bq.out (by decide)) bd.out (by decide)) (fun _ hk => hk.1.2) (.string bM)) (fun _ hk => hk.1.2) (.int .i64 bT)) (fun _ hk => hk.1.2) (.bool true)) (fun _ hk => hk.1.2) (.bool bY)) (fun _ hk => hk.1.2) (.bool cg)) (fun _ hk => hk.2) (.bool bY)) (fun _ hk => trivial)⟩, ⟨by refine zbk ?_; refine blk_far ?_ bh.out _; refine zbk ?_; refine blk_far ?_ bp.out _; refine zbk ?_; refine blk_far ?_ bp.out _; refine zbk ?_; refine blk_far ?_ bp.out _; refine zbk ?_; refine blk_far ?_ bp.out _; refine zbk ?_; refine blk_far ?_ bp.out _; refine zbk ?_; exact bc.out⟩, ⟨by refine zbk ?_; refine blk_put (cs := #[.string bj, .int .i64 bk, .bool true, .bool false, .bool bs]) ?_ 3 _ rfl; refine zbk ?_; refine blk_far ?_ br.out _; refine zbk ?_; refine blk_far ?_ br.out _; refine zbk ?_; refine blk_far ?_ br.out _; refine zbk ?_; refine blk_far ?_ br.out _; refine zbk ?_; refine blk_far ?_ br.out _; refine zbk ?_; exact bd.out⟩, ⟨by refine zbk ?_; refine blk_far ?_ bz.out _; refine zbk ?_; refine blk_put (cs := #[.string bM, .int .i64 bT, .bool true, .bool bY, .bool false]) ?_ 4 _ rfl; refine zbk ?_; refine blk_put (cs := #[.string bM, .int .i64 bT, .bool true, .bool false, .bool false]) ?_ 3 _ rfl; refine zbk ?_; refine blk_put (cs := #[.string bM, .int .i64 bT, .bool false, .bool false, .bool false]) ?_ 2 _ rfl; refine zbk ?_; refine blk_put (cs := #[.string bM, .int .i64 0, .bool false, .bool false, .bool false]) ?_ 1 _ rfl; refine zbk ?_; refine blk_put (cs := #[.string (⟨#[]⟩ : ByteArray), .int .i64 0, .bool false, .bool false, .bool false]) ?_ 0 _ rfl; refine zbk ?_; exact bq.out⟩, ⟨zbl3 HB.out bx.out bC.out bR.out⟩⟩
        case rest =>
         clear dp
         obtain ⟨kq, bv, HA, db, HO_6, bc, bd, bq, HB⟩ := hcut
         cases kq with
         | zero => exact absurd HA.out (by simp [spec_l1Object.j2])
         | succ kj30 =>
          have H := HA.out
          clear HA
          simp only [spec_l1Object.j2] at H
          have dq := zam H
          clear H
          go_upto_region 14 with (fail)
          go_cut [] (fun wc => ∃ (kq : Nat) (bH : Bool), Aside0 (spec_l1Object.j3 kq a0 bZ cb bj bk true bv bH bM bT true bY cg = some (r1, r2, r3, r4, r5)) ∧ Aside0 (kq ≤ kj30) ∧ Aside0 (Kd.R k91 91 wc w.heap.size (fun _ => True) u6 bZ) ∧ Aside0 (wc.heap[bw]? = some (.cells #[.string bn, .int .i64 bm, .bool bg, .bool bf, .bool bb] 38 (0, 0))) ∧ Aside0 (wc.heap[bB]? = some (.cells #[.string bj, .int .i64 bk, .bool true, .bool bv, .bool bH] 38 (0, 0))) ∧ Aside0 (wc.heap[bF]? = some (.cells #[.string bM, .int .i64 bT, .bool true, .bool bY, .bool cg] 38 (0, 0))) ∧ Aside0 (Below w.heap.size w wc))
          case first =>
           have H := dq.out
           clear dq
           by_cases hn : bs = true
           ·subst hn
            rw [if_pos rfl] at H
            have H' := zam H
            clear H
            have pb := bG.out
            have pc := bh.out
            have pd := br.out
            have pf := bz.out
            obtain ⟨hq, hs, ht, hv, hw, hx, hy, hz, hB, hC⟩ := cells5 bd.out
            go_wp2
            go_meet
            case rel => exact ⟨_, (true), H', ⟨zlo3 HK1.out cw.out db.out⟩, ⟨by refine zkr ?_; exact Kd.R_mono (Kd.R_far (p := ⟨bB, 4, none⟩) (Kd.R_types HO_6.out bd.out (by decide)) (fun _ hk => hk.2) (.bool true)) (fun _ hk => trivial)⟩, ⟨by refine zbk ?_; refine blk_far ?_ bh.out _; refine zbk ?_; exact bc.out⟩, ⟨by refine zbk ?_; refine blk_put (cs := #[.string bj, .int .i64 bk, .bool true, .bool bv, .bool true]) ?_ 4 _ rfl; refine zbk ?_; exact bd.out⟩, ⟨by refine zbk ?_; refine blk_far ?_ bz.out _; refine zbk ?_; exact bq.out⟩, ⟨zbl3 HB.out bx.out bC.out bR.out⟩⟩
           ·replace hn := Bool.eq_false_iff.mpr hn
            subst hn
            rw [if_neg (show ¬ (false = true) by decide)] at H
            by_cases hD : cg = true
            ·subst hD
             rw [if_pos rfl] at H
             have H' := zam H
             clear H
             have pg := bG.out
             have ph := bh.out
             have pj := br.out
             have pk := bz.out
             obtain ⟨hF, hG, hH, hJ, hK, hL, hM, hN, hP, hQ⟩ := cells5 bd.out
             have pm := bJ.out
             have pn := bp.out
             obtain ⟨hR, hS, hT, hV, hW, hX, hY, hZ, jb, jc⟩ := cells5 bq.out
             go_wp2
             go_meet
             case rel => exact ⟨_, (true), H', ⟨zlo3 HK1.out cw.out db.out⟩, ⟨by refine zkr ?_; exact Kd.R_mono (Kd.R_far (p := ⟨bB, 4, none⟩) (Kd.R_types HO_6.out bd.out (by decide)) (fun _ hk => hk.2) (.bool true)) (fun _ hk => trivial)⟩, ⟨by refine zbk ?_; refine blk_far ?_ bh.out _; refine zbk ?_; exact bc.out⟩, ⟨by refine zbk ?_; refine blk_put (cs := #[.string bj, .int .i64 bk, .bool true, .bool bv, .bool false]) ?_ 4 _ rfl; refine zbk ?_; exact bd.out⟩, ⟨by refine zbk ?_; refine blk_far ?_ bz.out _; refine zbk ?_; exact bq.out⟩, ⟨zbl3 HB.out bx.out bC.out bR.out⟩⟩
            ·replace hD := Bool.eq_false_iff.mpr hD
             subst hD
             rw [if_neg (show ¬ (false = true) by decide)] at H
             replace H := Option.bind_eq_some_iff.mp H
             obtain ⟨cV, dG, H⟩ := H
             have qc := zam dG
             clear dG
             have H' := zam H
             clear H
             have pp := bG.out
             have pq := bh.out
             have pr := br.out
             have ps := bz.out
             obtain ⟨jd, jf, jg, jh, jj, jk, jm, jn, jp, jq⟩ := cells5 bd.out
             have pt := bJ.out
             have pv := bp.out
             obtain ⟨jr, js, jt, jv, jw, jx, jy, jz, jB, jC⟩ := cells5 bq.out
             obtain ⟨qd, qf, eo63⟩ := Kd.R_slice HO_6.out
             subst eo63
             go_wp2_with (first | (go_at_call 60; (with_reducible refine (spec_l1Find.calls kj30 _ _ bZ cb cV _ ?side1 ?side2 qc.out).mono ?_); (case side1 => repeat (first | exact (Kd.R_reads' HO_6.out).2.2 | (with_reducible refine Kd.C_alloc ?_ _) | (with_reducible refine Kd.C_drewN ?_ _) | (with_reducible refine Kd.C_drew ?_))); (case side2 => exact (Kd.R_reads' HO_6.out).2.1); rintro e w' ⟨rfl, ⟨nd, rfl⟩⟩; (try (rw [drewN_self wc]; generalize hq_ : World.drewN wc _ = wc; replace HO_6 := zam (Kd.R_at hq_ HO_6.out); replace bc := zam (blk_at hq_ bc.out); replace bd := zam (blk_at hq_ bd.out); replace bq := zam (blk_at hq_ bq.out); replace HB := zam (below_at hq_ HB.out); clear hq_; have hfqBK181_0 := blk_frozen bc.out 0; have cx := blk_cell bc.out 0; simp only [List.getElem?_toArray, List.getElem?_cons_zero, List.getElem?_cons_succ] at cx; have hfqBK181_1 := blk_frozen bc.out 1; have cy := blk_cell bc.out 1; simp only [List.getElem?_toArray, List.getElem?_cons_zero, List.getElem?_cons_succ] at cy; have hfqBK181_2 := blk_frozen bc.out 2; have cz := blk_cell bc.out 2; simp only [List.getElem?_toArray, List.getElem?_cons_zero, List.getElem?_cons_succ] at cz; have hfqBK181_3 := blk_frozen bc.out 3; have cB := blk_cell bc.out 3; simp only [List.getElem?_toArray, List.getElem?_cons_zero, List.getElem?_cons_succ] at cB; have hfqBK181_4 := blk_frozen bc.out 4; have cC := blk_cell bc.out 4; simp only [List.getElem?_toArray, List.getElem?_cons_zero, List.getElem?_cons_succ] at cC; have hfqBK182_0 := blk_frozen bd.out 0; have cD := blk_cell bd.out 0; simp only [List.getElem?_toArray, List.getElem?_cons_zero, List.getElem?_cons_succ] at cD; have hfqBK182_1 := blk_frozen bd.out 1; have cF := blk_cell bd.out 1; simp only [List.getElem?_toArray, List.getElem?_cons_zero, List.getElem?_cons_succ] at cF; have hfqBK182_2 := blk_frozen bd.out 2; have cG := blk_cell bd.out 2; simp only [List.getElem?_toArray, List.getElem?_cons_zero, List.getElem?_cons_succ] at cG; have hfqBK182_3 := blk_frozen bd.out 3; have cH := blk_cell bd.out 3; simp only [List.getElem?_toArray, List.getElem?_cons_zero, List.getElem?_cons_succ] at cH; have hfqBK182_4 := blk_frozen bd.out 4; have cJ := blk_cell bd.out 4; simp only [List.getElem?_toArray, List.getElem?_cons_zero, List.getElem?_cons_succ] at cJ; have hfqBK199_0 := blk_frozen bq.out 0; have cK := blk_cell bq.out 0; simp only [List.getElem?_toArray, List.getElem?_cons_zero, List.getElem?_cons_succ] at cK; have hfqBK199_1 := blk_frozen bq.out 1; have cL := blk_cell bq.out 1; simp only [List.getElem?_toArray, List.getElem?_cons_zero, List.getElem?_cons_succ] at cL; have hfqBK199_2 := blk_frozen bq.out 2; have cM := blk_cell bq.out 2; simp only [List.getElem?_toArray, List.getElem?_cons_zero, List.getElem?_cons_succ] at cM; have hfqBK199_3 := blk_frozen bq.out 3; have cN := blk_cell bq.out 3; simp only [List.getElem?_toArray, List.getElem?_cons_zero, List.getElem?_cons_succ] at cN; have hfqBK199_4 := blk_frozen bq.out 4; have cP := blk_cell bq.out 4; simp only [List.getElem?_toArray, List.getElem?_cons_zero, List.getElem?_cons_succ] at cP))))
             go_meet
             case rel => exact ⟨_, (decide (cV ≥ 0)), H', ⟨zlo3 HK1.out cw.out db.out⟩, ⟨by refine zkr ?_; exact Kd.R_mono (Kd.R_far (p := ⟨bB, 4, none⟩) (Kd.R_types HO_6.out bd.out (by decide)) (fun _ hk => hk.2) (.bool (decide (cV ≥ 0)))) (fun _ hk => trivial)⟩, ⟨by refine zbk ?_; refine blk_far ?_ bh.out _; refine zbk ?_; exact bc.out⟩, ⟨by refine zbk ?_; refine blk_put (cs := #[.string bj, .int .i64 bk, .bool true, .bool bv, .bool false]) ?_ 4 _ rfl; refine zbk ?_; exact bd.out⟩, ⟨by refine zbk ?_; refine blk_far ?_ bz.out _; refine zbk ?_; exact bq.out⟩, ⟨zbl3 HB.out bx.out bC.out bR.out⟩⟩
          case rest =>
           clear dq
           obtain ⟨kq, bH, HA, dH, HO_6, bc, bd, bq, HB⟩ := hcut
           cases kq with
           | zero => exact absurd HA.out (by simp [spec_l1Object.j3])
           | succ kj45 =>
            have H := HA.out
            clear HA
            simp only [spec_l1Object.j3] at H
            by_cases jD : bZ.length < 4398046511104
            ·rw [if_pos jD] at H
             have dc := zam jD
             clear jD
             obtain ⟨cT, cS⟩ : ∃ y_ : List (S91), y_ = (bZ ++ [(⟨cb, bM⟩ : S91)]) := ⟨_, rfl⟩
             first | rw [Option.bind_some, ← cS] at H | rw [← cS] at H
             have dd := zam cS
             clear cS
             replace H := Option.bind_eq_some_iff.mp H
             obtain ⟨bV, dJ, H⟩ := H
             have nm := zam dJ
             clear dJ
             replace H := Option.bind_eq_some_iff.mp H
             obtain ⟨dj, dK, H⟩ := H
             have nn := zam dK
             clear dK
             by_cases jF : dj = true
             ·subst jF
              rw [if_pos rfl] at H
              replace H := Option.bind_eq_some_iff.mp H
              obtain ⟨cW, dL, H⟩ := H
              have qg := zam dL
              clear dL
              replace H := Option.bind_eq_some_iff.mp H
              obtain ⟨cq, dM, H⟩ := H
              have qh := zam dM
              clear dM
              simp only [Option.some.injEq, Prod.mk.injEq] at H
              obtain ⟨rfl, rfl, rfl, rfl, rfl⟩ := H
              have pw := bJ.out
              have px := bp.out
              have pz := bz.out
              have pB := br.out
              obtain ⟨jG, jH, jJ, jK, jL, jM, jN, jP, jQ, jR⟩ := cells5 bq.out
              go_wp2_with (first | ((with_reducible refine gate_builtin (b := .append) (xs := #[.tmp 72, .tmp 77]) rfl ?_); at_builtin; refine Kd.R_append k91 (w0 := w) w.heap.size rfl (.tmp 72) (.tmp 77) 88 91 (.agg #[(.string ⟨#[]⟩), (.string ⟨#[]⟩)]) 32 rfl Tryz.underlying88 info91 rfl (by decide) (by omega) u6 bZ (⟨cb, bM⟩ : S91) [.string cb, .string bM] (fun _ => True) (fun _ => False) rfl rfl ?aP (fun _ hk => hk.elim) ?aF ?aO ?aB ?aS ?aL ?_; (case aP => exact k91_mkM _ _ _ (⟨cb, bM⟩ : S91)); (case aB => exact (zbl3 HB.out bx.out bC.out bR.out)); (case aF => exact (fun _ _ => trivial)); (case aO => exact (zkr HO_6.out)); (case aS => exact (below_size (zbl3 HB.out bx.out bC.out bR.out))); (case aL => have := dc.out; omega); intro v202 ds ho hb hg hat; rw [← dd.out] at ho; have bK := zam (ho); replace bc := zam (blk_grown (g := bw) (o := .cells #[.string bn, .int .i64 bm, .bool bg, .bool bf, .bool bb] 38 (0, 0)) (zbk bc.out) hg (Kd.R_ne HO_6.out bc.out (by decide))); replace bd := zam (blk_grown (g := bB) (o := .cells #[.string bj, .int .i64 bk, .bool true, .bool bv, .bool bH] 38 (0, 0)) (zbk bd.out) hg (Kd.R_ne HO_6.out bd.out (by decide))); replace bq := zam (blk_grown (g := bF) (o := .cells #[.string bM, .int .i64 bT, .bool true, .bool bY, .bool cg] 38 (0, 0)) (zbk bq.out) hg (Kd.R_ne HO_6.out bq.out (by decide))); replace HB := zam (hb); clear HO_6; clear ho hb hg hat; obtain ⟨jS, jT, jV, jW, jX, jY, jZ, kb, kc, kf⟩ := cells5 bq.out) | ((with_reducible refine gate_callee (f := 18) rfl ?_); refine goesL_ (some 82) rfl rfl Tryz.func18 (by kernel_rfl) rfl #[.string a0, .int .i64 bT] rfl zar ?_; (with_reducible refine (spec_l1Skip.calls kj45 a0 bT bV _ nm.out).mono ?_); rintro e w' ⟨rfl, ⟨nd, rfl⟩⟩; refine ⟨_, rfl, ?_⟩; (try (rw [drewN_self ds]; generalize hq_ : World.drewN ds _ = ds; replace bK := zam (Kd.R_at hq_ bK.out); replace bc := zam (blk_at hq_ bc.out); replace bd := zam (blk_at hq_ bd.out); replace bq := zam (blk_at hq_ bq.out); replace HB := zam (below_at hq_ HB.out); clear hq_))) | ((with_reducible refine gate_callee (f := 37) rfl ?_); refine goesL_ (some 85) rfl rfl Tryz.func37 (by kernel_rfl) rfl #[.string a0, .int .i64 bV, .int .u8 125] rfl zar ?_; (with_reducible refine (spec_l1At.calls a0 bV 125 true _ nn.out).mono ?_); rintro e w' ⟨rfl, ⟨nd, rfl⟩⟩; refine ⟨_, rfl, ?_⟩; (try (rw [drewN_self ds]; generalize hq_ : World.drewN ds _ = ds; replace bK := zam (Kd.R_at hq_ bK.out); replace bc := zam (blk_at hq_ bc.out); replace bd := zam (blk_at hq_ bd.out); replace bq := zam (blk_at hq_ bq.out); replace HB := zam (below_at hq_ HB.out); clear hq_)); obtain ⟨np, nq, eo75⟩ := Kd.R_slice bK.out; subst eo75) | ((with_reducible refine gate_callee (f := 62) rfl ?_); refine goesL_ (some 87) rfl rfl Tryz.func62 (by kernel_rfl) rfl #[.slice np cT.length nq] rfl zar ?_; (with_reducible refine (spec_l1Sorted.calls kj45 _ _ cT cW _ ?side1 ?side2 qg.out).mono ?_); (case side1 => repeat (first | exact (Kd.R_reads' bK.out).2.2 | (with_reducible refine Kd.C_alloc ?_ _) | (with_reducible refine Kd.C_drewN ?_ _) | (with_reducible refine Kd.C_drew ?_))); (case side2 => exact (Kd.R_reads' bK.out).2.1); rintro e qs ⟨v207, rfl, nr, hb⟩; refine ⟨_, rfl, ?_⟩; have ct := zam (Kd.R_lower (Kd.R_new' nr (Kd.R_lt (zkr bK.out))) (below_size (zbl3 HB.out bx.out bC.out bR.out))); replace bK := zam (Kd.R_elder' (zkr bK.out) (Kd.R_base nr) hb); replace bc := zam (blk_below (g := bw) (o := .cells #[.string bn, .int .i64 bm, .bool bg, .bool bf, .bool bb] 38 (0, 0)) (zbk bc.out) hb); replace bd := zam (blk_below (g := bB) (o := .cells #[.string bj, .int .i64 bk, .bool true, .bool bv, .bool bH] 38 (0, 0)) (zbk bd.out) hb); replace bq := zam (blk_below (g := bF) (o := .cells #[.string bM, .int .i64 bT, .bool true, .bool bY, .bool cg] 38 (0, 0)) (zbk bq.out) hb); replace HB := zam (below_step (zbl3 HB.out bx.out bC.out bR.out) hb); (try clear hb); (try clear hb2); (try clear hk); (try clear hi); (try clear nr); obtain ⟨ns, nt, eo77⟩ := Kd.R_slice ct.out; subst eo77) | ((with_reducible refine gate_callee (f := 61) rfl ?_); refine goesL_ (some 88) rfl rfl Tryz.func61 (by kernel_rfl) rfl #[.slice ns cW.length nt] rfl zar ?_; (with_reducible refine (spec_l1Make.calls _ _ cW cq _ ?side1 ?side2 qh.out).mono ?_); (case side1 => repeat (first | exact (Kd.R_reads' ct.out).2.2 | (with_reducible refine Kd.C_alloc ?_ _) | (with_reducible refine Kd.C_drewN ?_ _) | (with_reducible refine Kd.C_drew ?_))); (case side2 => exact (Kd.R_reads' ct.out).2.1); rintro e qt ⟨rfl, hb⟩; refine ⟨_, rfl, ?_⟩; replace bK := zam (Kd.R_below (zkr bK.out) hb); replace ct := zam (Kd.R_below (zkr ct.out) hb); replace bc := zam (blk_below (g := bw) (o := .cells #[.string bn, .int .i64 bm, .bool bg, .bool bf, .bool bb] 38 (0, 0)) (zbk bc.out) hb); replace bd := zam (blk_below (g := bB) (o := .cells #[.string bj, .int .i64 bk, .bool true, .bool bv, .bool bH] 38 (0, 0)) (zbk bd.out) hb); replace bq := zam (blk_below (g := bF) (o := .cells #[.string bM, .int .i64 bT, .bool true, .bool bY, .bool cg] 38 (0, 0)) (zbk bq.out) hb); replace HB := zam (below_step (zbl3 HB.out bx.out bC.out bR.out) hb); (try clear hb); (try clear hb2); (try clear hk); (try clear hi); have pC := bG.out; have pD := bh.out; obtain ⟨kg, kh, kj, kk, km, kn, kp, kr, ks, kt⟩ := cells5 bd.out; obtain ⟨kv, kw, kx, ky, kz, kB, kC, kD, kF, kG⟩ := cells5 bc.out))
              refine bodyPost_ret (results_cell_row rfl _ _ bw 38 #[.string cq, .int .i64 (wrap64 (bV + 1)), .bool true, .bool bv, .bool bH] (0, 0) _ rfl (by refine zbk ?_; refine blk_put (cs := #[.string cq, .int .i64 (wrap64 (bV + 1)), .bool true, .bool bv, .bool bb]) ?_ 4 _ rfl; refine zbk ?_; refine blk_put (cs := #[.string cq, .int .i64 (wrap64 (bV + 1)), .bool true, .bool bf, .bool bb]) ?_ 3 _ rfl; refine zbk ?_; refine blk_put (cs := #[.string cq, .int .i64 (wrap64 (bV + 1)), .bool bg, .bool bf, .bool bb]) ?_ 2 _ rfl; refine zbk ?_; refine blk_put (cs := #[.string cq, .int .i64 bm, .bool bg, .bool bf, .bool bb]) ?_ 1 _ rfl; refine zbk ?_; refine blk_put (cs := #[.string bn, .int .i64 bm, .bool bg, .bool bf, .bool bb]) ?_ 0 _ rfl; refine zbk ?_; refine blk_far ?_ bh.out _; refine zbk ?_; refine blk_far ?_ bh.out _; refine zbk ?_; exact bc.out) Tryz.underlying38 rfl (by kernel_rfl)) rfl ?_
              exact ⟨zer, zbl3 HB.out bx.out bC.out bR.out⟩
             ·replace jF := Bool.eq_false_iff.mpr jF
              subst jF
              rw [if_neg (show ¬ (false = true) by decide)] at H
              replace H := Option.bind_eq_some_iff.mp H
              obtain ⟨dk, dN, H⟩ := H
              have pF := zam dN
              clear dN
              by_cases kH : dk = true
              ·subst kH
               rw [if_pos rfl] at H
               replace H := Option.bind_eq_some_iff.mp H
               obtain ⟨dg, dP, H⟩ := H
               have qj := zam dP
               clear dP
               have H' := zam H
               clear H
               have pG := bJ.out
               have pH := bp.out
               have pJ := bz.out
               have pK := br.out
               obtain ⟨kJ, kK, kL, kM, kN, kP, kQ, kR, kS, kT⟩ := cells5 bq.out
               go_wp2_with (first | ((with_reducible refine gate_builtin (b := .append) (xs := #[.tmp 72, .tmp 77]) rfl ?_); at_builtin; refine Kd.R_append k91 (w0 := w) w.heap.size rfl (.tmp 72) (.tmp 77) 88 91 (.agg #[(.string ⟨#[]⟩), (.string ⟨#[]⟩)]) 32 rfl Tryz.underlying88 info91 rfl (by decide) (by omega) u6 bZ (⟨cb, bM⟩ : S91) [.string cb, .string bM] (fun _ => True) (fun _ => False) rfl rfl ?aP (fun _ hk => hk.elim) ?aF ?aO ?aB ?aS ?aL ?_; (case aP => exact k91_mkM _ _ _ (⟨cb, bM⟩ : S91)); (case aB => exact (zbl3 HB.out bx.out bC.out bR.out)); (case aF => exact (fun _ _ => trivial)); (case aO => exact (zkr HO_6.out)); (case aS => exact (below_size (zbl3 HB.out bx.out bC.out bR.out))); (case aL => have := dc.out; omega); intro v202 qv ho hb hg hat; rw [← dd.out] at ho; have bK := zam (ho); replace bc := zam (blk_grown (g := bw) (o := .cells #[.string bn, .int .i64 bm, .bool bg, .bool bf, .bool bb] 38 (0, 0)) (zbk bc.out) hg (Kd.R_ne HO_6.out bc.out (by decide))); replace bd := zam (blk_grown (g := bB) (o := .cells #[.string bj, .int .i64 bk, .bool true, .bool bv, .bool bH] 38 (0, 0)) (zbk bd.out) hg (Kd.R_ne HO_6.out bd.out (by decide))); replace bq := zam (blk_grown (g := bF) (o := .cells #[.string bM, .int .i64 bT, .bool true, .bool bY, .bool cg] 38 (0, 0)) (zbk bq.out) hg (Kd.R_ne HO_6.out bq.out (by decide))); replace HB := zam (hb); clear HO_6; clear ho hb hg hat; obtain ⟨kV, kW, kX, kY, kZ, mb, mc, md, mf, mg⟩ := cells5 bq.out) | ((with_reducible refine gate_callee (f := 18) rfl ?_); refine goesL_ (some 82) rfl rfl Tryz.func18 (by kernel_rfl) rfl #[.string a0, .int .i64 bT] rfl zar ?_; (with_reducible refine (spec_l1Skip.calls kj45 a0 bT bV _ nm.out).mono ?_); rintro e w' ⟨rfl, ⟨nd, rfl⟩⟩; refine ⟨_, rfl, ?_⟩) | ((with_reducible refine gate_callee (f := 37) rfl ?_); refine goesL_ (some 85) rfl rfl Tryz.func37 (by kernel_rfl) rfl #[.string a0, .int .i64 bV, .int .u8 125] rfl zar ?_; (with_reducible refine (spec_l1At.calls a0 bV 125 false _ nn.out).mono ?_); rintro e w' ⟨rfl, ⟨nd, rfl⟩⟩; refine ⟨_, rfl, ?_⟩) | ((with_reducible refine gate_callee (f := 37) rfl ?_); refine goesL_ (some 96) rfl rfl Tryz.func37 (by kernel_rfl) rfl #[.string a0, .int .i64 bV, .int .u8 44] rfl zar ?_; (with_reducible refine (spec_l1At.calls a0 bV 44 true _ pF.out).mono ?_); rintro e w' ⟨rfl, ⟨nd, rfl⟩⟩; refine ⟨_, rfl, ?_⟩) | ((with_reducible refine gate_callee (f := 18) rfl ?_); refine goesL_ (some 102) rfl rfl Tryz.func18 (by kernel_rfl) rfl #[.string a0, .int .i64 (wrap64 (bV + 1))] rfl zar ?_; (with_reducible refine (spec_l1Skip.calls kj45 a0 (wrap64 (bV + 1)) dg _ qj.out).mono ?_); rintro e w' ⟨rfl, ⟨nd, rfl⟩⟩; refine ⟨_, rfl, ?_⟩))
               go_roundg kj45
               case measure => have := HK1.out; have := cw.out; have := db.out; have := dH.out; omega
               case rel => exact ⟨(dg), (cT), (bn), (bm), (bg), (bf), (bb), (bj), (bk), (bv), (bH), zrs, H', ⟨by have := HK1.out; have := cw.out; have := db.out; have := dH.out; omega⟩, ⟨zkr bK.out⟩, ⟨zbk bc.out⟩, ⟨zbk bd.out⟩, ⟨zbl3 HB.out bx.out bC.out bR.out⟩⟩
              ·replace kH := Bool.eq_false_iff.mpr kH
               subst kH
               rw [if_neg (show ¬ (false = true) by decide)] at H
               simp only [Option.some.injEq, Prod.mk.injEq] at H
               obtain ⟨rfl, rfl, rfl, rfl, rfl⟩ := H
               have pL := bJ.out
               have pM := bp.out
               have pN := bz.out
               have pP := br.out
               obtain ⟨mh, mj, mm, mn, mq, mr, ms, mt, mv, mw⟩ := cells5 bq.out
               go_wp2_with (first | ((with_reducible refine gate_builtin (b := .append) (xs := #[.tmp 72, .tmp 77]) rfl ?_); at_builtin; refine Kd.R_append k91 (w0 := w) w.heap.size rfl (.tmp 72) (.tmp 77) 88 91 (.agg #[(.string ⟨#[]⟩), (.string ⟨#[]⟩)]) 32 rfl Tryz.underlying88 info91 rfl (by decide) (by omega) u6 bZ (⟨cb, bM⟩ : S91) [.string cb, .string bM] (fun _ => True) (fun _ => False) rfl rfl ?aP (fun _ hk => hk.elim) ?aF ?aO ?aB ?aS ?aL ?_; (case aP => exact k91_mkM _ _ _ (⟨cb, bM⟩ : S91)); (case aB => exact (zbl3 HB.out bx.out bC.out bR.out)); (case aF => exact (fun _ _ => trivial)); (case aO => exact (zkr HO_6.out)); (case aS => exact (below_size (zbl3 HB.out bx.out bC.out bR.out))); (case aL => have := dc.out; omega); intro v202 dh ho hb hg hat; rw [← dd.out] at ho; have bK := zam (ho); replace bc := zam (blk_grown (g := bw) (o := .cells #[.string bn, .int .i64 bm, .bool bg, .bool bf, .bool bb] 38 (0, 0)) (zbk bc.out) hg (Kd.R_ne HO_6.out bc.out (by decide))); replace bd := zam (blk_grown (g := bB) (o := .cells #[.string bj, .int .i64 bk, .bool true, .bool bv, .bool bH] 38 (0, 0)) (zbk bd.out) hg (Kd.R_ne HO_6.out bd.out (by decide))); replace bq := zam (blk_grown (g := bF) (o := .cells #[.string bM, .int .i64 bT, .bool true, .bool bY, .bool cg] 38 (0, 0)) (zbk bq.out) hg (Kd.R_ne HO_6.out bq.out (by decide))); replace HB := zam (hb); clear HO_6; clear ho hb hg hat; obtain ⟨mx, my, mz, mB, mC, mD, mF, mG, mH, mJ⟩ := cells5 bq.out) | ((with_reducible refine gate_callee (f := 18) rfl ?_); refine goesL_ (some 82) rfl rfl Tryz.func18 (by kernel_rfl) rfl #[.string a0, .int .i64 bT] rfl zar ?_; (with_reducible refine (spec_l1Skip.calls kj45 a0 bT bV _ nm.out).mono ?_); rintro e w' ⟨rfl, ⟨nd, rfl⟩⟩; refine ⟨_, rfl, ?_⟩; (try (rw [drewN_self dh]; generalize hq_ : World.drewN dh _ = dh; replace bK := zam (Kd.R_at hq_ bK.out); replace bc := zam (blk_at hq_ bc.out); replace bd := zam (blk_at hq_ bd.out); replace bq := zam (blk_at hq_ bq.out); replace HB := zam (below_at hq_ HB.out); clear hq_))) | ((with_reducible refine gate_callee (f := 37) rfl ?_); refine goesL_ (some 85) rfl rfl Tryz.func37 (by kernel_rfl) rfl #[.string a0, .int .i64 bV, .int .u8 125] rfl zar ?_; (with_reducible refine (spec_l1At.calls a0 bV 125 false _ nn.out).mono ?_); rintro e w' ⟨rfl, ⟨nd, rfl⟩⟩; refine ⟨_, rfl, ?_⟩; (try (rw [drewN_self dh]; generalize hq_ : World.drewN dh _ = dh; replace bK := zam (Kd.R_at hq_ bK.out); replace bc := zam (blk_at hq_ bc.out); replace bd := zam (blk_at hq_ bd.out); replace bq := zam (blk_at hq_ bq.out); replace HB := zam (below_at hq_ HB.out); clear hq_))) | ((with_reducible refine gate_callee (f := 37) rfl ?_); refine goesL_ (some 96) rfl rfl Tryz.func37 (by kernel_rfl) rfl #[.string a0, .int .i64 bV, .int .u8 44] rfl zar ?_; (with_reducible refine (spec_l1At.calls a0 bV 44 false _ pF.out).mono ?_); rintro e w' ⟨rfl, ⟨nd, rfl⟩⟩; refine ⟨_, rfl, ?_⟩; (try (rw [drewN_self dh]; generalize hq_ : World.drewN dh _ = dh; replace bK := zam (Kd.R_at hq_ bK.out); replace bc := zam (blk_at hq_ bc.out); replace bd := zam (blk_at hq_ bd.out); replace bq := zam (blk_at hq_ bq.out); replace HB := zam (below_at hq_ HB.out); clear hq_)); have pQ := bh.out; have pR := bG.out; obtain ⟨mK, mL, mM, mN, mP, mQ, mR, mS, mT, mV⟩ := cells5 bc.out))
               refine bodyPost_ret (results_cell_row rfl _ _ bw 38 #[.string (⟨#[]⟩ : ByteArray), .int .i64 0, .bool false, .bool false, .bool false] (0, 0) _ rfl (by refine zbk ?_; refine blk_put (cs := #[.string (⟨#[]⟩ : ByteArray), .int .i64 0, .bool false, .bool false, .bool bb]) ?_ 4 _ rfl; refine zbk ?_; refine blk_put (cs := #[.string (⟨#[]⟩ : ByteArray), .int .i64 0, .bool false, .bool bf, .bool bb]) ?_ 3 _ rfl; refine zbk ?_; refine blk_put (cs := #[.string (⟨#[]⟩ : ByteArray), .int .i64 0, .bool bg, .bool bf, .bool bb]) ?_ 2 _ rfl; refine zbk ?_; refine blk_put (cs := #[.string (⟨#[]⟩ : ByteArray), .int .i64 bm, .bool bg, .bool bf, .bool bb]) ?_ 1 _ rfl; refine zbk ?_; refine blk_put (cs := #[.string bn, .int .i64 bm, .bool bg, .bool bf, .bool bb]) ?_ 0 _ rfl; refine zbk ?_; exact bc.out) Tryz.underlying38 rfl (by kernel_rfl)) rfl ?_
               exact ⟨zer, zbl3 HB.out bx.out bC.out bR.out⟩
            ·rw [if_neg jD] at H
             exact absurd H (by simp)
       ·replace gf := Bool.eq_false_iff.mpr gf
        subst gf
        rw [if_neg (show ¬ (false = true) by decide)] at H
        simp only [Option.some.injEq, Prod.mk.injEq] at H
        obtain ⟨rfl, rfl, rfl, rfl, rfl⟩ := H
        go_wp2_with (first | ((with_reducible refine gate_callee (f := 18) rfl ?_); refine goesL_ (some 46) rfl rfl Tryz.func18 (by kernel_rfl) rfl #[.string a0, .int .i64 (wrap64 (ck + 1))] rfl zar ?_; (with_reducible refine (spec_l1Skip.calls kj20 a0 (wrap64 (ck + 1)) cp _ nH.out).mono ?_); rintro e w' ⟨rfl, ⟨nd, rfl⟩⟩; refine ⟨_, rfl, ?_⟩; (try (rw [drewN_self wc]; generalize hq_ : World.drewN wc _ = wc; replace HO_6 := zam (Kd.R_at hq_ HO_6.out); replace bc := zam (blk_at hq_ bc.out); replace bd := zam (blk_at hq_ bd.out); replace HB := zam (below_at hq_ HB.out); clear hq_))) | ((with_reducible refine gate_callee (f := 17) rfl ?_); refine goesL_ (some 47) rfl rfl Tryz.func17 (by kernel_rfl) rfl #[.string a0, .int .i64 cp] rfl zar ?_; (with_reducible refine (spec_l1Value.calls a0 cp bM bT false bY cg _ nJ.out).mono ?_); rintro e qw ⟨rfl, hb⟩; refine ⟨_, rfl, ?_⟩; replace HO_6 := zam (Kd.R_below (zkr HO_6.out) hb); replace bc := zam (blk_below (g := bw) (o := .cells #[.string bn, .int .i64 bm, .bool bg, .bool bf, .bool bb] 38 (0, 0)) (zbk bc.out) hb); replace bd := zam (blk_below (g := bB) (o := .cells #[.string bj, .int .i64 bk, .bool true, .bool bD, .bool bs] 38 (0, 0)) (zbk bd.out) hb); replace HB := zam (below_step (zbl2 HB.out bx.out bC.out) hb); (try clear hb); (try clear hb2); (try clear hk); (try clear hi)) | ((with_reducible refine gate_dst (N := 10) rfl ?_); refine zbox (N := 10) (cs := #[.string (⟨#[]⟩ : ByteArray), .int .i64 0, .bool false, .bool false, .bool false]) (t := 38) ?_; intro bF hg qx hbox hb; have bq := zam (hbox); have dF := zam ((by rw [hg]; exact (below_size (zbl2 HB.out bx.out bC.out)) : w.heap.size ≤ bF)); have bR := zam ((by rw [hg]; exact (below_size (zbl2 HB.out bx.out bC.out)) : w.heap.size ≤ bF)); have bp := zam ((by rw [hg]; exact Nat.ne_of_lt (blk_lt (g := bw) (o := .cells #[.string bn, .int .i64 bm, .bool bg, .bool bf, .bool bb] 38 (0, 0)) (zbk bc.out)) : bw ≠ bF)); have bJ := zam ((by rw [hg]; exact Nat.ne_of_gt (blk_lt (g := bw) (o := .cells #[.string bn, .int .i64 bm, .bool bg, .bool bf, .bool bb] 38 (0, 0)) (zbk bc.out)) : bF ≠ bw)); have br := zam ((by rw [hg]; exact Nat.ne_of_lt (blk_lt (g := bB) (o := .cells #[.string bj, .int .i64 bk, .bool true, .bool bD, .bool bs] 38 (0, 0)) (zbk bd.out)) : bB ≠ bF)); have bz := zam ((by rw [hg]; exact Nat.ne_of_gt (blk_lt (g := bB) (o := .cells #[.string bj, .int .i64 bk, .bool true, .bool bD, .bool bs] 38 (0, 0)) (zbk bd.out)) : bF ≠ bB)); replace HO_6 := zam (Kd.R_below (zkr HO_6.out) hb); replace bc := zam (blk_below (g := bw) (o := .cells #[.string bn, .int .i64 bm, .bool bg, .bool bf, .bool bb] 38 (0, 0)) (zbk bc.out) hb); replace bd := zam (blk_below (g := bB) (o := .cells #[.string bj, .int .i64 bk, .bool true, .bool bD, .bool bs] 38 (0, 0)) (zbk bd.out) hb); replace HB := zam (below_step (zbl2 HB.out bx.out bC.out) hb); clear hb hbox hg; have pS := bJ.out; have pT := bp.out; have nv := bz.out; have nw := br.out; obtain ⟨dQ, dR, dS, dT, dV, dW, dX, dY, dZ, fb⟩ := cells5 bq.out; have nx := bh.out; have ny := bG.out; obtain ⟨fc, fd, ff, fg, fh, fj, fk, fm, fn, fp⟩ := cells5 bc.out))
        refine bodyPost_ret (results_cell_row rfl _ _ bw 38 #[.string (⟨#[]⟩ : ByteArray), .int .i64 0, .bool false, .bool false, .bool false] (0, 0) _ rfl (by refine zbk ?_; refine blk_put (cs := #[.string (⟨#[]⟩ : ByteArray), .int .i64 0, .bool false, .bool false, .bool bb]) ?_ 4 _ rfl; refine zbk ?_; refine blk_put (cs := #[.string (⟨#[]⟩ : ByteArray), .int .i64 0, .bool false, .bool bf, .bool bb]) ?_ 3 _ rfl; refine zbk ?_; refine blk_put (cs := #[.string (⟨#[]⟩ : ByteArray), .int .i64 0, .bool bg, .bool bf, .bool bb]) ?_ 2 _ rfl; refine zbk ?_; refine blk_put (cs := #[.string (⟨#[]⟩ : ByteArray), .int .i64 bm, .bool bg, .bool bf, .bool bb]) ?_ 1 _ rfl; refine zbk ?_; refine blk_put (cs := #[.string bn, .int .i64 bm, .bool bg, .bool bf, .bool bb]) ?_ 0 _ rfl; refine zbk ?_; refine blk_far ?_ bp.out _; refine zbk ?_; refine blk_far ?_ bp.out _; refine zbk ?_; refine blk_far ?_ bp.out _; refine zbk ?_; refine blk_far ?_ bp.out _; refine zbk ?_; refine blk_far ?_ bp.out _; refine zbk ?_; exact bc.out) Tryz.underlying38 rfl (by kernel_rfl)) rfl ?_
        exact ⟨zer, zbl3 HB.out bx.out bC.out bR.out⟩
end
end Go.Proofs.YtbonodglnilkfaaGreatDoor.PJt
