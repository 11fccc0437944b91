-- Written by a turned copy of the kit print (wip/patch_print.py of this repo), this session
import Derived.Test.YtbonodglnilkfaaGreatDoorPJtx0
import Derived.Test.YtbonodglnilkfaaGreatDoorPJtx1
import Derived.Test.YtbonodglnilkfaaGreatDoorOwn
import Derived.Test.YtbonodglnilkfaaGreatDoorPJsx3
namespace Go.Proofs.YtbonodglnilkfaaGreatDoor.PJt
open Go.RowKit Go.Proofs.YtbonodglnilkfaaGreatDoor.Own Go.Proofs.YtbonodglnilkfaaGreatDoor.Xtra Go.Proofs.YtbonodglnilkfaaGreatDoorW.PrintWords Go.Proofs.YtbonodglnilkfaaGreatDoorW.PrintLast Go.Proofs.YtbonodglnilkfaaGreatDoorW.PrintMore
attribute [local go_sem] max2_int min2_int max_two min_two max_three min_three max_four min_four   -- for this text's walks alone
set_option linter.unusedVariables false
set_option linter.unusedSimpArgs false
abbrev spec_l1Digit.f (a0 : Int) : Option (Bool) := Go.Proofs.YtbonodglnilkfaaGreatDoor.PJs.spec_l1Digit.f a0
theorem spec_l1Digit.calls (a0 : Int) (r : Bool) (w : World) (h : spec_l1Digit.f a0 = some r) :
  Calls Tryz.prog 64 #[.int .u8 a0] w fun e w' => e = .returned (.bool r) ∧ Drawn0 w w' := Go.Proofs.YtbonodglnilkfaaGreatDoor.PJs.spec_l1Digit.calls a0 r w h
section
variable [Inhabited Rec]
mutual
def spec_l1Array.l0 : Nat → ByteArray → Int → ByteArray → Int → Bool → Bool → Bool → Option (ByteArray × Int × Bool × Bool × Bool)
 | 0, _, _, _, _, _, _, _ => none
 | k + 1, x0, x1, bH, bQ, bP, bR, bS => (spec_l1Value.f x0 x1).bind fun bM => (if bM.2.2.1 = true then (if bH.size + bM.1.size ≤ 9223372036854775807 then (if bR = true then (spec_l1Array.j1 k x0 (bH ++ bM.1) bQ bP true bS bM.1 bM.2.1 bM.2.2.1 bM.2.2.2.1 bM.2.2.2.2) else (spec_l1Array.j1 k x0 (bH ++ bM.1) bQ bP bM.2.2.2.1 bS bM.1 bM.2.1 bM.2.2.1 bM.2.2.2.1 bM.2.2.2.2)) else (none)) else (some ((⟨#[]⟩ : ByteArray), 0, false, false, false)))
def spec_l1Array.j1 : Nat → ByteArray → ByteArray → Int → Bool → Bool → Bool → ByteArray → Int → Bool → Bool → Bool → Option (ByteArray × Int × Bool × Bool × Bool)
 | 0, _, _, _, _, _, _, _, _, _, _, _ => none
 | k + 1, x0, bH, bQ, bP, bR, bS, cb, bY, cc, cd, bZ => if bS = true then (spec_l1Array.j2 k x0 bH bQ bP bR true cb bY cc cd bZ) else (spec_l1Array.j2 k x0 bH bQ bP bR bZ cb bY cc cd bZ)
def spec_l1Array.j2 : Nat → ByteArray → ByteArray → Int → Bool → Bool → Bool → ByteArray → Int → Bool → Bool → Bool → Option (ByteArray × Int × Bool × Bool × Bool)
 | 0, _, _, _, _, _, _, _, _, _, _, _ => none
 | k + 1, x0, bH, bQ, bP, bR, bS, cb, bY, cc, cd, bZ => (spec_l1Skip.f k x0 bY).bind fun bL => ((spec_l1At.f x0 bL 93).bind fun ct => (if ct = true then (if bH.size + 1 ≤ 9223372036854775807 then (some (bH ++ (⟨#[93]⟩ : ByteArray), wrap64 (bL + 1), bP, bR, bS)) else (none)) else ((spec_l1At.f x0 bL 44).bind fun cv => (if cv = true then (if bH.size + 1 ≤ 9223372036854775807 then ((spec_l1Skip.f k x0 (wrap64 (bL + 1))).bind fun cn => (spec_l1Array.l0 k x0 cn (bH ++ (⟨#[44]⟩ : ByteArray)) bQ bP bR bS)) else (none)) else (some ((⟨#[]⟩ : ByteArray), 0, false, false, false))))))
end
def spec_l1Array.f (k : Nat) (a0 : ByteArray) (a1 : Int) : Option (ByteArray × Int × Bool × Bool × Bool) := (spec_l1Skip.f k a0 (wrap64 (a1 + 1))).bind fun bT => ((spec_l1At.f a0 bT 93).bind fun cm => (if cm = true then (some ((⟨#[91, 93]⟩ : ByteArray), wrap64 (bT + 1), true, false, false)) else (spec_l1Array.l0 k a0 bT (⟨#[91]⟩ : ByteArray) 0 true false false)))
set_option maxHeartbeats 8000000 in
set_option maxRecDepth 100000 in
theorem spec_l1Array.calls (k : Nat) (a0 : ByteArray) (a1 : Int) (r1 : ByteArray) (r2 : Int) (r3 : Bool) (r4 : Bool) (r5 : Bool) (w : World) (h : spec_l1Array.f k a0 a1 = some (r1, r2, r3, r4, r5)) :
  Calls Tryz.prog 38 #[.string a0, .int .i64 a1] w fun e w' => e = .returned (.agg #[.string r1, .int .i64 r2, .bool r3, .bool r4, .bool r5]) ∧ Below w.heap.size w w' := by
 have hu38 := Tryz.underlying38
 have HB := zam (Below.refl w.heap.size w)
 have H : ((spec_l1Skip.f k a0 (wrap64 (a1 + 1))).bind fun bT => ((spec_l1At.f a0 bT 93).bind fun cm => (if cm = true then (some ((⟨#[91, 93]⟩ : ByteArray), wrap64 (bT + 1), true, false, false)) else (spec_l1Array.l0 k a0 bT (⟨#[91]⟩ : ByteArray) 0 true false false)))) = some (r1, r2, r3, r4, r5) := h
 clear h
 replace H := Option.bind_eq_some_iff.mp H
 obtain ⟨bT, ks, H⟩ := H
 have A3 := zam ks
 clear ks
 replace H := Option.bind_eq_some_iff.mp H
 obtain ⟨cm, kt, H⟩ := H
 have A4 := zam kt
 clear kt
 by_cases c5 : cm = true
 ·subst c5
  rw [if_pos rfl] at H
  simp only [Option.some.injEq, Prod.mk.injEq] at H
  obtain ⟨rfl, rfl, rfl, rfl, rfl⟩ := H
  go_enter Tryz.func38, Tryz.ntmps38
  go_wp2_with (first | ((with_reducible refine gate_dst (N := 4) rfl ?_); refine zbox (N := 4) (cs := #[.string (⟨#[]⟩ : ByteArray), .int .i64 0, .bool false, .bool false, .bool false]) (t := 38) ?_; intro bv hg w6 hbox hb; have bj := zam (hbox); have cy := zam ((by rw [hg]; exact (below_size (zbl HB.out)) : w.heap.size ≤ bv)); have bC := zam ((by rw [hg]; exact (below_size (zbl HB.out)) : w.heap.size ≤ bv)); replace HB := zam (below_step (zbl HB.out) hb); clear hb hbox hg) | ((with_reducible refine gate_dst (N := 5) rfl ?_); refine zbox (N := 5) (cs := #[.string (⟨#[]⟩ : ByteArray), .int .i64 0, .bool false, .bool false, .bool false]) (t := 38) ?_; intro bD hg w7 hbox hb; have bn := zam (hbox); have cz := zam ((by rw [hg]; exact (below_size (zbl1 HB.out bC.out)) : w.heap.size ≤ bD)); have bJ := zam ((by rw [hg]; exact (below_size (zbl1 HB.out bC.out)) : w.heap.size ≤ bD)); have bc := zam ((by rw [hg]; exact Nat.ne_of_lt (blk_lt (g := bv) (o := .cells #[.string (⟨#[]⟩ : ByteArray), .int .i64 0, .bool false, .bool false, .bool false] 38 (0, 0)) (zbk bj.out)) : bv ≠ bD)); have bz := zam ((by rw [hg]; exact Nat.ne_of_gt (blk_lt (g := bv) (o := .cells #[.string (⟨#[]⟩ : ByteArray), .int .i64 0, .bool false, .bool false, .bool false] 38 (0, 0)) (zbk bj.out)) : bD ≠ bv)); replace bj := zam (blk_below (g := bv) (o := .cells #[.string (⟨#[]⟩ : ByteArray), .int .i64 0, .bool false, .bool false, .bool false] 38 (0, 0)) (zbk bj.out) hb); replace HB := zam (below_step (zbl1 HB.out bC.out) hb); clear hb hbox hg; have mV := bz.out; have mW := bc.out; obtain ⟨jT, jV, jW, jX, jY, jZ, kb, kc, kf, kg⟩ := cells5 bn.out) | ((with_reducible refine gate_callee (f := 18) rfl ?_); refine goesL_ (some 11) rfl rfl Tryz.func18 (by kernel_rfl) rfl #[.string a0, .int .i64 (wrap64 (a1 + 1))] rfl zar ?_; (with_reducible refine (spec_l1Skip.calls k a0 (wrap64 (a1 + 1)) bT _ A3.out).mono ?_); rintro e w' ⟨rfl, ⟨nd, rfl⟩⟩; refine ⟨_, rfl, ?_⟩) | ((with_reducible refine gate_callee (f := 37) rfl ?_); refine goesL_ (some 14) rfl rfl Tryz.func37 (by kernel_rfl) rfl #[.string a0, .int .i64 bT, .int .u8 93] rfl zar ?_; (with_reducible refine (spec_l1At.calls a0 bT 93 true _ A4.out).mono ?_); rintro e w' ⟨rfl, ⟨nd, rfl⟩⟩; refine ⟨_, rfl, ?_⟩; obtain ⟨cX, cY, cZ, db, dc, dd, df, dg, dh, dj⟩ := cells5 bj.out))
  refine bodyPost_ret (results_cell_row rfl _ _ bv 38 #[.string (⟨#[91, 93]⟩ : ByteArray), .int .i64 (wrap64 (bT + 1)), .bool true, .bool false, .bool false] (0, 0) _ rfl (by refine zbk ?_; refine blk_put (cs := #[.string (⟨#[91, 93]⟩ : ByteArray), .int .i64 (wrap64 (bT + 1)), .bool true, .bool false, .bool false]) ?_ 4 _ rfl; refine zbk ?_; refine blk_put (cs := #[.string (⟨#[91, 93]⟩ : ByteArray), .int .i64 (wrap64 (bT + 1)), .bool true, .bool false, .bool false]) ?_ 3 _ rfl; refine zbk ?_; refine blk_put (cs := #[.string (⟨#[91, 93]⟩ : ByteArray), .int .i64 (wrap64 (bT + 1)), .bool false, .bool false, .bool false]) ?_ 2 _ rfl; refine zbk ?_; refine blk_put (cs := #[.string (⟨#[91, 93]⟩ : ByteArray), .int .i64 0, .bool false, .bool false, .bool false]) ?_ 1 _ rfl; refine zbk ?_; refine blk_put (cs := #[.string (⟨#[]⟩ : ByteArray), .int .i64 0, .bool false, .bool false, .bool false]) ?_ 0 _ rfl; refine zbk ?_; refine blk_far ?_ bc.out _; refine zbk ?_; refine blk_far ?_ bc.out _; refine zbk ?_; refine blk_far ?_ bc.out _; refine zbk ?_; refine blk_far ?_ bc.out _; refine zbk ?_; refine blk_far ?_ bc.out _; refine zbk ?_; exact bj.out) Tryz.underlying38 rfl (by kernel_rfl)) rfl ?_
  exact ⟨zer, zbl2 HB.out bC.out bJ.out⟩
 ·replace c5 := Bool.eq_false_iff.mpr c5
  subst c5
  rw [if_neg (show ¬ (false = true) by decide)] at H
  have H' := zam H
  clear H
  go_enter Tryz.func38, Tryz.ntmps38
  go_wp2_with (first | ((with_reducible refine gate_dst (N := 4) rfl ?_); refine zbox (N := 4) (cs := #[.string (⟨#[]⟩ : ByteArray), .int .i64 0, .bool false, .bool false, .bool false]) (t := 38) ?_; intro bv hg mZ hbox hb; have bj := zam (hbox); have cy := zam ((by rw [hg]; exact (below_size (zbl HB.out)) : w.heap.size ≤ bv)); have bC := zam ((by rw [hg]; exact (below_size (zbl HB.out)) : w.heap.size ≤ bv)); replace HB := zam (below_step (zbl HB.out) hb); clear hb hbox hg) | ((with_reducible refine gate_dst (N := 5) rfl ?_); refine zbox (N := 5) (cs := #[.string (⟨#[]⟩ : ByteArray), .int .i64 0, .bool false, .bool false, .bool false]) (t := 38) ?_; intro bD hg nb hbox hb; have bn := zam (hbox); have cz := zam ((by rw [hg]; exact (below_size (zbl1 HB.out bC.out)) : w.heap.size ≤ bD)); have bJ := zam ((by rw [hg]; exact (below_size (zbl1 HB.out bC.out)) : w.heap.size ≤ bD)); have bc := zam ((by rw [hg]; exact Nat.ne_of_lt (blk_lt (g := bv) (o := .cells #[.string (⟨#[]⟩ : ByteArray), .int .i64 0, .bool false, .bool false, .bool false] 38 (0, 0)) (zbk bj.out)) : bv ≠ bD)); have bz := zam ((by rw [hg]; exact Nat.ne_of_gt (blk_lt (g := bv) (o := .cells #[.string (⟨#[]⟩ : ByteArray), .int .i64 0, .bool false, .bool false, .bool false] 38 (0, 0)) (zbk bj.out)) : bD ≠ bv)); replace bj := zam (blk_below (g := bv) (o := .cells #[.string (⟨#[]⟩ : ByteArray), .int .i64 0, .bool false, .bool false, .bool false] 38 (0, 0)) (zbk bj.out) hb); replace HB := zam (below_step (zbl1 HB.out bC.out) hb); clear hb hbox hg; have kv := bz.out; have kw := bc.out; obtain ⟨dk, dm, dn, dp, dq, dr, ds, dt, dv, dw⟩ := cells5 bn.out) | ((with_reducible refine gate_callee (f := 18) rfl ?_); refine goesL_ (some 11) rfl rfl Tryz.func18 (by kernel_rfl) rfl #[.string a0, .int .i64 (wrap64 (a1 + 1))] rfl zar ?_; (with_reducible refine (spec_l1Skip.calls k a0 (wrap64 (a1 + 1)) bT _ A3.out).mono ?_); rintro e w' ⟨rfl, ⟨nd, rfl⟩⟩; refine ⟨_, rfl, ?_⟩) | ((with_reducible refine gate_callee (f := 37) rfl ?_); refine goesL_ (some 14) rfl rfl Tryz.func37 (by kernel_rfl) rfl #[.string a0, .int .i64 bT, .int .u8 93] rfl zar ?_; (with_reducible refine (spec_l1At.calls a0 bT 93 false _ A4.out).mono ?_); rintro e w' ⟨rfl, ⟨nd, rfl⟩⟩; refine ⟨_, rfl, ?_⟩))
  (try simp only [Act.put, List.setIfInBounds_toArray, List.set_cons_zero, List.set_cons_succ])
  go_loopg [1] k (fun kq v1 w' => ∃ (cg : Int) (br : ByteArray) (bp : Int) (bk : Bool) (bf : Bool) (bd : Bool) (bb : ByteArray) (bg : Int) (bB : Bool) (bq : Bool), v1 = .int .i64 cg ∧ Aside0 (spec_l1Array.l0 kq a0 cg bb bg true bB bq = some (r1, r2, r3, r4, r5)) ∧ Aside0 (kq ≤ k) ∧ Aside0 (w'.heap[bv]? = some (.cells #[.string br, .int .i64 bp, .bool bk, .bool bf, .bool bd] 38 (0, 0))) ∧ Aside0 (w'.heap[bD]? = some (.cells #[.string bb, .int .i64 bg, .bool true, .bool bB, .bool bq] 38 (0, 0))) ∧ Aside0 (Below w.heap.size w w'))
  case atStart => exact ⟨(bT), ((⟨#[]⟩ : ByteArray)), (0), (false), (false), (false), ((⟨#[91]⟩ : ByteArray)), (0), (false), (false), zrs, H', ⟨Nat.le_refl _⟩, ⟨by refine zbk ?_; refine blk_far ?_ bc.out _; refine zbk ?_; refine blk_far ?_ bc.out _; refine zbk ?_; refine blk_far ?_ bc.out _; refine zbk ?_; refine blk_far ?_ bc.out _; refine zbk ?_; refine blk_far ?_ bc.out _; refine zbk ?_; exact bj.out⟩, ⟨by refine zbk ?_; refine blk_put (cs := #[.string (⟨#[91]⟩ : ByteArray), .int .i64 0, .bool true, .bool false, .bool false]) ?_ 4 _ rfl; refine zbk ?_; refine blk_put (cs := #[.string (⟨#[91]⟩ : ByteArray), .int .i64 0, .bool true, .bool false, .bool false]) ?_ 3 _ rfl; refine zbk ?_; refine blk_put (cs := #[.string (⟨#[91]⟩ : ByteArray), .int .i64 0, .bool false, .bool false, .bool false]) ?_ 2 _ rfl; refine zbk ?_; refine blk_put (cs := #[.string (⟨#[91]⟩ : ByteArray), .int .i64 0, .bool false, .bool false, .bool false]) ?_ 1 _ rfl; refine zbk ?_; refine blk_put (cs := #[.string (⟨#[]⟩ : ByteArray), .int .i64 0, .bool false, .bool false, .bool false]) ?_ 0 _ rfl; refine zbk ?_; exact bn.out⟩, ⟨zbl2 HB.out bC.out bJ.out⟩⟩
  case round =>
   clear H'
   obtain ⟨cg, br, bp, bk, bf, bd, bb, bg, bB, bq, rfl, HA, HK1, bj, bn, HB⟩ := hrel
   cases gk with
   | zero => exact absurd HA.out (by simp [spec_l1Array.l0])
   | succ k1 =>
    have H := HA.out
    clear HA
    simp only [spec_l1Array.l0] at H
    replace H := Option.bind_eq_some_iff.mp H
    obtain ⟨⟨bF, bV, kh, cf, ch⟩, cB, H⟩ := H
    try dsimp only at H
    have kx := zam cB
    clear cB
    by_cases dx : kh = true
    ·subst dx
     rw [if_pos rfl] at H
     by_cases cC : bb.size + bF.size ≤ 9223372036854775807
     ·rw [if_pos cC] at H
      have ky := eq_true cC
      have kz := decide_eq_true cC
      try have kB : (9223372036854775807 < bb.size + bF.size) = False := eq_false (Nat.not_lt.2 cC)
      have cw := zam H
      clear H
      go_upto_region 9 with (first | ((with_reducible refine gate_callee (f := 17) rfl ?_); refine goesL_ (some 20) rfl rfl Tryz.func17 (by kernel_rfl) rfl #[.string a0, .int .i64 cg] rfl zar ?_; (with_reducible refine (spec_l1Value.calls a0 cg bF bV true cf ch _ kx.out).mono ?_); rintro e nc ⟨rfl, hb⟩; refine ⟨_, rfl, ?_⟩; replace bj := zam (blk_below (g := bv) (o := .cells #[.string br, .int .i64 bp, .bool bk, .bool bf, .bool bd] 38 (0, 0)) (zbk bj.out) hb); replace bn := zam (blk_below (g := bD) (o := .cells #[.string bb, .int .i64 bg, .bool true, .bool bB, .bool bq] 38 (0, 0)) (zbk bn.out) hb); replace HB := zam (below_step (zbl2 HB.out bC.out bJ.out) hb); (try clear hb); (try clear hb2); (try clear hk); (try clear hi)) | ((with_reducible refine gate_dst (N := 6) rfl ?_); refine zbox (N := 6) (cs := #[.string (⟨#[]⟩ : ByteArray), .int .i64 0, .bool false, .bool false, .bool false]) (t := 38) ?_; intro bN hg nf hbox hb; have bx := zam (hbox); have cD := zam ((by rw [hg]; exact (below_size (zbl2 HB.out bC.out bJ.out)) : w.heap.size ≤ bN)); have bW := zam ((by rw [hg]; exact (below_size (zbl2 HB.out bC.out bJ.out)) : w.heap.size ≤ bN)); have bh := zam ((by rw [hg]; exact Nat.ne_of_lt (blk_lt (g := bv) (o := .cells #[.string br, .int .i64 bp, .bool bk, .bool bf, .bool bd] 38 (0, 0)) (zbk bj.out)) : bv ≠ bN)); have bG := zam ((by rw [hg]; exact Nat.ne_of_gt (blk_lt (g := bv) (o := .cells #[.string br, .int .i64 bp, .bool bk, .bool bf, .bool bd] 38 (0, 0)) (zbk bj.out)) : bN ≠ bv)); have bm := zam ((by rw [hg]; exact Nat.ne_of_lt (blk_lt (g := bD) (o := .cells #[.string bb, .int .i64 bg, .bool true, .bool bB, .bool bq] 38 (0, 0)) (zbk bn.out)) : bD ≠ bN)); have bs := zam ((by rw [hg]; exact Nat.ne_of_gt (blk_lt (g := bD) (o := .cells #[.string bb, .int .i64 bg, .bool true, .bool bB, .bool bq] 38 (0, 0)) (zbk bn.out)) : bN ≠ bD)); replace bj := zam (blk_below (g := bv) (o := .cells #[.string br, .int .i64 bp, .bool bk, .bool bf, .bool bd] 38 (0, 0)) (zbk bj.out) hb); replace bn := zam (blk_below (g := bD) (o := .cells #[.string bb, .int .i64 bg, .bool true, .bool bB, .bool bq] 38 (0, 0)) (zbk bn.out) hb); replace HB := zam (below_step (zbl2 HB.out bC.out bJ.out) hb); clear hb hbox hg; have kC := bG.out; have kD := bh.out; have kF := bs.out; have kG := bm.out; obtain ⟨dy, dz, dB, dC, dD, dF, dG, dH, dJ, dK⟩ := cells5 bx.out; have kH := bz.out; have kJ := bc.out; obtain ⟨dL, dM, dN, dP, dQ, dR, dS, dT, dV, dW⟩ := cells5 bn.out))
      (try simp only [Act.put, List.setIfInBounds_toArray, List.set_cons_zero, List.set_cons_succ])
      go_cut [] (fun wc => ∃ (kq : Nat) (bw : Bool), Aside0 (spec_l1Array.j1 kq a0 (bb ++ bF) bg true bw bq bF bV true cf ch = some (r1, r2, r3, r4, r5)) ∧ Aside0 (kq ≤ k1) ∧ Aside0 (wc.heap[bv]? = some (.cells #[.string br, .int .i64 bp, .bool bk, .bool bf, .bool bd] 38 (0, 0))) ∧ Aside0 (wc.heap[bD]? = some (.cells #[.string (bb ++ bF), .int .i64 bg, .bool true, .bool bw, .bool bq] 38 (0, 0))) ∧ Aside0 (wc.heap[bN]? = some (.cells #[.string bF, .int .i64 bV, .bool true, .bool cf, .bool ch] 38 (0, 0))) ∧ Aside0 (Below w.heap.size w wc))
      case first =>
       have H := cw.out
       clear cw
       by_cases dX : bB = true
       ·subst dX
        rw [if_pos rfl] at H
        have H' := zam H
        clear H
        have kK := bz.out
        have kL := bc.out
        have kM := bm.out
        have kN := bs.out
        obtain ⟨dY, dZ, fb, fc, fd, ff, fg, fh, fj, fk⟩ := cells5 bn.out
        go_wp2
        go_meet
        case rel => exact ⟨_, (true), H', ⟨zlo HK1.out⟩, ⟨by refine zbk ?_; refine blk_far ?_ bc.out _; refine zbk ?_; refine blk_far ?_ bc.out _; refine zbk ?_; refine blk_far ?_ bh.out _; refine zbk ?_; refine blk_far ?_ bh.out _; refine zbk ?_; refine blk_far ?_ bh.out _; refine zbk ?_; refine blk_far ?_ bh.out _; refine zbk ?_; refine blk_far ?_ bh.out _; refine zbk ?_; exact bj.out⟩, ⟨by refine zbk ?_; refine blk_put (cs := #[.string (bb ++ bF), .int .i64 bg, .bool true, .bool true, .bool bq]) ?_ 3 _ rfl; refine zbk ?_; refine blk_put (cs := #[.string bb, .int .i64 bg, .bool true, .bool true, .bool bq]) ?_ 0 _ rfl; refine zbk ?_; refine blk_far ?_ bm.out _; refine zbk ?_; refine blk_far ?_ bm.out _; refine zbk ?_; refine blk_far ?_ bm.out _; refine zbk ?_; refine blk_far ?_ bm.out _; refine zbk ?_; refine blk_far ?_ bm.out _; refine zbk ?_; exact bn.out⟩, ⟨by refine zbk ?_; refine blk_far ?_ bs.out _; refine zbk ?_; refine blk_far ?_ bs.out _; refine zbk ?_; refine blk_put (cs := #[.string bF, .int .i64 bV, .bool true, .bool cf, .bool false]) ?_ 4 _ rfl; refine zbk ?_; refine blk_put (cs := #[.string bF, .int .i64 bV, .bool true, .bool false, .bool false]) ?_ 3 _ rfl; refine zbk ?_; refine blk_put (cs := #[.string bF, .int .i64 bV, .bool false, .bool false, .bool false]) ?_ 2 _ rfl; refine zbk ?_; refine blk_put (cs := #[.string bF, .int .i64 0, .bool false, .bool false, .bool false]) ?_ 1 _ rfl; refine zbk ?_; refine blk_put (cs := #[.string (⟨#[]⟩ : ByteArray), .int .i64 0, .bool false, .bool false, .bool false]) ?_ 0 _ rfl; refine zbk ?_; exact bx.out⟩, ⟨zbl3 HB.out bC.out bJ.out bW.out⟩⟩
       ·replace dX := Bool.eq_false_iff.mpr dX
        subst dX
        rw [if_neg (show ¬ (false = true) by decide)] at H
        have H' := zam H
        clear H
        have kP := bz.out
        have kQ := bc.out
        have kR := bm.out
        have kS := bs.out
        obtain ⟨fm, fn, fp, fq, fr, ft, fv, fw, fx, fy⟩ := cells5 bn.out
        have kT := bG.out
        have kV := bh.out
        obtain ⟨fz, fB, fC, fD, fF, fG, fH, fJ, fK, fL⟩ := cells5 bx.out
        go_wp2
        go_meet
        case rel => exact ⟨_, (cf), H', ⟨zlo HK1.out⟩, ⟨by refine zbk ?_; refine blk_far ?_ bc.out _; refine zbk ?_; refine blk_far ?_ bc.out _; refine zbk ?_; refine blk_far ?_ bh.out _; refine zbk ?_; refine blk_far ?_ bh.out _; refine zbk ?_; refine blk_far ?_ bh.out _; refine zbk ?_; refine blk_far ?_ bh.out _; refine zbk ?_; refine blk_far ?_ bh.out _; refine zbk ?_; exact bj.out⟩, ⟨by refine zbk ?_; refine blk_put (cs := #[.string (bb ++ bF), .int .i64 bg, .bool true, .bool false, .bool bq]) ?_ 3 _ rfl; refine zbk ?_; refine blk_put (cs := #[.string bb, .int .i64 bg, .bool true, .bool false, .bool bq]) ?_ 0 _ rfl; refine zbk ?_; refine blk_far ?_ bm.out _; refine zbk ?_; refine blk_far ?_ bm.out _; refine zbk ?_; refine blk_far ?_ bm.out _; refine zbk ?_; refine blk_far ?_ bm.out _; refine zbk ?_; refine blk_far ?_ bm.out _; refine zbk ?_; exact bn.out⟩, ⟨by refine zbk ?_; refine blk_far ?_ bs.out _; refine zbk ?_; refine blk_far ?_ bs.out _; refine zbk ?_; refine blk_put (cs := #[.string bF, .int .i64 bV, .bool true, .bool cf, .bool false]) ?_ 4 _ rfl; refine zbk ?_; refine blk_put (cs := #[.string bF, .int .i64 bV, .bool true, .bool false, .bool false]) ?_ 3 _ rfl; refine zbk ?_; refine blk_put (cs := #[.string bF, .int .i64 bV, .bool false, .bool false, .bool false]) ?_ 2 _ rfl; refine zbk ?_; refine blk_put (cs := #[.string bF, .int .i64 0, .bool false, .bool false, .bool false]) ?_ 1 _ rfl; refine zbk ?_; refine blk_put (cs := #[.string (⟨#[]⟩ : ByteArray), .int .i64 0, .bool false, .bool false, .bool false]) ?_ 0 _ rfl; refine zbk ?_; exact bx.out⟩, ⟨zbl3 HB.out bC.out bJ.out bW.out⟩⟩
      case rest =>
       clear cw
       obtain ⟨kq, bw, HA, cp, bj, bn, bx, HB⟩ := hcut
       cases kq with
       | zero => exact absurd HA.out (by simp [spec_l1Array.j1])
       | succ kj17 =>
        have H := HA.out
        clear HA
        simp only [spec_l1Array.j1] at H
        have cx := zam H
        clear H
        go_upto_region 10 with (fail)
        go_cut [] (fun wc => ∃ (kq : Nat) (bK : Bool), Aside0 (spec_l1Array.j2 kq a0 (bb ++ bF) bg true bw bK bF bV true cf ch = some (r1, r2, r3, r4, r5)) ∧ Aside0 (kq ≤ kj17) ∧ Aside0 (wc.heap[bv]? = some (.cells #[.string br, .int .i64 bp, .bool bk, .bool bf, .bool bd] 38 (0, 0))) ∧ Aside0 (wc.heap[bD]? = some (.cells #[.string (bb ++ bF), .int .i64 bg, .bool true, .bool bw, .bool bK] 38 (0, 0))) ∧ Aside0 (wc.heap[bN]? = some (.cells #[.string bF, .int .i64 bV, .bool true, .bool cf, .bool ch] 38 (0, 0))) ∧ Aside0 (Below w.heap.size w wc))
        case first =>
         have H := cx.out
         clear cx
         by_cases fM : bq = true
         ·subst fM
          rw [if_pos rfl] at H
          have H' := zam H
          clear H
          have kW := bz.out
          have kX := bc.out
          have kY := bm.out
          have kZ := bs.out
          obtain ⟨fN, fP, fQ, fR, fS, fT, fV, fW, fX, fY⟩ := cells5 bn.out
          go_wp2
          go_meet
          case rel => exact ⟨_, (true), H', ⟨zlo2 HK1.out cp.out⟩, ⟨by refine zbk ?_; refine blk_far ?_ bc.out _; refine zbk ?_; exact bj.out⟩, ⟨by refine zbk ?_; refine blk_put (cs := #[.string (bb ++ bF), .int .i64 bg, .bool true, .bool bw, .bool true]) ?_ 4 _ rfl; refine zbk ?_; exact bn.out⟩, ⟨by refine zbk ?_; refine blk_far ?_ bs.out _; refine zbk ?_; exact bx.out⟩, ⟨zbl3 HB.out bC.out bJ.out bW.out⟩⟩
         ·replace fM := Bool.eq_false_iff.mpr fM
          subst fM
          rw [if_neg (show ¬ (false = true) by decide)] at H
          have H' := zam H
          clear H
          have mb := bz.out
          have mc := bc.out
          have md := bm.out
          have mf := bs.out
          obtain ⟨fZ, gb, gc, gd, gf, gg, gh, gj, gm, gn⟩ := cells5 bn.out
          have mg := bG.out
          have mh := bh.out
          obtain ⟨gp, gq, gr, gs, gt, gv, gw, gx, gy, gz⟩ := cells5 bx.out
          go_wp2
          go_meet
          case rel => exact ⟨_, (ch), H', ⟨zlo2 HK1.out cp.out⟩, ⟨by refine zbk ?_; refine blk_far ?_ bc.out _; refine zbk ?_; exact bj.out⟩, ⟨by refine zbk ?_; refine blk_put (cs := #[.string (bb ++ bF), .int .i64 bg, .bool true, .bool bw, .bool false]) ?_ 4 _ rfl; refine zbk ?_; exact bn.out⟩, ⟨by refine zbk ?_; refine blk_far ?_ bs.out _; refine zbk ?_; exact bx.out⟩, ⟨zbl3 HB.out bC.out bJ.out bW.out⟩⟩
        case rest =>
         clear cx
         obtain ⟨kq, bK, HA, cF, bj, bn, bx, HB⟩ := hcut
         cases kq with
         | zero => exact absurd HA.out (by simp [spec_l1Array.j2])
         | succ kj34 =>
          have H := HA.out
          clear HA
          simp only [spec_l1Array.j2] at H
          replace H := Option.bind_eq_some_iff.mp H
          obtain ⟨bL, cG, H⟩ := H
          have kj := zam cG
          clear cG
          replace H := Option.bind_eq_some_iff.mp H
          obtain ⟨ct, cH, H⟩ := H
          have kk := zam cH
          clear cH
          by_cases gB : ct = true
          ·subst gB
           rw [if_pos rfl] at H
           by_cases cJ : (bb ++ bF).size + 1 ≤ 9223372036854775807
           ·rw [if_pos cJ] at H
            have mj := eq_true cJ
            have cK := decide_eq_true cJ
            try have cL : (9223372036854775807 < (bb ++ bF).size + 1) = False := eq_false (Nat.not_lt.2 cJ)
            try (have cM := cK; simp only [ByteArray.size_append] at cM)
            try (have cN := cL; simp only [ByteArray.size_append] at cN)
            simp only [Option.some.injEq, Prod.mk.injEq] at H
            obtain ⟨rfl, rfl, rfl, rfl, rfl⟩ := H
            have mm := bG.out
            have mn := bh.out
            have mq := bs.out
            have mr := bm.out
            obtain ⟨gC, gD, gF, gG, gH, gJ, gK, gL, gM, gN⟩ := cells5 bx.out
            go_wp2_with (first | ((with_reducible refine gate_callee (f := 18) rfl ?_); refine goesL_ (some 48) rfl rfl Tryz.func18 (by kernel_rfl) rfl #[.string a0, .int .i64 bV] rfl zar ?_; (with_reducible refine (spec_l1Skip.calls kj34 a0 bV bL _ kj.out).mono ?_); rintro e w' ⟨rfl, ⟨nd, rfl⟩⟩; refine ⟨_, rfl, ?_⟩; (try (rw [drewN_self wc]; generalize hq_ : World.drewN wc _ = wc; replace bj := zam (blk_at hq_ bj.out); replace bn := zam (blk_at hq_ bn.out); replace bx := zam (blk_at hq_ bx.out); replace HB := zam (below_at hq_ HB.out); clear hq_))) | ((with_reducible refine gate_callee (f := 37) rfl ?_); refine goesL_ (some 51) rfl rfl Tryz.func37 (by kernel_rfl) rfl #[.string a0, .int .i64 bL, .int .u8 93] rfl zar ?_; (with_reducible refine (spec_l1At.calls a0 bL 93 true _ kk.out).mono ?_); rintro e w' ⟨rfl, ⟨nd, rfl⟩⟩; refine ⟨_, rfl, ?_⟩; (try (rw [drewN_self wc]; generalize hq_ : World.drewN wc _ = wc; replace bj := zam (blk_at hq_ bj.out); replace bn := zam (blk_at hq_ bn.out); replace bx := zam (blk_at hq_ bx.out); replace HB := zam (below_at hq_ HB.out); clear hq_)); have ms := bz.out; have mt := bc.out; obtain ⟨gP, gQ, gR, gS, gT, gV, gW, gX, gY, gZ⟩ := cells5 bn.out; obtain ⟨hc, hd, hf, hh, hj, hm, hn, hq, hs, ht⟩ := cells5 bj.out))
            refine bodyPost_ret (results_cell_row rfl _ _ bv 38 #[.string ((bb ++ bF) ++ (⟨#[93]⟩ : ByteArray)), .int .i64 (wrap64 (bL + 1)), .bool true, .bool bw, .bool bK] (0, 0) _ rfl (by refine zbk ?_; refine blk_put (cs := #[.string ((bb ++ bF) ++ (⟨#[93]⟩ : ByteArray)), .int .i64 (wrap64 (bL + 1)), .bool true, .bool bw, .bool bd]) ?_ 4 _ rfl; refine zbk ?_; refine blk_put (cs := #[.string ((bb ++ bF) ++ (⟨#[93]⟩ : ByteArray)), .int .i64 (wrap64 (bL + 1)), .bool true, .bool bf, .bool bd]) ?_ 3 _ rfl; refine zbk ?_; refine blk_put (cs := #[.string ((bb ++ bF) ++ (⟨#[93]⟩ : ByteArray)), .int .i64 (wrap64 (bL + 1)), .bool bk, .bool bf, .bool bd]) ?_ 2 _ rfl; refine zbk ?_; refine blk_put (cs := #[.string ((bb ++ bF) ++ (⟨#[93]⟩ : ByteArray)), .int .i64 bp, .bool bk, .bool bf, .bool bd]) ?_ 1 _ rfl; refine zbk ?_; refine blk_put (cs := #[.string br, .int .i64 bp, .bool bk, .bool bf, .bool bd]) ?_ 0 _ rfl; refine zbk ?_; refine blk_far ?_ bc.out _; refine zbk ?_; refine blk_far ?_ bc.out _; refine zbk ?_; exact bj.out) Tryz.underlying38 rfl (by kernel_rfl)) rfl ?_
            exact ⟨zer, zbl3 HB.out bC.out bJ.out bW.out⟩
           ·rw [if_neg cJ] at H
            exact absurd H (by simp)
          ·replace gB := Bool.eq_false_iff.mpr gB
           subst gB
           rw [if_neg (show ¬ (false = true) by decide)] at H
           replace H := Option.bind_eq_some_iff.mp H
           obtain ⟨cv, cP, H⟩ := H
           have mv := zam cP
           clear cP
           by_cases hv : cv = true
           ·subst hv
            rw [if_pos rfl] at H
            by_cases cQ : (bb ++ bF).size + 1 ≤ 9223372036854775807
            ·rw [if_pos cQ] at H
             have mw := eq_true cQ
             have cR := decide_eq_true cQ
             try have cS : (9223372036854775807 < (bb ++ bF).size + 1) = False := eq_false (Nat.not_lt.2 cQ)
             try (have cT := cR; simp only [ByteArray.size_append] at cT)
             try (have cV := cS; simp only [ByteArray.size_append] at cV)
             replace H := Option.bind_eq_some_iff.mp H
             obtain ⟨cn, cW, H⟩ := H
             have mX := zam cW
             clear cW
             have H' := zam H
             clear H
             have mx := bG.out
             have my := bh.out
             have mz := bs.out
             have mB := bm.out
             obtain ⟨hw, hx, hy, hz, hB, hC, hD, hF, hG, hH⟩ := cells5 bx.out
             go_wp2_with (first | ((with_reducible refine gate_callee (f := 18) rfl ?_); refine goesL_ (some 48) rfl rfl Tryz.func18 (by kernel_rfl) rfl #[.string a0, .int .i64 bV] rfl zar ?_; (with_reducible refine (spec_l1Skip.calls kj34 a0 bV bL _ kj.out).mono ?_); rintro e w' ⟨rfl, ⟨nd, rfl⟩⟩; refine ⟨_, rfl, ?_⟩; (try (rw [drewN_self wc]; generalize hq_ : World.drewN wc _ = wc; replace bj := zam (blk_at hq_ bj.out); replace bn := zam (blk_at hq_ bn.out); replace bx := zam (blk_at hq_ bx.out); replace HB := zam (below_at hq_ HB.out); clear hq_))) | ((with_reducible refine gate_callee (f := 37) rfl ?_); refine goesL_ (some 51) rfl rfl Tryz.func37 (by kernel_rfl) rfl #[.string a0, .int .i64 bL, .int .u8 93] rfl zar ?_; (with_reducible refine (spec_l1At.calls a0 bL 93 false _ kk.out).mono ?_); rintro e w' ⟨rfl, ⟨nd, rfl⟩⟩; refine ⟨_, rfl, ?_⟩; (try (rw [drewN_self wc]; generalize hq_ : World.drewN wc _ = wc; replace bj := zam (blk_at hq_ bj.out); replace bn := zam (blk_at hq_ bn.out); replace bx := zam (blk_at hq_ bx.out); replace HB := zam (below_at hq_ HB.out); clear hq_))) | ((with_reducible refine gate_callee (f := 37) rfl ?_); refine goesL_ (some 62) rfl rfl Tryz.func37 (by kernel_rfl) rfl #[.string a0, .int .i64 bL, .int .u8 44] rfl zar ?_; (with_reducible refine (spec_l1At.calls a0 bL 44 true _ mv.out).mono ?_); rintro e w' ⟨rfl, ⟨nd, rfl⟩⟩; refine ⟨_, rfl, ?_⟩; (try (rw [drewN_self wc]; generalize hq_ : World.drewN wc _ = wc; replace bj := zam (blk_at hq_ bj.out); replace bn := zam (blk_at hq_ bn.out); replace bx := zam (blk_at hq_ bx.out); replace HB := zam (below_at hq_ HB.out); clear hq_)); have mC := bz.out; have mD := bc.out; obtain ⟨hJ, hK, hL, hM, hN, hP, hQ, hR, hS, hT⟩ := cells5 bn.out) | ((with_reducible refine gate_callee (f := 18) rfl ?_); refine goesL_ (some 72) rfl rfl Tryz.func18 (by kernel_rfl) rfl #[.string a0, .int .i64 (wrap64 (bL + 1))] rfl zar ?_; (with_reducible refine (spec_l1Skip.calls kj34 a0 (wrap64 (bL + 1)) cn _ mX.out).mono ?_); rintro e w' ⟨rfl, ⟨nd, rfl⟩⟩; refine ⟨_, rfl, ?_⟩))
             go_roundg kj34
             case measure => have := HK1.out; have := cp.out; have := cF.out; omega
             case rel => exact ⟨(cn), (br), (bp), (bk), (bf), (bd), ((bb ++ bF) ++ (⟨#[44]⟩ : ByteArray)), (bg), (bw), (bK), zrs, H', ⟨zlo3 HK1.out cp.out cF.out⟩, ⟨by refine zbk ?_; refine blk_far ?_ bc.out _; refine zbk ?_; exact bj.out⟩, ⟨by refine zbk ?_; refine blk_put (cs := #[.string (bb ++ bF), .int .i64 bg, .bool true, .bool bw, .bool bK]) ?_ 0 _ rfl; refine zbk ?_; exact bn.out⟩, ⟨zbl3 HB.out bC.out bJ.out bW.out⟩⟩
            ·rw [if_neg cQ] at H
             exact absurd H (by simp)
           ·replace hv := Bool.eq_false_iff.mpr hv
            subst hv
            rw [if_neg (show ¬ (false = true) by decide)] at H
            simp only [Option.some.injEq, Prod.mk.injEq] at H
            obtain ⟨rfl, rfl, rfl, rfl, rfl⟩ := H
            have mF := bG.out
            have mG := bh.out
            have mH := bs.out
            have mJ := bm.out
            obtain ⟨hV, hW, hX, hY, hZ, jb, jc, jd, jf, jg⟩ := cells5 bx.out
            go_wp2_with (first | ((with_reducible refine gate_callee (f := 18) rfl ?_); refine goesL_ (some 48) rfl rfl Tryz.func18 (by kernel_rfl) rfl #[.string a0, .int .i64 bV] rfl zar ?_; (with_reducible refine (spec_l1Skip.calls kj34 a0 bV bL _ kj.out).mono ?_); rintro e w' ⟨rfl, ⟨nd, rfl⟩⟩; refine ⟨_, rfl, ?_⟩; (try (rw [drewN_self wc]; generalize hq_ : World.drewN wc _ = wc; replace bj := zam (blk_at hq_ bj.out); replace bn := zam (blk_at hq_ bn.out); replace bx := zam (blk_at hq_ bx.out); replace HB := zam (below_at hq_ HB.out); clear hq_))) | ((with_reducible refine gate_callee (f := 37) rfl ?_); refine goesL_ (some 51) rfl rfl Tryz.func37 (by kernel_rfl) rfl #[.string a0, .int .i64 bL, .int .u8 93] rfl zar ?_; (with_reducible refine (spec_l1At.calls a0 bL 93 false _ kk.out).mono ?_); rintro e w' ⟨rfl, ⟨nd, rfl⟩⟩; refine ⟨_, rfl, ?_⟩; (try (rw [drewN_self wc]; generalize hq_ : World.drewN wc _ = wc; replace bj := zam (blk_at hq_ bj.out); replace bn := zam (blk_at hq_ bn.out); replace bx := zam (blk_at hq_ bx.out); replace HB := zam (below_at hq_ HB.out); clear hq_))) | ((with_reducible refine gate_callee (f := 37) rfl ?_); refine goesL_ (some 62) rfl rfl Tryz.func37 (by kernel_rfl) rfl #[.string a0, .int .i64 bL, .int .u8 44] rfl zar ?_; (with_reducible refine (spec_l1At.calls a0 bL 44 false _ mv.out).mono ?_); rintro e w' ⟨rfl, ⟨nd, rfl⟩⟩; refine ⟨_, rfl, ?_⟩; (try (rw [drewN_self wc]; generalize hq_ : World.drewN wc _ = wc; replace bj := zam (blk_at hq_ bj.out); replace bn := zam (blk_at hq_ bn.out); replace bx := zam (blk_at hq_ bx.out); replace HB := zam (below_at hq_ HB.out); clear hq_)); have mK := bc.out; have mL := bz.out; obtain ⟨jh, jj, jk, jm, jn, jp, jq, jr, js, jt⟩ := cells5 bj.out))
            refine bodyPost_ret (results_cell_row rfl _ _ bv 38 #[.string (⟨#[]⟩ : ByteArray), .int .i64 0, .bool false, .bool false, .bool false] (0, 0) _ rfl (by refine zbk ?_; refine blk_put (cs := #[.string (⟨#[]⟩ : ByteArray), .int .i64 0, .bool false, .bool false, .bool bd]) ?_ 4 _ rfl; refine zbk ?_; refine blk_put (cs := #[.string (⟨#[]⟩ : ByteArray), .int .i64 0, .bool false, .bool bf, .bool bd]) ?_ 3 _ rfl; refine zbk ?_; refine blk_put (cs := #[.string (⟨#[]⟩ : ByteArray), .int .i64 0, .bool bk, .bool bf, .bool bd]) ?_ 2 _ rfl; refine zbk ?_; refine blk_put (cs := #[.string (⟨#[]⟩ : ByteArray), .int .i64 bp, .bool bk, .bool bf, .bool bd]) ?_ 1 _ rfl; refine zbk ?_; refine blk_put (cs := #[.string br, .int .i64 bp, .bool bk, .bool bf, .bool bd]) ?_ 0 _ rfl; refine zbk ?_; exact bj.out) Tryz.underlying38 rfl (by kernel_rfl)) rfl ?_
            exact ⟨zer, zbl3 HB.out bC.out bJ.out bW.out⟩
     ·rw [if_neg cC] at H
      exact absurd H (by simp)
    ·replace dx := Bool.eq_false_iff.mpr dx
     subst dx
     rw [if_neg (show ¬ (false = true) by decide)] at H
     simp only [Option.some.injEq, Prod.mk.injEq] at H
     obtain ⟨rfl, rfl, rfl, rfl, rfl⟩ := H
     go_wp2_with (first | ((with_reducible refine gate_callee (f := 17) rfl ?_); refine goesL_ (some 20) rfl rfl Tryz.func17 (by kernel_rfl) rfl #[.string a0, .int .i64 cg] rfl zar ?_; (with_reducible refine (spec_l1Value.calls a0 cg bF bV false cf ch _ kx.out).mono ?_); rintro e ng ⟨rfl, hb⟩; refine ⟨_, rfl, ?_⟩; replace bj := zam (blk_below (g := bv) (o := .cells #[.string br, .int .i64 bp, .bool bk, .bool bf, .bool bd] 38 (0, 0)) (zbk bj.out) hb); replace bn := zam (blk_below (g := bD) (o := .cells #[.string bb, .int .i64 bg, .bool true, .bool bB, .bool bq] 38 (0, 0)) (zbk bn.out) hb); replace HB := zam (below_step (zbl2 HB.out bC.out bJ.out) hb); (try clear hb); (try clear hb2); (try clear hk); (try clear hi)) | ((with_reducible refine gate_dst (N := 6) rfl ?_); refine zbox (N := 6) (cs := #[.string (⟨#[]⟩ : ByteArray), .int .i64 0, .bool false, .bool false, .bool false]) (t := 38) ?_; intro bN hg nh hbox hb; have bx := zam (hbox); have cD := zam ((by rw [hg]; exact (below_size (zbl2 HB.out bC.out bJ.out)) : w.heap.size ≤ bN)); have bW := zam ((by rw [hg]; exact (below_size (zbl2 HB.out bC.out bJ.out)) : w.heap.size ≤ bN)); have bh := zam ((by rw [hg]; exact Nat.ne_of_lt (blk_lt (g := bv) (o := .cells #[.string br, .int .i64 bp, .bool bk, .bool bf, .bool bd] 38 (0, 0)) (zbk bj.out)) : bv ≠ bN)); have bG := zam ((by rw [hg]; exact Nat.ne_of_gt (blk_lt (g := bv) (o := .cells #[.string br, .int .i64 bp, .bool bk, .bool bf, .bool bd] 38 (0, 0)) (zbk bj.out)) : bN ≠ bv)); have bm := zam ((by rw [hg]; exact Nat.ne_of_lt (blk_lt (g := bD) (o := .cells #[.string bb, .int .i64 bg, .bool true, .bool bB, .bool bq] 38 (0, 0)) (zbk bn.out)) : bD ≠ bN)); have bs := zam ((by rw [hg]; exact Nat.ne_of_gt (blk_lt (g := bD) (o := .cells #[.string bb, .int .i64 bg, .bool true, .bool bB, .bool bq] 38 (0, 0)) (zbk bn.out)) : bN ≠ bD)); replace bj := zam (blk_below (g := bv) (o := .cells #[.string br, .int .i64 bp, .bool bk, .bool bf, .bool bd] 38 (0, 0)) (zbk bj.out) hb); replace bn := zam (blk_below (g := bD) (o := .cells #[.string bb, .int .i64 bg, .bool true, .bool bB, .bool bq] 38 (0, 0)) (zbk bn.out) hb); replace HB := zam (below_step (zbl2 HB.out bC.out bJ.out) hb); clear hb hbox hg; have mM := bG.out; have mN := bh.out; have mP := bs.out; have mQ := bm.out; obtain ⟨jv, jw, jx, jy, jz, jB, jC, jD, jF, jG⟩ := cells5 bx.out; have mR := bc.out; have mS := bz.out; obtain ⟨jH, jJ, jK, jL, jM, jN, jP, jQ, jR, jS⟩ := cells5 bj.out))
     refine bodyPost_ret (results_cell_row rfl _ _ bv 38 #[.string (⟨#[]⟩ : ByteArray), .int .i64 0, .bool false, .bool false, .bool false] (0, 0) _ rfl (by refine zbk ?_; refine blk_put (cs := #[.string (⟨#[]⟩ : ByteArray), .int .i64 0, .bool false, .bool false, .bool bd]) ?_ 4 _ rfl; refine zbk ?_; refine blk_put (cs := #[.string (⟨#[]⟩ : ByteArray), .int .i64 0, .bool false, .bool bf, .bool bd]) ?_ 3 _ rfl; refine zbk ?_; refine blk_put (cs := #[.string (⟨#[]⟩ : ByteArray), .int .i64 0, .bool bk, .bool bf, .bool bd]) ?_ 2 _ rfl; refine zbk ?_; refine blk_put (cs := #[.string (⟨#[]⟩ : ByteArray), .int .i64 bp, .bool bk, .bool bf, .bool bd]) ?_ 1 _ rfl; refine zbk ?_; refine blk_put (cs := #[.string br, .int .i64 bp, .bool bk, .bool bf, .bool bd]) ?_ 0 _ rfl; refine zbk ?_; refine blk_far ?_ bh.out _; refine zbk ?_; refine blk_far ?_ bh.out _; refine zbk ?_; refine blk_far ?_ bh.out _; refine zbk ?_; refine blk_far ?_ bh.out _; refine zbk ?_; refine blk_far ?_ bh.out _; refine zbk ?_; exact bj.out) Tryz.underlying38 rfl (by kernel_rfl)) rfl ?_
     exact ⟨zer, zbl3 HB.out bC.out bJ.out bW.out⟩
end
def spec_l1Find.l0 : Nat → List (S91) → ByteArray → Int → Option (Int)
 | 0, _, _, _ => none
 | k + 1, x0, x1, x5 => if x5 < (x0.length : Int) then (if 0 ≤ x5 then (if ((rd_T91 x0 x5).f0).toList = x1.toList then (some x5) else (spec_l1Find.l0 k x0 x1 (wrap64 (x5 + 1)))) else (none)) else (some (-1))
def spec_l1Find.f (k : Nat) (l0 : List (S91)) (a1 : ByteArray) : Option (Int) := spec_l1Find.l0 k l0 a1 0
set_option maxHeartbeats 8000000 in
set_option maxRecDepth 100000 in
theorem spec_l1Find.calls (k : Nat) (A0 : Option Addr) (c0 : Nat) (l0 : List (S91)) (a1 : ByteArray) (r : Int) (w : World) (hr0 : Kd.C k91 w A0 l0.length l0) (mT : l0.length ≤ c0) (h : spec_l1Find.f k l0 a1 = some r) :
  Calls Tryz.prog 60 #[.slice A0 l0.length c0, .string a1] w fun e w' => e = .returned (.int .i64 r) ∧ Drawn0 w w' := by
 have HR0 := zam hr0
 have nj := zam mT
 clear hr0 mT
 have H : (spec_l1Find.l0 k l0 a1 0) = some r := h
 clear h
 have H' := zam H
 clear H
 go_enter Tryz.func60, Tryz.ntmps60
 go_wp2
 (try simp only [Act.put, List.setIfInBounds_toArray, List.set_cons_zero, List.set_cons_succ])
 go_loopg [5] k (fun kq v5 w' => ∃ (bX : Int), v5 = .int .i64 bX ∧ Aside0 (spec_l1Find.l0 kq l0 a1 bX = some r) ∧ Aside0 (kq ≤ k) ∧ Drawn0 w w')
 case atStart => exact ⟨(0), zrs, H', ⟨Nat.le_refl _⟩, by repeat (first | exact Drawn0.refl _ | apply Drawn0.step)⟩
 case round =>
  clear H'
  obtain ⟨bX, rfl, HA, HK1, ⟨m1, rfl⟩⟩ := hrel
  cases gk with
  | zero => exact absurd HA.out (by simp [spec_l1Find.l0])
  | succ k1 =>
   have H := HA.out
   clear HA
   simp only [spec_l1Find.l0] at H
   by_cases c3 : bX < (l0.length : Int)
   ·rw [if_pos c3] at H
    have kn := decide_eq_true c3
    clear c3
    by_cases c4 : 0 ≤ bX
    ·rw [if_pos c4] at H
     have mY := decide_eq_true c4
     clear c4
     by_cases c5 : ((rd_T91 l0 bX).f0).toList = a1.toList
     ·rw [if_pos c5] at H
      have kp := beq_iff_eq.mpr c5
      have kr := bne_eq_false_iff_eq.mpr c5
      clear c5
      obtain rfl := Option.some.inj H
      have cj : 0 ≤ (bX : Int) := of_decide_eq_true zas
      have ck : bX < (l0.length : Int) := of_decide_eq_true zas
      obtain ⟨ad166, e166, cq, cr⟩ := at_T91 HR0.out bX cj ck
      cases e166
      replace cj := eq_true cj
      replace ck := eq_true ck
      go_wp2
      go_ret
      exact ⟨by first | rfl | (simp; done) | (simp [*]; done), by repeat (first | exact Drawn0.refl _ | apply Drawn0.step)⟩
     ·rw [if_neg c5] at H
      have kp := beq_eq_false_iff_ne.mpr c5
      have kr := bne_iff_ne.mpr c5
      have H' := zam H
      clear H
      have cj : 0 ≤ (bX : Int) := of_decide_eq_true zas
      have ck : bX < (l0.length : Int) := of_decide_eq_true zas
      obtain ⟨ad166, e166, cq, cr⟩ := at_T91 HR0.out bX cj ck
      cases e166
      replace cj := eq_true cj
      replace ck := eq_true ck
      go_wp2
      go_roundg k1
      case measure => have := HK1.out; omega
      case rel => exact ⟨(wrap64 (bX + 1)), zrs, H', ⟨zlo HK1.out⟩, by repeat (first | exact Drawn0.refl _ | apply Drawn0.step)⟩
    ·rw [if_neg c4] at H
     exact absurd H (by simp)
   ·rw [if_neg c3] at H
    have kn := decide_eq_false c3
    clear c3
    obtain rfl := Option.some.inj H
    go_wp2
    go_ret
    exact ⟨by first | rfl | (simp; done) | (simp [*]; done), by repeat (first | exact Drawn0.refl _ | apply Drawn0.step)⟩
end Go.Proofs.YtbonodglnilkfaaGreatDoor.PJt
