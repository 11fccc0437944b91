-- Printed
import Derived.Test.YtndagnkhjlgjgaaGreatDoorReadF
namespace Go.Proofs.YtndagnkhjlgjgaaGreatDoor.PJt
open Go.RowKit Own Xtra YtndagnkhjlgjgaaGreatDoorW.PrintWords YtndagnkhjlgjgaaGreatDoorW.PrintLast YtndagnkhjlgjgaaGreatDoorW.PrintMore
attribute [local go_sem] max2_int min2_int max_two min_two max_three min_three max_four min_four
set_option linter.unusedVariables false
set_option linter.unusedSimpArgs false
abbrev spec_l1Digit.f (a0 : Int) : Option (Bool) := Go.Proofs.YtndagnkhjlgjgaaGreatDoor.PJs.spec_l1Digit.f a0
theorem spec_l1Digit.calls (a0 : Int) (r : Bool) (w : World) (h : spec_l1Digit.f a0 = some r) :
  Calls Tryz.prog 123 #[.int .u8 a0] w fun e w' => e = .returned (.bool r) ∧ Drawn0 w w' := Go.Proofs.YtndagnkhjlgjgaaGreatDoor.PJs.spec_l1Digit.calls a0 r w h
section
variable [Inhabited Rec]
mutual
def spec_l1Array.l0 : Nat → ByteArray → Int → ByteArray → Int → Bool → Bool → Bool → Option (ByteArray × Int × Bool × Bool × Bool)
 | 0, _, _, _, _, _, _, _ => none
 | k + 1, x0, x1, bH, bQ, bP, bR, bS => (spec_l1Value.f x0 x1).bind fun bM => (if bM.2.2.1 = true then (if bH.size + bM.1.size ≤ 9223372036854775807 then (if bR = true then (spec_l1Array.j1 k x0 (bH ++ bM.1) bQ bP true bS bM.1 bM.2.1 bM.2.2.1 bM.2.2.2.1 bM.2.2.2.2) else (spec_l1Array.j1 k x0 (bH ++ bM.1) bQ bP bM.2.2.2.1 bS bM.1 bM.2.1 bM.2.2.1 bM.2.2.2.1 bM.2.2.2.2)) else (none)) else (some ((⟨#[]⟩ : ByteArray), 0, false, false, false)))
def spec_l1Array.j1 : Nat → ByteArray → ByteArray → Int → Bool → Bool → Bool → ByteArray → Int → Bool → Bool → Bool → Option (ByteArray × Int × Bool × Bool × Bool)
 | 0, _, _, _, _, _, _, _, _, _, _, _ => none
 | k + 1, x0, bH, bQ, bP, bR, bS, cb, bY, cc, cd, bZ => if bS = true then (spec_l1Array.j2 k x0 bH bQ bP bR true cb bY cc cd bZ) else (spec_l1Array.j2 k x0 bH bQ bP bR bZ cb bY cc cd bZ)
def spec_l1Array.j2 : Nat → ByteArray → ByteArray → Int → Bool → Bool → Bool → ByteArray → Int → Bool → Bool → Bool → Option (ByteArray × Int × Bool × Bool × Bool)
 | 0, _, _, _, _, _, _, _, _, _, _, _ => none
 | k + 1, x0, bH, bQ, bP, bR, bS, cb, bY, cc, cd, bZ => (spec_l1Skip.f k x0 bY).bind fun bL => ((spec_l1At.f x0 bL 93).bind fun ct => (if ct = true then (if bH.size + 1 ≤ 9223372036854775807 then (some (bH ++ (⟨#[93]⟩ : ByteArray), wrap64 (bL + 1), bP, bR, bS)) else (none)) else ((spec_l1At.f x0 bL 44).bind fun cv => (if cv = true then (if bH.size + 1 ≤ 9223372036854775807 then ((spec_l1Skip.f k x0 (wrap64 (bL + 1))).bind fun cn => (spec_l1Array.l0 k x0 cn (bH ++ (⟨#[44]⟩ : ByteArray)) bQ bP bR bS)) else (none)) else (some ((⟨#[]⟩ : ByteArray), 0, false, false, false))))))
end
def spec_l1Array.f (k : Nat) (a0 : ByteArray) (a1 : Int) : Option (ByteArray × Int × Bool × Bool × Bool) := (spec_l1Skip.f k a0 (wrap64 (a1 + 1))).bind fun bT => ((spec_l1At.f a0 bT 93).bind fun cm => (if cm = true then (some ((⟨#[91, 93]⟩ : ByteArray), wrap64 (bT + 1), true, false, false)) else (spec_l1Array.l0 k a0 bT (⟨#[91]⟩ : ByteArray) 0 true false false)))
set_option maxHeartbeats 8000000 in
set_option maxRecDepth 100000 in
theorem spec_l1Array.calls (k : Nat) (a0 : ByteArray) (a1 : Int) (r1 : ByteArray) (r2 : Int) (r3 : Bool) (r4 : Bool) (r5 : Bool) (w : World) (h : spec_l1Array.f k a0 a1 = some (r1, r2, r3, r4, r5)) :
  Calls Tryz.prog 90 #[.string a0, .int .i64 a1] w fun e w' => e = .returned (.agg #[.string r1, .int .i64 r2, .bool r3, .bool r4, .bool r5]) ∧ Below w.heap.size w w' := by
 have hu82 := Tryz.underlying82; have HB := zam (Below.refl w.heap.size w); have H : ((spec_l1Skip.f k a0 (wrap64 (a1 + 1))).bind fun bT => ((spec_l1At.f a0 bT 93).bind fun cm => (if cm = true then (some ((⟨#[91, 93]⟩ : ByteArray), wrap64 (bT + 1), true, false, false)) else (spec_l1Array.l0 k a0 bT (⟨#[91]⟩ : ByteArray) 0 true false false)))) = some (r1, r2, r3, r4, r5) := h; clear h; replace H := Option.bind_eq_some_iff.mp H; obtain ⟨bT, kt, H⟩ := H; have A3 := zam kt; clear kt; replace H := Option.bind_eq_some_iff.mp H; obtain ⟨cm, kv, H⟩ := H; have A4 := zam kv; clear kv
 by_cases c5 : cm = true
 ·subst c5
  rw [if_pos rfl] at H
  simp only [Option.some.injEq, Prod.mk.injEq] at H
  obtain ⟨rfl, rfl, rfl, rfl, rfl⟩ := H
  go_enter Tryz.func90, Tryz.ntmps90
  go_wp2_with (first | ((with_reducible refine gate_dst (N := 4) rfl ?_); refine zbox (N := 4) (cs := #[.string (⟨#[]⟩ : ByteArray), .int .i64 0, .bool false, .bool false, .bool false]) (t := 82) ?_; intro bv hg w6 hbox hb; have bj := zam (hbox); have cz := zam ((by rw [hg]; exact (below_size (zbl HB.out)) : w.heap.size ≤ bv)); have bC := zam ((by rw [hg]; exact (below_size (zbl HB.out)) : w.heap.size ≤ bv)); replace HB := zam (below_step (zbl HB.out) hb); clear hb hbox hg) | ((with_reducible refine gate_dst (N := 5) rfl ?_); refine zbox (N := 5) (cs := #[.string (⟨#[]⟩ : ByteArray), .int .i64 0, .bool false, .bool false, .bool false]) (t := 82) ?_; intro bD hg w7 hbox hb; have bn := zam (hbox); have cB := zam ((by rw [hg]; exact (below_size (zbl1 HB.out bC.out)) : w.heap.size ≤ bD)); have bJ := zam ((by rw [hg]; exact (below_size (zbl1 HB.out bC.out)) : w.heap.size ≤ bD)); have bc := zam ((by rw [hg]; exact Nat.ne_of_lt (blk_lt (g := bv) (o := .cells #[.string (⟨#[]⟩ : ByteArray), .int .i64 0, .bool false, .bool false, .bool false] 82 (0, 0)) (zbk bj.out)) : bv ≠ bD)); have bz := zam ((by rw [hg]; exact Nat.ne_of_gt (blk_lt (g := bv) (o := .cells #[.string (⟨#[]⟩ : ByteArray), .int .i64 0, .bool false, .bool false, .bool false] 82 (0, 0)) (zbk bj.out)) : bD ≠ bv)); replace bj := zam (blk_below (g := bv) (o := .cells #[.string (⟨#[]⟩ : ByteArray), .int .i64 0, .bool false, .bool false, .bool false] 82 (0, 0)) (zbk bj.out) hb); replace HB := zam (below_step (zbl1 HB.out bC.out) hb); clear hb hbox hg; have mW := bz.out; have mX := bc.out; obtain ⟨jV, jW, jX, jY, jZ, kb, kc, kf, kg, kh⟩ := cells5 bn.out) | ((with_reducible refine gate_callee (f := 50) rfl ?_); refine goesL_ (some 11) rfl rfl Tryz.func50 (by kernel_rfl) rfl #[.string a0, .int .i64 (wrap64 (a1 + 1))] rfl zar ?_; (with_reducible refine (spec_l1Skip.calls k a0 (wrap64 (a1 + 1)) bT _ A3.out).mono ?_); rintro e w' ⟨rfl, ⟨nd, rfl⟩⟩; refine ⟨_, rfl, ?_⟩) | ((with_reducible refine gate_callee (f := 89) rfl ?_); refine goesL_ (some 14) rfl rfl Tryz.func89 (by kernel_rfl) rfl #[.string a0, .int .i64 bT, .int .u8 93] rfl zar ?_; (with_reducible refine (spec_l1At.calls a0 bT 93 true _ A4.out).mono ?_); rintro e w' ⟨rfl, ⟨nd, rfl⟩⟩; refine ⟨_, rfl, ?_⟩; obtain ⟨cY, cZ, db, dc, dd, df, dg, dh, dj, dk⟩ := cells5 bj.out))
  refine bodyPost_ret (results_cell_row rfl _ _ bv 82 #[.string (⟨#[91, 93]⟩ : ByteArray), .int .i64 (wrap64 (bT + 1)), .bool true, .bool false, .bool false] (0, 0) _ rfl (by refine zbk ?_; refine blk_put (cs := #[.string (⟨#[91, 93]⟩ : ByteArray), .int .i64 (wrap64 (bT + 1)), .bool true, .bool false, .bool false]) ?_ 4 _ rfl; refine zbk ?_; refine blk_put (cs := #[.string (⟨#[91, 93]⟩ : ByteArray), .int .i64 (wrap64 (bT + 1)), .bool true, .bool false, .bool false]) ?_ 3 _ rfl; refine zbk ?_; refine blk_put (cs := #[.string (⟨#[91, 93]⟩ : ByteArray), .int .i64 (wrap64 (bT + 1)), .bool false, .bool false, .bool false]) ?_ 2 _ rfl; refine zbk ?_; refine blk_put (cs := #[.string (⟨#[91, 93]⟩ : ByteArray), .int .i64 0, .bool false, .bool false, .bool false]) ?_ 1 _ rfl; refine zbk ?_; refine blk_put (cs := #[.string (⟨#[]⟩ : ByteArray), .int .i64 0, .bool false, .bool false, .bool false]) ?_ 0 _ rfl; refine zbk ?_; refine blk_far ?_ bc.out _; refine zbk ?_; refine blk_far ?_ bc.out _; refine zbk ?_; refine blk_far ?_ bc.out _; refine zbk ?_; refine blk_far ?_ bc.out _; refine zbk ?_; refine blk_far ?_ bc.out _; refine zbk ?_; exact bj.out) Tryz.underlying82 rfl (by kernel_rfl)) rfl ?_
  exact ⟨zer, zbl2 HB.out bC.out bJ.out⟩
 ·replace c5 := Bool.eq_false_iff.mpr c5
  subst c5; rw [if_neg (show ¬ (false = true) by decide)] at H; have H' := zam H; clear H
  go_enter Tryz.func90, Tryz.ntmps90
  go_wp2_with (first | ((with_reducible refine gate_dst (N := 4) rfl ?_); refine zbox (N := 4) (cs := #[.string (⟨#[]⟩ : ByteArray), .int .i64 0, .bool false, .bool false, .bool false]) (t := 82) ?_; intro bv hg nb hbox hb; have bj := zam (hbox); have cz := zam ((by rw [hg]; exact (below_size (zbl HB.out)) : w.heap.size ≤ bv)); have bC := zam ((by rw [hg]; exact (below_size (zbl HB.out)) : w.heap.size ≤ bv)); replace HB := zam (below_step (zbl HB.out) hb); clear hb hbox hg) | ((with_reducible refine gate_dst (N := 5) rfl ?_); refine zbox (N := 5) (cs := #[.string (⟨#[]⟩ : ByteArray), .int .i64 0, .bool false, .bool false, .bool false]) (t := 82) ?_; intro bD hg nc hbox hb; have bn := zam (hbox); have cB := zam ((by rw [hg]; exact (below_size (zbl1 HB.out bC.out)) : w.heap.size ≤ bD)); have bJ := zam ((by rw [hg]; exact (below_size (zbl1 HB.out bC.out)) : w.heap.size ≤ bD)); have bc := zam ((by rw [hg]; exact Nat.ne_of_lt (blk_lt (g := bv) (o := .cells #[.string (⟨#[]⟩ : ByteArray), .int .i64 0, .bool false, .bool false, .bool false] 82 (0, 0)) (zbk bj.out)) : bv ≠ bD)); have bz := zam ((by rw [hg]; exact Nat.ne_of_gt (blk_lt (g := bv) (o := .cells #[.string (⟨#[]⟩ : ByteArray), .int .i64 0, .bool false, .bool false, .bool false] 82 (0, 0)) (zbk bj.out)) : bD ≠ bv)); replace bj := zam (blk_below (g := bv) (o := .cells #[.string (⟨#[]⟩ : ByteArray), .int .i64 0, .bool false, .bool false, .bool false] 82 (0, 0)) (zbk bj.out) hb); replace HB := zam (below_step (zbl1 HB.out bC.out) hb); clear hb hbox hg; have kw := bz.out; have kx := bc.out; obtain ⟨dm, dn, dp, dq, dr, ds, dt, dv, dw, dx⟩ := cells5 bn.out) | ((with_reducible refine gate_callee (f := 50) rfl ?_); refine goesL_ (some 11) rfl rfl Tryz.func50 (by kernel_rfl) rfl #[.string a0, .int .i64 (wrap64 (a1 + 1))] rfl zar ?_; (with_reducible refine (spec_l1Skip.calls k a0 (wrap64 (a1 + 1)) bT _ A3.out).mono ?_); rintro e w' ⟨rfl, ⟨nd, rfl⟩⟩; refine ⟨_, rfl, ?_⟩) | ((with_reducible refine gate_callee (f := 89) rfl ?_); refine goesL_ (some 14) rfl rfl Tryz.func89 (by kernel_rfl) rfl #[.string a0, .int .i64 bT, .int .u8 93] rfl zar ?_; (with_reducible refine (spec_l1At.calls a0 bT 93 false _ A4.out).mono ?_); rintro e w' ⟨rfl, ⟨nd, rfl⟩⟩; refine ⟨_, rfl, ?_⟩))
  (try simp only [Act.put, List.setIfInBounds_toArray, List.set_cons_zero, List.set_cons_succ])
  go_loopg [1] k (fun kq v1 w' => ∃ (cg : Int) (br : ByteArray) (bp : Int) (bk : Bool) (bf : Bool) (bd : Bool) (bb : ByteArray) (bg : Int) (bB : Bool) (bq : Bool), v1 = .int .i64 cg ∧ Aside0 (spec_l1Array.l0 kq a0 cg bb bg true bB bq = some (r1, r2, r3, r4, r5)) ∧ Aside0 (kq ≤ k) ∧ Aside0 (w'.heap[bv]? = some (.cells #[.string br, .int .i64 bp, .bool bk, .bool bf, .bool bd] 82 (0, 0))) ∧ Aside0 (w'.heap[bD]? = some (.cells #[.string bb, .int .i64 bg, .bool true, .bool bB, .bool bq] 82 (0, 0))) ∧ Aside0 (Below w.heap.size w w'))
  case atStart => exact ⟨(bT), ((⟨#[]⟩ : ByteArray)), (0), (false), (false), (false), ((⟨#[91]⟩ : ByteArray)), (0), (false), (false), zrs, H', ⟨Nat.le_refl _⟩, ⟨by refine zbk ?_; refine blk_far ?_ bc.out _; refine zbk ?_; refine blk_far ?_ bc.out _; refine zbk ?_; refine blk_far ?_ bc.out _; refine zbk ?_; refine blk_far ?_ bc.out _; refine zbk ?_; refine blk_far ?_ bc.out _; refine zbk ?_; exact bj.out⟩, ⟨by refine zbk ?_; refine blk_put (cs := #[.string (⟨#[91]⟩ : ByteArray), .int .i64 0, .bool true, .bool false, .bool false]) ?_ 4 _ rfl; refine zbk ?_; refine blk_put (cs := #[.string (⟨#[91]⟩ : ByteArray), .int .i64 0, .bool true, .bool false, .bool false]) ?_ 3 _ rfl; refine zbk ?_; refine blk_put (cs := #[.string (⟨#[91]⟩ : ByteArray), .int .i64 0, .bool false, .bool false, .bool false]) ?_ 2 _ rfl; refine zbk ?_; refine blk_put (cs := #[.string (⟨#[91]⟩ : ByteArray), .int .i64 0, .bool false, .bool false, .bool false]) ?_ 1 _ rfl; refine zbk ?_; refine blk_put (cs := #[.string (⟨#[]⟩ : ByteArray), .int .i64 0, .bool false, .bool false, .bool false]) ?_ 0 _ rfl; refine zbk ?_; exact bn.out⟩, ⟨zbl2 HB.out bC.out bJ.out⟩⟩
  case round =>
   clear H'; obtain ⟨cg, br, bp, bk, bf, bd, bb, bg, bB, bq, rfl, HA, HK1, bj, bn, HB⟩ := hrel
   cases gk with
   | zero => exact absurd HA.out (by simp [spec_l1Array.l0])
   | succ k1 =>
    have H := HA.out; clear HA
    simp only [spec_l1Array.l0] at H
    replace H := Option.bind_eq_some_iff.mp H; obtain ⟨⟨bF, bV, kj, cf, ch⟩, cC, H⟩ := H
    try dsimp only at H
    have ky := zam cC; clear cC
    by_cases dy : kj = true
    ·subst dy
     rw [if_pos rfl] at H
     by_cases cD : bb.size + bF.size ≤ 9223372036854775807
     ·rw [if_pos cD] at H
      have kz := eq_true cD; have kB := decide_eq_true cD
      try have kC : (9223372036854775807 < bb.size + bF.size) = False := eq_false (Nat.not_lt.2 cD)
      have cx := zam H; clear H
      go_upto_region 9 with (first | ((with_reducible refine gate_callee (f := 49) rfl ?_); refine goesL_ (some 20) rfl rfl Tryz.func49 (by kernel_rfl) rfl #[.string a0, .int .i64 cg] rfl zar ?_; (with_reducible refine (spec_l1Value.calls a0 cg bF bV true cf ch _ ky.out).mono ?_); rintro e nf ⟨rfl, hb⟩; refine ⟨_, rfl, ?_⟩; replace bj := zam (blk_below (g := bv) (o := .cells #[.string br, .int .i64 bp, .bool bk, .bool bf, .bool bd] 82 (0, 0)) (zbk bj.out) hb); replace bn := zam (blk_below (g := bD) (o := .cells #[.string bb, .int .i64 bg, .bool true, .bool bB, .bool bq] 82 (0, 0)) (zbk bn.out) hb); replace HB := zam (below_step (zbl2 HB.out bC.out bJ.out) hb); (try clear hb); (try clear hb2); (try clear hk); (try clear hi)) | ((with_reducible refine gate_dst (N := 6) rfl ?_); refine zbox (N := 6) (cs := #[.string (⟨#[]⟩ : ByteArray), .int .i64 0, .bool false, .bool false, .bool false]) (t := 82) ?_; intro bN hg ng hbox hb; have bx := zam (hbox); have cF := zam ((by rw [hg]; exact (below_size (zbl2 HB.out bC.out bJ.out)) : w.heap.size ≤ bN)); have bW := zam ((by rw [hg]; exact (below_size (zbl2 HB.out bC.out bJ.out)) : w.heap.size ≤ bN)); have bh := zam ((by rw [hg]; exact Nat.ne_of_lt (blk_lt (g := bv) (o := .cells #[.string br, .int .i64 bp, .bool bk, .bool bf, .bool bd] 82 (0, 0)) (zbk bj.out)) : bv ≠ bN)); have bG := zam ((by rw [hg]; exact Nat.ne_of_gt (blk_lt (g := bv) (o := .cells #[.string br, .int .i64 bp, .bool bk, .bool bf, .bool bd] 82 (0, 0)) (zbk bj.out)) : bN ≠ bv)); have bm := zam ((by rw [hg]; exact Nat.ne_of_lt (blk_lt (g := bD) (o := .cells #[.string bb, .int .i64 bg, .bool true, .bool bB, .bool bq] 82 (0, 0)) (zbk bn.out)) : bD ≠ bN)); have bs := zam ((by rw [hg]; exact Nat.ne_of_gt (blk_lt (g := bD) (o := .cells #[.string bb, .int .i64 bg, .bool true, .bool bB, .bool bq] 82 (0, 0)) (zbk bn.out)) : bN ≠ bD)); replace bj := zam (blk_below (g := bv) (o := .cells #[.string br, .int .i64 bp, .bool bk, .bool bf, .bool bd] 82 (0, 0)) (zbk bj.out) hb); replace bn := zam (blk_below (g := bD) (o := .cells #[.string bb, .int .i64 bg, .bool true, .bool bB, .bool bq] 82 (0, 0)) (zbk bn.out) hb); replace HB := zam (below_step (zbl2 HB.out bC.out bJ.out) hb); clear hb hbox hg; have kD := bG.out; have kF := bh.out; have kG := bs.out; have kH := bm.out; obtain ⟨dz, dB, dC, dD, dF, dG, dH, dJ, dK, dL⟩ := cells5 bx.out; have kJ := bz.out; have kK := bc.out; obtain ⟨dM, dN, dP, dQ, dR, dS, dT, dV, dW, dX⟩ := cells5 bn.out))
      (try simp only [Act.put, List.setIfInBounds_toArray, List.set_cons_zero, List.set_cons_succ])
      go_cut [] (fun wc => ∃ (kq : Nat) (bw : Bool), Aside0 (spec_l1Array.j1 kq a0 (bb ++ bF) bg true bw bq bF bV true cf ch = some (r1, r2, r3, r4, r5)) ∧ Aside0 (kq ≤ k1) ∧ Aside0 (wc.heap[bv]? = some (.cells #[.string br, .int .i64 bp, .bool bk, .bool bf, .bool bd] 82 (0, 0))) ∧ Aside0 (wc.heap[bD]? = some (.cells #[.string (bb ++ bF), .int .i64 bg, .bool true, .bool bw, .bool bq] 82 (0, 0))) ∧ Aside0 (wc.heap[bN]? = some (.cells #[.string bF, .int .i64 bV, .bool true, .bool cf, .bool ch] 82 (0, 0))) ∧ Aside0 (Below w.heap.size w wc))
      case first =>
       have H := cx.out; clear cx
       by_cases dY : bB = true
       ·subst dY
        rw [if_pos rfl] at H; have H' := zam H; clear H; have kL := bz.out; have kM := bc.out; have kN := bm.out; have kP := bs.out; obtain ⟨dZ, fb, fc, fd, ff, fg, fh, fj, fk, fm⟩ := cells5 bn.out
        go_wp2
        go_meet
        case rel => exact ⟨_, (true), H', ⟨zlo HK1.out⟩, ⟨by refine zbk ?_; refine blk_far ?_ bc.out _; refine zbk ?_; refine blk_far ?_ bc.out _; refine zbk ?_; refine blk_far ?_ bh.out _; refine zbk ?_; refine blk_far ?_ bh.out _; refine zbk ?_; refine blk_far ?_ bh.out _; refine zbk ?_; refine blk_far ?_ bh.out _; refine zbk ?_; refine blk_far ?_ bh.out _; refine zbk ?_; exact bj.out⟩, ⟨by refine zbk ?_; refine blk_put (cs := #[.string (bb ++ bF), .int .i64 bg, .bool true, .bool true, .bool bq]) ?_ 3 _ rfl; refine zbk ?_; refine blk_put (cs := #[.string bb, .int .i64 bg, .bool true, .bool true, .bool bq]) ?_ 0 _ rfl; refine zbk ?_; refine blk_far ?_ bm.out _; refine zbk ?_; refine blk_far ?_ bm.out _; refine zbk ?_; refine blk_far ?_ bm.out _; refine zbk ?_; refine blk_far ?_ bm.out _; refine zbk ?_; refine blk_far ?_ bm.out _; refine zbk ?_; exact bn.out⟩, ⟨by refine zbk ?_; refine blk_far ?_ bs.out _; refine zbk ?_; refine blk_far ?_ bs.out _; refine zbk ?_; refine blk_put (cs := #[.string bF, .int .i64 bV, .bool true, .bool cf, .bool false]) ?_ 4 _ rfl; refine zbk ?_; refine blk_put (cs := #[.string bF, .int .i64 bV, .bool true, .bool false, .bool false]) ?_ 3 _ rfl; refine zbk ?_; refine blk_put (cs := #[.string bF, .int .i64 bV, .bool false, .bool false, .bool false]) ?_ 2 _ rfl; refine zbk ?_; refine blk_put (cs := #[.string bF, .int .i64 0, .bool false, .bool false, .bool false]) ?_ 1 _ rfl; refine zbk ?_; refine blk_put (cs := #[.string (⟨#[]⟩ : ByteArray), .int .i64 0, .bool false, .bool false, .bool false]) ?_ 0 _ rfl; refine zbk ?_; exact bx.out⟩, ⟨zbl3 HB.out bC.out bJ.out bW.out⟩⟩
       ·replace dY := Bool.eq_false_iff.mpr dY
        subst dY; rw [if_neg (show ¬ (false = true) by decide)] at H; have H' := zam H; clear H; have kQ := bz.out; have kR := bc.out; have kS := bm.out; have kT := bs.out; obtain ⟨fn, fp, fq, fr, ft, fv, fw, fx, fy, fz⟩ := cells5 bn.out; have kV := bG.out; have kW := bh.out; obtain ⟨fB, fC, fD, fF, fG, fH, fJ, fK, fL, fM⟩ := cells5 bx.out
        go_wp2
        go_meet
        case rel => exact ⟨_, (cf), H', ⟨zlo HK1.out⟩, ⟨by refine zbk ?_; refine blk_far ?_ bc.out _; refine zbk ?_; refine blk_far ?_ bc.out _; refine zbk ?_; refine blk_far ?_ bh.out _; refine zbk ?_; refine blk_far ?_ bh.out _; refine zbk ?_; refine blk_far ?_ bh.out _; refine zbk ?_; refine blk_far ?_ bh.out _; refine zbk ?_; refine blk_far ?_ bh.out _; refine zbk ?_; exact bj.out⟩, ⟨by refine zbk ?_; refine blk_put (cs := #[.string (bb ++ bF), .int .i64 bg, .bool true, .bool false, .bool bq]) ?_ 3 _ rfl; refine zbk ?_; refine blk_put (cs := #[.string bb, .int .i64 bg, .bool true, .bool false, .bool bq]) ?_ 0 _ rfl; refine zbk ?_; refine blk_far ?_ bm.out _; refine zbk ?_; refine blk_far ?_ bm.out _; refine zbk ?_; refine blk_far ?_ bm.out _; refine zbk ?_; refine blk_far ?_ bm.out _; refine zbk ?_; refine blk_far ?_ bm.out _; refine zbk ?_; exact bn.out⟩, ⟨by refine zbk ?_; refine blk_far ?_ bs.out _; refine zbk ?_; refine blk_far ?_ bs.out _; refine zbk ?_; refine blk_put (cs := #[.string bF, .int .i64 bV, .bool true, .bool cf, .bool false]) ?_ 4 _ rfl; refine zbk ?_; refine blk_put (cs := #[.string bF, .int .i64 bV, .bool true, .bool false, .bool false]) ?_ 3 _ rfl; refine zbk ?_; refine blk_put (cs := #[.string bF, .int .i64 bV, .bool false, .bool false, .bool false]) ?_ 2 _ rfl; refine zbk ?_; refine blk_put (cs := #[.string bF, .int .i64 0, .bool false, .bool false, .bool false]) ?_ 1 _ rfl; refine zbk ?_; refine blk_put (cs := #[.string (⟨#[]⟩ : ByteArray), .int .i64 0, .bool false, .bool false, .bool false]) ?_ 0 _ rfl; refine zbk ?_; exact bx.out⟩, ⟨zbl3 HB.out bC.out bJ.out bW.out⟩⟩
      case rest =>
       clear cx; obtain ⟨kq, bw, HA, cp, bj, bn, bx, HB⟩ := hcut
       cases kq with
       | zero => exact absurd HA.out (by simp [spec_l1Array.j1])
       | succ kj17 =>
        have H := HA.out; clear HA
        simp only [spec_l1Array.j1] at H
        have cy := zam H; clear H
        go_upto_region 10 with (fail)
        go_cut [] (fun wc => ∃ (kq : Nat) (bK : Bool), Aside0 (spec_l1Array.j2 kq a0 (bb ++ bF) bg true bw bK bF bV true cf ch = some (r1, r2, r3, r4, r5)) ∧ Aside0 (kq ≤ kj17) ∧ Aside0 (wc.heap[bv]? = some (.cells #[.string br, .int .i64 bp, .bool bk, .bool bf, .bool bd] 82 (0, 0))) ∧ Aside0 (wc.heap[bD]? = some (.cells #[.string (bb ++ bF), .int .i64 bg, .bool true, .bool bw, .bool bK] 82 (0, 0))) ∧ Aside0 (wc.heap[bN]? = some (.cells #[.string bF, .int .i64 bV, .bool true, .bool cf, .bool ch] 82 (0, 0))) ∧ Aside0 (Below w.heap.size w wc))
        case first =>
         have H := cy.out; clear cy
         by_cases fN : bq = true
         ·subst fN
          rw [if_pos rfl] at H; have H' := zam H; clear H; have kX := bz.out; have kY := bc.out; have kZ := bm.out; have mb := bs.out; obtain ⟨fP, fQ, fR, fS, fT, fV, fW, fX, fY, fZ⟩ := cells5 bn.out
          go_wp2
          go_meet
          case rel => exact ⟨_, (true), H', ⟨zlo2 HK1.out cp.out⟩, ⟨by refine zbk ?_; refine blk_far ?_ bc.out _; refine zbk ?_; exact bj.out⟩, ⟨by refine zbk ?_; refine blk_put (cs := #[.string (bb ++ bF), .int .i64 bg, .bool true, .bool bw, .bool true]) ?_ 4 _ rfl; refine zbk ?_; exact bn.out⟩, ⟨by refine zbk ?_; refine blk_far ?_ bs.out _; refine zbk ?_; exact bx.out⟩, ⟨zbl3 HB.out bC.out bJ.out bW.out⟩⟩
         ·replace fN := Bool.eq_false_iff.mpr fN
          subst fN; rw [if_neg (show ¬ (false = true) by decide)] at H; have H' := zam H; clear H; have mc := bz.out; have md := bc.out; have mf := bm.out; have mg := bs.out; obtain ⟨gb, gc, gd, gf, gg, gh, gj, gm, gn, gp⟩ := cells5 bn.out; have mh := bG.out; have mj := bh.out; obtain ⟨gq, gr, gs, gt, gv, gw, gx, gy, gz, gB⟩ := cells5 bx.out
          go_wp2
          go_meet
          case rel => exact ⟨_, (ch), H', ⟨zlo2 HK1.out cp.out⟩, ⟨by refine zbk ?_; refine blk_far ?_ bc.out _; refine zbk ?_; exact bj.out⟩, ⟨by refine zbk ?_; refine blk_put (cs := #[.string (bb ++ bF), .int .i64 bg, .bool true, .bool bw, .bool false]) ?_ 4 _ rfl; refine zbk ?_; exact bn.out⟩, ⟨by refine zbk ?_; refine blk_far ?_ bs.out _; refine zbk ?_; exact bx.out⟩, ⟨zbl3 HB.out bC.out bJ.out bW.out⟩⟩
        case rest =>
         clear cy; obtain ⟨kq, bK, HA, cG, bj, bn, bx, HB⟩ := hcut
         cases kq with
         | zero => exact absurd HA.out (by simp [spec_l1Array.j2])
         | succ kj34 =>
          have H := HA.out; clear HA
          simp only [spec_l1Array.j2] at H
          replace H := Option.bind_eq_some_iff.mp H; obtain ⟨bL, cH, H⟩ := H; have kk := zam cH; clear cH; replace H := Option.bind_eq_some_iff.mp H; obtain ⟨ct, cJ, H⟩ := H; have km := zam cJ; clear cJ
          by_cases gC : ct = true
          ·subst gC
           rw [if_pos rfl] at H
           by_cases cK : (bb ++ bF).size + 1 ≤ 9223372036854775807
           ·rw [if_pos cK] at H
            have mm := eq_true cK; have cL := decide_eq_true cK
            try have cM : (9223372036854775807 < (bb ++ bF).size + 1) = False := eq_false (Nat.not_lt.2 cK)
            try (have cN := cL; simp only [ByteArray.size_append] at cN)
            try (have cP := cM; simp only [ByteArray.size_append] at cP)
            simp only [Option.some.injEq, Prod.mk.injEq] at H
            obtain ⟨rfl, rfl, rfl, rfl, rfl⟩ := H; have mn := bG.out; have mq := bh.out; have mr := bs.out; have ms := bm.out; obtain ⟨gD, gF, gG, gH, gJ, gK, gL, gM, gN, gP⟩ := cells5 bx.out
            go_wp2_with (first | ((with_reducible refine gate_callee (f := 50) rfl ?_); refine goesL_ (some 48) rfl rfl Tryz.func50 (by kernel_rfl) rfl #[.string a0, .int .i64 bV] rfl zar ?_; (with_reducible refine (spec_l1Skip.calls kj34 a0 bV bL _ kk.out).mono ?_); rintro e w' ⟨rfl, ⟨nd, rfl⟩⟩; refine ⟨_, rfl, ?_⟩; (try (rw [drewN_self wc]; generalize hq_ : World.drewN wc _ = wc; replace bj := zam (blk_at hq_ bj.out); replace bn := zam (blk_at hq_ bn.out); replace bx := zam (blk_at hq_ bx.out); replace HB := zam (below_at hq_ HB.out); clear hq_))) | ((with_reducible refine gate_callee (f := 89) rfl ?_); refine goesL_ (some 51) rfl rfl Tryz.func89 (by kernel_rfl) rfl #[.string a0, .int .i64 bL, .int .u8 93] rfl zar ?_; (with_reducible refine (spec_l1At.calls a0 bL 93 true _ km.out).mono ?_); rintro e w' ⟨rfl, ⟨nd, rfl⟩⟩; refine ⟨_, rfl, ?_⟩; (try (rw [drewN_self wc]; generalize hq_ : World.drewN wc _ = wc; replace bj := zam (blk_at hq_ bj.out); replace bn := zam (blk_at hq_ bn.out); replace bx := zam (blk_at hq_ bx.out); replace HB := zam (below_at hq_ HB.out); clear hq_)); have mt := bz.out; have mv := bc.out; obtain ⟨gQ, gR, gS, gT, gV, gW, gX, gY, gZ, hc⟩ := cells5 bn.out; obtain ⟨hd, hf, hh, hj, hm, hn, hq, hs, ht, hv⟩ := cells5 bj.out))
            refine bodyPost_ret (results_cell_row rfl _ _ bv 82 #[.string ((bb ++ bF) ++ (⟨#[93]⟩ : ByteArray)), .int .i64 (wrap64 (bL + 1)), .bool true, .bool bw, .bool bK] (0, 0) _ rfl (by refine zbk ?_; refine blk_put (cs := #[.string ((bb ++ bF) ++ (⟨#[93]⟩ : ByteArray)), .int .i64 (wrap64 (bL + 1)), .bool true, .bool bw, .bool bd]) ?_ 4 _ rfl; refine zbk ?_; refine blk_put (cs := #[.string ((bb ++ bF) ++ (⟨#[93]⟩ : ByteArray)), .int .i64 (wrap64 (bL + 1)), .bool true, .bool bf, .bool bd]) ?_ 3 _ rfl; refine zbk ?_; refine blk_put (cs := #[.string ((bb ++ bF) ++ (⟨#[93]⟩ : ByteArray)), .int .i64 (wrap64 (bL + 1)), .bool bk, .bool bf, .bool bd]) ?_ 2 _ rfl; refine zbk ?_; refine blk_put (cs := #[.string ((bb ++ bF) ++ (⟨#[93]⟩ : ByteArray)), .int .i64 bp, .bool bk, .bool bf, .bool bd]) ?_ 1 _ rfl; refine zbk ?_; refine blk_put (cs := #[.string br, .int .i64 bp, .bool bk, .bool bf, .bool bd]) ?_ 0 _ rfl; refine zbk ?_; refine blk_far ?_ bc.out _; refine zbk ?_; refine blk_far ?_ bc.out _; refine zbk ?_; exact bj.out) Tryz.underlying82 rfl (by kernel_rfl)) rfl ?_
            exact ⟨zer, zbl3 HB.out bC.out bJ.out bW.out⟩
           ·rw [if_neg cK] at H
            exact absurd H (by simp)
          ·replace gC := Bool.eq_false_iff.mpr gC
           subst gC; rw [if_neg (show ¬ (false = true) by decide)] at H; replace H := Option.bind_eq_some_iff.mp H; obtain ⟨cv, cQ, H⟩ := H; have mw := zam cQ; clear cQ
           by_cases hw : cv = true
           ·subst hw
            rw [if_pos rfl] at H
            by_cases cR : (bb ++ bF).size + 1 ≤ 9223372036854775807
            ·rw [if_pos cR] at H
             have mx := eq_true cR; have cS := decide_eq_true cR
             try have cT : (9223372036854775807 < (bb ++ bF).size + 1) = False := eq_false (Nat.not_lt.2 cR)
             try (have cV := cS; simp only [ByteArray.size_append] at cV)
             try (have cW := cT; simp only [ByteArray.size_append] at cW)
             replace H := Option.bind_eq_some_iff.mp H; obtain ⟨cn, cX, H⟩ := H; have mY := zam cX; clear cX; have H' := zam H; clear H; have my := bG.out; have mz := bh.out; have mB := bs.out; have mC := bm.out; obtain ⟨hx, hy, hz, hB, hC, hD, hF, hG, hH, hJ⟩ := cells5 bx.out
             go_wp2_with (first | ((with_reducible refine gate_callee (f := 50) rfl ?_); refine goesL_ (some 48) rfl rfl Tryz.func50 (by kernel_rfl) rfl #[.string a0, .int .i64 bV] rfl zar ?_; (with_reducible refine (spec_l1Skip.calls kj34 a0 bV bL _ kk.out).mono ?_); rintro e w' ⟨rfl, ⟨nd, rfl⟩⟩; refine ⟨_, rfl, ?_⟩; (try (rw [drewN_self wc]; generalize hq_ : World.drewN wc _ = wc; replace bj := zam (blk_at hq_ bj.out); replace bn := zam (blk_at hq_ bn.out); replace bx := zam (blk_at hq_ bx.out); replace HB := zam (below_at hq_ HB.out); clear hq_))) | ((with_reducible refine gate_callee (f := 89) rfl ?_); refine goesL_ (some 51) rfl rfl Tryz.func89 (by kernel_rfl) rfl #[.string a0, .int .i64 bL, .int .u8 93] rfl zar ?_; (with_reducible refine (spec_l1At.calls a0 bL 93 false _ km.out).mono ?_); rintro e w' ⟨rfl, ⟨nd, rfl⟩⟩; refine ⟨_, rfl, ?_⟩; (try (rw [drewN_self wc]; generalize hq_ : World.drewN wc _ = wc; replace bj := zam (blk_at hq_ bj.out); replace bn := zam (blk_at hq_ bn.out); replace bx := zam (blk_at hq_ bx.out); replace HB := zam (below_at hq_ HB.out); clear hq_))) | ((with_reducible refine gate_callee (f := 89) rfl ?_); refine goesL_ (some 62) rfl rfl Tryz.func89 (by kernel_rfl) rfl #[.string a0, .int .i64 bL, .int .u8 44] rfl zar ?_; (with_reducible refine (spec_l1At.calls a0 bL 44 true _ mw.out).mono ?_); rintro e w' ⟨rfl, ⟨nd, rfl⟩⟩; refine ⟨_, rfl, ?_⟩; (try (rw [drewN_self wc]; generalize hq_ : World.drewN wc _ = wc; replace bj := zam (blk_at hq_ bj.out); replace bn := zam (blk_at hq_ bn.out); replace bx := zam (blk_at hq_ bx.out); replace HB := zam (below_at hq_ HB.out); clear hq_)); have mD := bz.out; have mF := bc.out; obtain ⟨hK, hL, hM, hN, hP, hQ, hR, hS, hT, hV⟩ := cells5 bn.out) | ((with_reducible refine gate_callee (f := 50) rfl ?_); refine goesL_ (some 72) rfl rfl Tryz.func50 (by kernel_rfl) rfl #[.string a0, .int .i64 (wrap64 (bL + 1))] rfl zar ?_; (with_reducible refine (spec_l1Skip.calls kj34 a0 (wrap64 (bL + 1)) cn _ mY.out).mono ?_); rintro e w' ⟨rfl, ⟨nd, rfl⟩⟩; refine ⟨_, rfl, ?_⟩))
             go_roundg kj34
             case measure => have := HK1.out; have := cp.out; have := cG.out; omega
             case rel => exact ⟨(cn), (br), (bp), (bk), (bf), (bd), ((bb ++ bF) ++ (⟨#[44]⟩ : ByteArray)), (bg), (bw), (bK), zrs, H', ⟨zlo3 HK1.out cp.out cG.out⟩, ⟨by refine zbk ?_; refine blk_far ?_ bc.out _; refine zbk ?_; exact bj.out⟩, ⟨by refine zbk ?_; refine blk_put (cs := #[.string (bb ++ bF), .int .i64 bg, .bool true, .bool bw, .bool bK]) ?_ 0 _ rfl; refine zbk ?_; exact bn.out⟩, ⟨zbl3 HB.out bC.out bJ.out bW.out⟩⟩
            ·rw [if_neg cR] at H
             exact absurd H (by simp)
           ·replace hw := Bool.eq_false_iff.mpr hw
            subst hw; rw [if_neg (show ¬ (false = true) by decide)] at H
            simp only [Option.some.injEq, Prod.mk.injEq] at H
            obtain ⟨rfl, rfl, rfl, rfl, rfl⟩ := H; have mG := bG.out; have mH := bh.out; have mJ := bs.out; have mK := bm.out; obtain ⟨hW, hX, hY, hZ, jb, jc, jd, jf, jg, jh⟩ := cells5 bx.out
            go_wp2_with (first | ((with_reducible refine gate_callee (f := 50) rfl ?_); refine goesL_ (some 48) rfl rfl Tryz.func50 (by kernel_rfl) rfl #[.string a0, .int .i64 bV] rfl zar ?_; (with_reducible refine (spec_l1Skip.calls kj34 a0 bV bL _ kk.out).mono ?_); rintro e w' ⟨rfl, ⟨nd, rfl⟩⟩; refine ⟨_, rfl, ?_⟩; (try (rw [drewN_self wc]; generalize hq_ : World.drewN wc _ = wc; replace bj := zam (blk_at hq_ bj.out); replace bn := zam (blk_at hq_ bn.out); replace bx := zam (blk_at hq_ bx.out); replace HB := zam (below_at hq_ HB.out); clear hq_))) | ((with_reducible refine gate_callee (f := 89) rfl ?_); refine goesL_ (some 51) rfl rfl Tryz.func89 (by kernel_rfl) rfl #[.string a0, .int .i64 bL, .int .u8 93] rfl zar ?_; (with_reducible refine (spec_l1At.calls a0 bL 93 false _ km.out).mono ?_); rintro e w' ⟨rfl, ⟨nd, rfl⟩⟩; refine ⟨_, rfl, ?_⟩; (try (rw [drewN_self wc]; generalize hq_ : World.drewN wc _ = wc; replace bj := zam (blk_at hq_ bj.out); replace bn := zam (blk_at hq_ bn.out); replace bx := zam (blk_at hq_ bx.out); replace HB := zam (below_at hq_ HB.out); clear hq_))) | ((with_reducible refine gate_callee (f := 89) rfl ?_); refine goesL_ (some 62) rfl rfl Tryz.func89 (by kernel_rfl) rfl #[.string a0, .int .i64 bL, .int .u8 44] rfl zar ?_; (with_reducible refine (spec_l1At.calls a0 bL 44 false _ mw.out).mono ?_); rintro e w' ⟨rfl, ⟨nd, rfl⟩⟩; refine ⟨_, rfl, ?_⟩; (try (rw [drewN_self wc]; generalize hq_ : World.drewN wc _ = wc; replace bj := zam (blk_at hq_ bj.out); replace bn := zam (blk_at hq_ bn.out); replace bx := zam (blk_at hq_ bx.out); replace HB := zam (below_at hq_ HB.out); clear hq_)); have mL := bc.out; have mM := bz.out; obtain ⟨jj, jk, jm, jn, jp, jq, jr, js, jt, jv⟩ := cells5 bj.out))
            refine bodyPost_ret (results_cell_row rfl _ _ bv 82 #[.string (⟨#[]⟩ : ByteArray), .int .i64 0, .bool false, .bool false, .bool false] (0, 0) _ rfl (by refine zbk ?_; refine blk_put (cs := #[.string (⟨#[]⟩ : ByteArray), .int .i64 0, .bool false, .bool false, .bool bd]) ?_ 4 _ rfl; refine zbk ?_; refine blk_put (cs := #[.string (⟨#[]⟩ : ByteArray), .int .i64 0, .bool false, .bool bf, .bool bd]) ?_ 3 _ rfl; refine zbk ?_; refine blk_put (cs := #[.string (⟨#[]⟩ : ByteArray), .int .i64 0, .bool bk, .bool bf, .bool bd]) ?_ 2 _ rfl; refine zbk ?_; refine blk_put (cs := #[.string (⟨#[]⟩ : ByteArray), .int .i64 bp, .bool bk, .bool bf, .bool bd]) ?_ 1 _ rfl; refine zbk ?_; refine blk_put (cs := #[.string br, .int .i64 bp, .bool bk, .bool bf, .bool bd]) ?_ 0 _ rfl; refine zbk ?_; exact bj.out) Tryz.underlying82 rfl (by kernel_rfl)) rfl ?_
            exact ⟨zer, zbl3 HB.out bC.out bJ.out bW.out⟩
     ·rw [if_neg cD] at H
      exact absurd H (by simp)
    ·replace dy := Bool.eq_false_iff.mpr dy
     subst dy; rw [if_neg (show ¬ (false = true) by decide)] at H
     simp only [Option.some.injEq, Prod.mk.injEq] at H
     obtain ⟨rfl, rfl, rfl, rfl, rfl⟩ := H
     go_wp2_with (first | ((with_reducible refine gate_callee (f := 49) rfl ?_); refine goesL_ (some 20) rfl rfl Tryz.func49 (by kernel_rfl) rfl #[.string a0, .int .i64 cg] rfl zar ?_; (with_reducible refine (spec_l1Value.calls a0 cg bF bV false cf ch _ ky.out).mono ?_); rintro e nh ⟨rfl, hb⟩; refine ⟨_, rfl, ?_⟩; replace bj := zam (blk_below (g := bv) (o := .cells #[.string br, .int .i64 bp, .bool bk, .bool bf, .bool bd] 82 (0, 0)) (zbk bj.out) hb); replace bn := zam (blk_below (g := bD) (o := .cells #[.string bb, .int .i64 bg, .bool true, .bool bB, .bool bq] 82 (0, 0)) (zbk bn.out) hb); replace HB := zam (below_step (zbl2 HB.out bC.out bJ.out) hb); (try clear hb); (try clear hb2); (try clear hk); (try clear hi)) | ((with_reducible refine gate_dst (N := 6) rfl ?_); refine zbox (N := 6) (cs := #[.string (⟨#[]⟩ : ByteArray), .int .i64 0, .bool false, .bool false, .bool false]) (t := 82) ?_; intro bN hg nj hbox hb; have bx := zam (hbox); have cF := zam ((by rw [hg]; exact (below_size (zbl2 HB.out bC.out bJ.out)) : w.heap.size ≤ bN)); have bW := zam ((by rw [hg]; exact (below_size (zbl2 HB.out bC.out bJ.out)) : w.heap.size ≤ bN)); have bh := zam ((by rw [hg]; exact Nat.ne_of_lt (blk_lt (g := bv) (o := .cells #[.string br, .int .i64 bp, .bool bk, .bool bf, .bool bd] 82 (0, 0)) (zbk bj.out)) : bv ≠ bN)); have bG := zam ((by rw [hg]; exact Nat.ne_of_gt (blk_lt (g := bv) (o := .cells #[.string br, .int .i64 bp, .bool bk, .bool bf, .bool bd] 82 (0, 0)) (zbk bj.out)) : bN ≠ bv)); have bm := zam ((by rw [hg]; exact Nat.ne_of_lt (blk_lt (g := bD) (o := .cells #[.string bb, .int .i64 bg, .bool true, .bool bB, .bool bq] 82 (0, 0)) (zbk bn.out)) : bD ≠ bN)); have bs := zam ((by rw [hg]; exact Nat.ne_of_gt (blk_lt (g := bD) (o := .cells #[.string bb, .int .i64 bg, .bool true, .bool bB, .bool bq] 82 (0, 0)) (zbk bn.out)) : bN ≠ bD)); replace bj := zam (blk_below (g := bv) (o := .cells #[.string br, .int .i64 bp, .bool bk, .bool bf, .bool bd] 82 (0, 0)) (zbk bj.out) hb); replace bn := zam (blk_below (g := bD) (o := .cells #[.string bb, .int .i64 bg, .bool true, .bool bB, .bool bq] 82 (0, 0)) (zbk bn.out) hb); replace HB := zam (below_step (zbl2 HB.out bC.out bJ.out) hb); clear hb hbox hg; have mN := bG.out; have mP := bh.out; have mQ := bs.out; have mR := bm.out; obtain ⟨jw, jx, jy, jz, jB, jC, jD, jF, jG, jH⟩ := cells5 bx.out; have mS := bc.out; have mT := bz.out; obtain ⟨jJ, jK, jL, jM, jN, jP, jQ, jR, jS, jT⟩ := cells5 bj.out))
     refine bodyPost_ret (results_cell_row rfl _ _ bv 82 #[.string (⟨#[]⟩ : ByteArray), .int .i64 0, .bool false, .bool false, .bool false] (0, 0) _ rfl (by refine zbk ?_; refine blk_put (cs := #[.string (⟨#[]⟩ : ByteArray), .int .i64 0, .bool false, .bool false, .bool bd]) ?_ 4 _ rfl; refine zbk ?_; refine blk_put (cs := #[.string (⟨#[]⟩ : ByteArray), .int .i64 0, .bool false, .bool bf, .bool bd]) ?_ 3 _ rfl; refine zbk ?_; refine blk_put (cs := #[.string (⟨#[]⟩ : ByteArray), .int .i64 0, .bool bk, .bool bf, .bool bd]) ?_ 2 _ rfl; refine zbk ?_; refine blk_put (cs := #[.string (⟨#[]⟩ : ByteArray), .int .i64 bp, .bool bk, .bool bf, .bool bd]) ?_ 1 _ rfl; refine zbk ?_; refine blk_put (cs := #[.string br, .int .i64 bp, .bool bk, .bool bf, .bool bd]) ?_ 0 _ rfl; refine zbk ?_; refine blk_far ?_ bh.out _; refine zbk ?_; refine blk_far ?_ bh.out _; refine zbk ?_; refine blk_far ?_ bh.out _; refine zbk ?_; refine blk_far ?_ bh.out _; refine zbk ?_; refine blk_far ?_ bh.out _; refine zbk ?_; exact bj.out) Tryz.underlying82 rfl (by kernel_rfl)) rfl ?_
     exact ⟨zer, zbl3 HB.out bC.out bJ.out bW.out⟩
end
def spec_l1Find.l0 : Nat → List (S92) → ByteArray → Int → Option (Int)
 | 0, _, _, _ => none
 | k + 1, x0, x1, x5 => if x5 < (x0.length : Int) then (if 0 ≤ x5 then (if ((rd_T92 x0 x5).f0).toList = x1.toList then (some x5) else (spec_l1Find.l0 k x0 x1 (wrap64 (x5 + 1)))) else (none)) else (some (-1))
def spec_l1Find.f (k : Nat) (l0 : List (S92)) (a1 : ByteArray) : Option (Int) := spec_l1Find.l0 k l0 a1 0
set_option maxHeartbeats 8000000 in
set_option maxRecDepth 100000 in
theorem spec_l1Find.calls (k : Nat) (A0 : Option Addr) (c0 : Nat) (l0 : List (S92)) (a1 : ByteArray) (r : Int) (w : World) (hr0 : Kd.C k92 w A0 l0.length l0) (mV : l0.length ≤ c0) (h : spec_l1Find.f k l0 a1 = some r) :
  Calls Tryz.prog 70 #[.slice A0 l0.length c0, .string a1] w fun e w' => e = .returned (.int .i64 r) ∧ Drawn0 w w' := by
 have HR0 := zam hr0; have nk := zam mV; clear hr0 mV; have H : (spec_l1Find.l0 k l0 a1 0) = some r := h; clear h; have H' := zam H; clear H
 go_enter Tryz.func70, Tryz.ntmps70
 go_wp2
 (try simp only [Act.put, List.setIfInBounds_toArray, List.set_cons_zero, List.set_cons_succ])
 go_loopg [5] k (fun kq v5 w' => ∃ (bX : Int), v5 = .int .i64 bX ∧ Aside0 (spec_l1Find.l0 kq l0 a1 bX = some r) ∧ Aside0 (kq ≤ k) ∧ Drawn0 w w')
 case atStart => exact ⟨(0), zrs, H', ⟨Nat.le_refl _⟩, by repeat (first | exact Drawn0.refl _ | apply Drawn0.step)⟩
 case round =>
  clear H'; obtain ⟨bX, rfl, HA, HK1, ⟨m1, rfl⟩⟩ := hrel
  cases gk with
  | zero => exact absurd HA.out (by simp [spec_l1Find.l0])
  | succ k1 =>
   have H := HA.out; clear HA
   simp only [spec_l1Find.l0] at H
   by_cases c3 : bX < (l0.length : Int)
   ·rw [if_pos c3] at H
    have kn := decide_eq_true c3; clear c3
    by_cases c4 : 0 ≤ bX
    ·rw [if_pos c4] at H
     have mZ := decide_eq_true c4; clear c4
     by_cases c5 : ((rd_T92 l0 bX).f0).toList = a1.toList
     ·rw [if_pos c5] at H
      have kp := beq_iff_eq.mpr c5; have kr := bne_eq_false_iff_eq.mpr c5; clear c5; obtain rfl := Option.some.inj H; have cj : 0 ≤ (bX : Int) := of_decide_eq_true zas; have ck : bX < (l0.length : Int) := of_decide_eq_true zas; obtain ⟨ad115, e115, cq, cr⟩ := at_T92 HR0.out bX cj ck
      cases e115
      replace cj := eq_true cj; replace ck := eq_true ck
      go_wp2
      go_ret
      exact ⟨by first | rfl | (simp; done) | (simp [*]; done), by repeat (first | exact Drawn0.refl _ | apply Drawn0.step)⟩
     ·rw [if_neg c5] at H
      have kp := beq_eq_false_iff_ne.mpr c5; have kr := bne_iff_ne.mpr c5; have H' := zam H; clear H; have cj : 0 ≤ (bX : Int) := of_decide_eq_true zas; have ck : bX < (l0.length : Int) := of_decide_eq_true zas; obtain ⟨ad115, e115, cq, cr⟩ := at_T92 HR0.out bX cj ck
      cases e115
      replace cj := eq_true cj; replace ck := eq_true ck
      go_wp2
      go_roundg k1
      case measure => have := HK1.out; omega
      case rel => exact ⟨(wrap64 (bX + 1)), zrs, H', ⟨zlo HK1.out⟩, by repeat (first | exact Drawn0.refl _ | apply Drawn0.step)⟩
    ·rw [if_neg c4] at H
     exact absurd H (by simp)
   ·rw [if_neg c3] at H
    have kn := decide_eq_false c3; clear c3; obtain rfl := Option.some.inj H
    go_wp2
    go_ret
    exact ⟨by first | rfl | (simp; done) | (simp [*]; done), by repeat (first | exact Drawn0.refl _ | apply Drawn0.step)⟩
end Go.Proofs.YtndagnkhjlgjgaaGreatDoor.PJt
