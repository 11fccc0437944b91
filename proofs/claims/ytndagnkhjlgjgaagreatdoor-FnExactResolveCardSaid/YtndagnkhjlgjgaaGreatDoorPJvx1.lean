-- Printed
import Derived.Test.YtndagnkhjlgjgaaGreatDoorPfE
namespace Go.Proofs.YtndagnkhjlgjgaaGreatDoor.PJv
open Go.RowKit Own PJt YtndagnkhjlgjgaaGreatDoorW.PrintWords YtndagnkhjlgjgaaGreatDoorW.PrintLast YtndagnkhjlgjgaaGreatDoorW.PrintMore
attribute [local go_sem] max2_int min2_int max_two min_two max_three min_three max_four min_four
set_option linter.unusedVariables false
set_option linter.unusedSimpArgs false
section
variable [Inhabited Rec]
def spec_l1Value.j0 : Nat → ByteArray → Int → Bool → Option (ByteArray × Int × Bool × Bool × Bool)
 | 0, _, _, _ => none
 | k + 1, x0, x1, fh => if fh = true then (if 0 ≤ x1 then (if x1 ≤ (wrap64 (x1 + 4)) then (if (wrap64 (x1 + 4)) ≤ (x0.size : Int) then (some (x0.extract (x1 : Int).toNat ((wrap64 (x1 + 4)) : Int).toNat, wrap64 (x1 + 4), true, false, false)) else (none)) else (none)) else (none)) else ((spec_l1Word.f x0 x1 (⟨#[102, 97, 108, 115, 101]⟩ : ByteArray)).bind fun bM => (if bM = true then (some ((⟨#[102, 97, 108, 115, 101]⟩ : ByteArray), wrap64 (x1 + 5), true, false, false)) else ((spec_l1Number.f k x0 x1).bind fun bm => (some (bm.1, bm.2.1, bm.2.2.1, bm.2.2.2.1, bm.2.2.2.2)))))
def spec_l1Value.f (k : Nat) (a0 : ByteArray) (a1 : Int) : Option (ByteArray × Int × Bool × Bool × Bool) := (spec_l1At.f a0 a1 91).bind fun bs => (if bs = true then ((spec_l1Array.f k a0 a1).bind fun bf => (some (bf.1, bf.2.1, bf.2.2.1, bf.2.2.2.1, bf.2.2.2.2))) else ((spec_l1At.f a0 a1 123).bind fun bv => (if bv = true then ((spec_l1Object.f k a0 a1).bind fun bg => (some (bg.1, bg.2.1, bg.2.2.1, bg.2.2.2.1, bg.2.2.2.2))) else ((spec_l1At.f a0 a1 34).bind fun bw => (if bw = true then ((spec_l1String.f a0 a1).bind fun bh => ((spec_l1Quoted.f k bh.1).bind fun bj => (some (bj, bh.2.1, bh.2.2, false, false)))) else ((spec_l1Word.f a0 a1 (⟨#[110, 117, 108, 108]⟩ : ByteArray)).bind fun bx => (if bx = true then (spec_l1Value.j0 k a0 a1 true) else ((spec_l1Word.f a0 a1 (⟨#[116, 114, 117, 101]⟩ : ByteArray)).bind fun bn => (spec_l1Value.j0 k a0 a1 bn)))))))))
set_option maxHeartbeats 8000000 in
set_option maxRecDepth 100000 in
theorem spec_l1Value.calls (k : Nat) (a0 : ByteArray) (a1 : Int) (r1 : ByteArray) (r2 : Int) (r3 : Bool) (r4 : Bool) (r5 : Bool) (w : World) (h : spec_l1Value.f k a0 a1 = some (r1, r2, r3, r4, r5)) :
  Calls Tryz.prog 49 #[.string a0, .int .i64 a1] w fun e w' => e = .returned (.agg #[.string r1, .int .i64 r2, .bool r3, .bool r4, .bool r5]) ∧ Below w.heap.size w w' := by
 have hu82 := Tryz.underlying82; have HB := zam (Below.refl w.heap.size w)
 have H : ((spec_l1At.f a0 a1 91).bind fun bs => (if bs = true then ((spec_l1Array.f k a0 a1).bind fun bf => (some (bf.1, bf.2.1, bf.2.2.1, bf.2.2.2.1, bf.2.2.2.2))) else ((spec_l1At.f a0 a1 123).bind fun bv => (if bv = true then ((spec_l1Object.f k a0 a1).bind fun bg => (some (bg.1, bg.2.1, bg.2.2.1, bg.2.2.2.1, bg.2.2.2.2))) else ((spec_l1At.f a0 a1 34).bind fun bw => (if bw = true then ((spec_l1String.f a0 a1).bind fun bh => ((spec_l1Quoted.f k bh.1).bind fun bj => (some (bj, bh.2.1, bh.2.2, false, false)))) else ((spec_l1Word.f a0 a1 (⟨#[110, 117, 108, 108]⟩ : ByteArray)).bind fun bx => (if bx = true then (spec_l1Value.j0 k a0 a1 true) else ((spec_l1Word.f a0 a1 (⟨#[116, 114, 117, 101]⟩ : ByteArray)).bind fun bn => (spec_l1Value.j0 k a0 a1 bn)))))))))) = some (r1, r2, r3, r4, r5) := h
 clear h; replace H := Option.bind_eq_some_iff.mp H; obtain ⟨bs, dS, H⟩ := H; have A3 := zam dS; clear dS
 by_cases c4 : bs = true
 ·subst c4
  rw [if_pos rfl] at H; replace H := Option.bind_eq_some_iff.mp H; obtain ⟨⟨bp, bz, bG, bN, bV⟩, dT, H⟩ := H
  try dsimp only at H
  have A5 := zam dT; clear dT
  simp only [Option.some.injEq, Prod.mk.injEq] at H
  obtain ⟨rfl, rfl, rfl, rfl, rfl⟩ := H
  go_enter Tryz.func49, Tryz.ntmps49
  go_wp2_with (first | ((with_reducible refine gate_dst (N := 4) rfl ?_); refine zbox (N := 4) (cs := #[.string (⟨#[]⟩ : ByteArray), .int .i64 0, .bool false, .bool false, .bool false]) (t := 82) ?_; intro bc hg w6 hbox hb; have bb := zam (hbox); have bB := zam ((by rw [hg]; exact (below_size (zbl HB.out)) : w.heap.size ≤ bc)); have bd := zam ((by rw [hg]; exact (below_size (zbl HB.out)) : w.heap.size ≤ bc)); replace HB := zam (below_step (zbl HB.out) hb); clear hb hbox hg) | ((with_reducible refine gate_callee (f := 89) rfl ?_); refine goesL_ (some 10) rfl rfl Tryz.func89 (by kernel_rfl) rfl #[.string a0, .int .i64 a1, .int .u8 91] rfl zar ?_; (with_reducible refine (spec_l1At.calls a0 a1 91 true _ A3.out).mono ?_); rintro e w' ⟨rfl, ⟨nd, rfl⟩⟩; refine ⟨_, rfl, ?_⟩; (try (rw [drewN_self w6]; generalize hq_ : World.drewN w6 _ = w6; replace bb := zam (blk_at hq_ bb.out); replace HB := zam (below_at hq_ HB.out); clear hq_))) | ((with_reducible refine gate_callee (f := 90) rfl ?_); refine goesL_ (some 13) rfl rfl Tryz.func90 (by kernel_rfl) rfl #[.string a0, .int .i64 a1] rfl zar ?_; (with_reducible refine (spec_l1Array.calls k a0 a1 bp bz bG bN bV _ A5.out).mono ?_); rintro e w7 ⟨rfl, hb⟩; refine ⟨_, rfl, ?_⟩; replace bb := zam (blk_below (g := bc) (o := .cells #[.string (⟨#[]⟩ : ByteArray), .int .i64 0, .bool false, .bool false, .bool false] 82 (0, 0)) (zbk bb.out) hb); replace HB := zam (below_step (zbl1 HB.out bd.out) hb); (try clear hb); (try clear hb2); (try clear hk); (try clear hi); obtain ⟨dG, dH, dJ, dK, dL, dM, dN, dP, dQ, dR⟩ := cells5 bb.out))
  refine bodyPost_ret (results_cell_row rfl _ _ bc 82 #[.string bp, .int .i64 bz, .bool bG, .bool bN, .bool bV] (0, 0) _ rfl (by refine zbk ?_; refine blk_put (cs := #[.string bp, .int .i64 bz, .bool bG, .bool bN, .bool false]) ?_ 4 _ rfl; refine zbk ?_; refine blk_put (cs := #[.string bp, .int .i64 bz, .bool bG, .bool false, .bool false]) ?_ 3 _ rfl; refine zbk ?_; refine blk_put (cs := #[.string bp, .int .i64 bz, .bool false, .bool false, .bool false]) ?_ 2 _ rfl; refine zbk ?_; refine blk_put (cs := #[.string bp, .int .i64 0, .bool false, .bool false, .bool false]) ?_ 1 _ rfl; refine zbk ?_; refine blk_put (cs := #[.string (⟨#[]⟩ : ByteArray), .int .i64 0, .bool false, .bool false, .bool false]) ?_ 0 _ rfl; refine zbk ?_; exact bb.out) Tryz.underlying82 rfl (by kernel_rfl)) rfl ?_
  exact ⟨zer, zbl1 HB.out bd.out⟩
 ·replace c4 := Bool.eq_false_iff.mpr c4
  subst c4; rw [if_neg (show ¬ (false = true) by decide)] at H; replace H := Option.bind_eq_some_iff.mp H; obtain ⟨bv, dV, H⟩ := H; have A9 := zam dV; clear dV
  by_cases ck : bv = true
  ·subst ck
   rw [if_pos rfl] at H; replace H := Option.bind_eq_some_iff.mp H; obtain ⟨⟨bq, bC, bH, bP, bW⟩, bX, H⟩ := H
   try dsimp only at H
   have fj := zam bX; clear bX
   simp only [Option.some.injEq, Prod.mk.injEq] at H
   obtain ⟨rfl, rfl, rfl, rfl, rfl⟩ := H
   go_enter Tryz.func49, Tryz.ntmps49
   go_wp2_with (first | ((with_reducible refine gate_dst (N := 4) rfl ?_); refine zbox (N := 4) (cs := #[.string (⟨#[]⟩ : ByteArray), .int .i64 0, .bool false, .bool false, .bool false]) (t := 82) ?_; intro bc hg bT hbox hb; have bb := zam (hbox); have bB := zam ((by rw [hg]; exact (below_size (zbl HB.out)) : w.heap.size ≤ bc)); have bd := zam ((by rw [hg]; exact (below_size (zbl HB.out)) : w.heap.size ≤ bc)); replace HB := zam (below_step (zbl HB.out) hb); clear hb hbox hg) | ((with_reducible refine gate_callee (f := 89) rfl ?_); refine goesL_ (some 10) rfl rfl Tryz.func89 (by kernel_rfl) rfl #[.string a0, .int .i64 a1, .int .u8 91] rfl zar ?_; (with_reducible refine (spec_l1At.calls a0 a1 91 false _ A3.out).mono ?_); rintro e w' ⟨rfl, ⟨nd, rfl⟩⟩; refine ⟨_, rfl, ?_⟩; (try (rw [drewN_self bT]; generalize hq_ : World.drewN bT _ = bT; replace bb := zam (blk_at hq_ bb.out); replace HB := zam (below_at hq_ HB.out); clear hq_))) | ((with_reducible refine gate_callee (f := 89) rfl ?_); refine goesL_ (some 16) rfl rfl Tryz.func89 (by kernel_rfl) rfl #[.string a0, .int .i64 a1, .int .u8 123] rfl zar ?_; (with_reducible refine (spec_l1At.calls a0 a1 123 true _ A9.out).mono ?_); rintro e w' ⟨rfl, ⟨nd, rfl⟩⟩; refine ⟨_, rfl, ?_⟩; (try (rw [drewN_self bT]; generalize hq_ : World.drewN bT _ = bT; replace bb := zam (blk_at hq_ bb.out); replace HB := zam (below_at hq_ HB.out); clear hq_))) | ((with_reducible refine gate_callee (f := 91) rfl ?_); refine goesL_ (some 19) rfl rfl Tryz.func91 (by kernel_rfl) rfl #[.string a0, .int .i64 a1] rfl zar ?_; (with_reducible refine (spec_l1Object.calls k a0 a1 bq bC bH bP bW _ fj.out).mono ?_); rintro e fr ⟨rfl, hb⟩; refine ⟨_, rfl, ?_⟩; replace bb := zam (blk_below (g := bc) (o := .cells #[.string (⟨#[]⟩ : ByteArray), .int .i64 0, .bool false, .bool false, .bool false] 82 (0, 0)) (zbk bb.out) hb); replace HB := zam (below_step (zbl1 HB.out bd.out) hb); (try clear hb); (try clear hb2); (try clear hk); (try clear hi); obtain ⟨cm, cn, cp, cq, cr, ct, cv, cw, cx, cy⟩ := cells5 bb.out))
   refine bodyPost_ret (results_cell_row rfl _ _ bc 82 #[.string bq, .int .i64 bC, .bool bH, .bool bP, .bool bW] (0, 0) _ rfl (by refine zbk ?_; refine blk_put (cs := #[.string bq, .int .i64 bC, .bool bH, .bool bP, .bool false]) ?_ 4 _ rfl; refine zbk ?_; refine blk_put (cs := #[.string bq, .int .i64 bC, .bool bH, .bool false, .bool false]) ?_ 3 _ rfl; refine zbk ?_; refine blk_put (cs := #[.string bq, .int .i64 bC, .bool false, .bool false, .bool false]) ?_ 2 _ rfl; refine zbk ?_; refine blk_put (cs := #[.string bq, .int .i64 0, .bool false, .bool false, .bool false]) ?_ 1 _ rfl; refine zbk ?_; refine blk_put (cs := #[.string (⟨#[]⟩ : ByteArray), .int .i64 0, .bool false, .bool false, .bool false]) ?_ 0 _ rfl; refine zbk ?_; exact bb.out) Tryz.underlying82 rfl (by kernel_rfl)) rfl ?_
   exact ⟨zer, zbl1 HB.out bd.out⟩
  ·replace ck := Bool.eq_false_iff.mpr ck
   subst ck; rw [if_neg (show ¬ (false = true) by decide)] at H; replace H := Option.bind_eq_some_iff.mp H; obtain ⟨bw, bY, H⟩ := H; have dW := zam bY; clear bY
   by_cases cz : bw = true
   ·subst cz
    rw [if_pos rfl] at H; replace H := Option.bind_eq_some_iff.mp H; obtain ⟨⟨bQ, bD, bJ⟩, bZ, H⟩ := H
    try dsimp only at H
    have fk := zam bZ; clear bZ; replace H := Option.bind_eq_some_iff.mp H; obtain ⟨bj, cb, H⟩ := H; have fm := zam cb; clear cb
    simp only [Option.some.injEq, Prod.mk.injEq] at H
    obtain ⟨rfl, rfl, rfl, rfl, rfl⟩ := H
    go_enter Tryz.func49, Tryz.ntmps49
    go_wp2_with (first | ((with_reducible refine gate_dst (N := 4) rfl ?_); refine zbox (N := 4) (cs := #[.string (⟨#[]⟩ : ByteArray), .int .i64 0, .bool false, .bool false, .bool false]) (t := 82) ?_; intro bc hg bK hbox hb; have bb := zam (hbox); have bB := zam ((by rw [hg]; exact (below_size (zbl HB.out)) : w.heap.size ≤ bc)); have bd := zam ((by rw [hg]; exact (below_size (zbl HB.out)) : w.heap.size ≤ bc)); replace HB := zam (below_step (zbl HB.out) hb); clear hb hbox hg) | ((with_reducible refine gate_callee (f := 89) rfl ?_); refine goesL_ (some 10) rfl rfl Tryz.func89 (by kernel_rfl) rfl #[.string a0, .int .i64 a1, .int .u8 91] rfl zar ?_; (with_reducible refine (spec_l1At.calls a0 a1 91 false _ A3.out).mono ?_); rintro e w' ⟨rfl, ⟨nd, rfl⟩⟩; refine ⟨_, rfl, ?_⟩; (try (rw [drewN_self bK]; generalize hq_ : World.drewN bK _ = bK; replace bb := zam (blk_at hq_ bb.out); replace HB := zam (below_at hq_ HB.out); clear hq_))) | ((with_reducible refine gate_callee (f := 89) rfl ?_); refine goesL_ (some 16) rfl rfl Tryz.func89 (by kernel_rfl) rfl #[.string a0, .int .i64 a1, .int .u8 123] rfl zar ?_; (with_reducible refine (spec_l1At.calls a0 a1 123 false _ A9.out).mono ?_); rintro e w' ⟨rfl, ⟨nd, rfl⟩⟩; refine ⟨_, rfl, ?_⟩; (try (rw [drewN_self bK]; generalize hq_ : World.drewN bK _ = bK; replace bb := zam (blk_at hq_ bb.out); replace HB := zam (below_at hq_ HB.out); clear hq_))) | ((with_reducible refine gate_callee (f := 89) rfl ?_); refine goesL_ (some 22) rfl rfl Tryz.func89 (by kernel_rfl) rfl #[.string a0, .int .i64 a1, .int .u8 34] rfl zar ?_; (with_reducible refine (spec_l1At.calls a0 a1 34 true _ dW.out).mono ?_); rintro e w' ⟨rfl, ⟨nd, rfl⟩⟩; refine ⟨_, rfl, ?_⟩; (try (rw [drewN_self bK]; generalize hq_ : World.drewN bK _ = bK; replace bb := zam (blk_at hq_ bb.out); replace HB := zam (below_at hq_ HB.out); clear hq_))) | ((with_reducible refine gate_callee (f := 92) rfl ?_); refine goesL_ (some 26) rfl rfl Tryz.func92 (by kernel_rfl) rfl #[.string a0, .int .i64 a1] rfl zar ?_; (with_reducible refine (spec_l1String.calls a0 a1 bQ bD bJ _ fk.out).mono ?_); rintro e ft ⟨rfl, hb⟩; refine ⟨_, rfl, ?_⟩; replace bb := zam (blk_below (g := bc) (o := .cells #[.string (⟨#[]⟩ : ByteArray), .int .i64 0, .bool false, .bool false, .bool false] 82 (0, 0)) (zbk bb.out) hb); replace HB := zam (below_step (zbl1 HB.out bd.out) hb); (try clear hb); (try clear hb2); (try clear hk); (try clear hi)) | ((with_reducible refine gate_callee (f := 93) rfl ?_); refine goesL_ (some 31) rfl rfl Tryz.func93 (by kernel_rfl) rfl #[.string bQ] rfl zar ?_; (with_reducible refine (spec_l1Quoted.calls k bQ bj _ fm.out).mono ?_); rintro e fv ⟨rfl, hb⟩; refine ⟨_, rfl, ?_⟩; replace bb := zam (blk_below (g := bc) (o := .cells #[.string (⟨#[]⟩ : ByteArray), .int .i64 0, .bool false, .bool false, .bool false] 82 (0, 0)) (zbk bb.out) hb); replace HB := zam (below_step (zbl1 HB.out bd.out) hb); (try clear hb); (try clear hb2); (try clear hk); (try clear hi); obtain ⟨cB, cC, cD, cF, cG, cH, cJ, cK, cL, cM⟩ := cells5 bb.out))
    refine bodyPost_ret (results_cell_row rfl _ _ bc 82 #[.string bj, .int .i64 bD, .bool bJ, .bool false, .bool false] (0, 0) _ rfl (by refine zbk ?_; refine blk_put (cs := #[.string bj, .int .i64 bD, .bool bJ, .bool false, .bool false]) ?_ 4 _ rfl; refine zbk ?_; refine blk_put (cs := #[.string bj, .int .i64 bD, .bool bJ, .bool false, .bool false]) ?_ 3 _ rfl; refine zbk ?_; refine blk_put (cs := #[.string bj, .int .i64 bD, .bool false, .bool false, .bool false]) ?_ 2 _ rfl; refine zbk ?_; refine blk_put (cs := #[.string bj, .int .i64 0, .bool false, .bool false, .bool false]) ?_ 1 _ rfl; refine zbk ?_; refine blk_put (cs := #[.string (⟨#[]⟩ : ByteArray), .int .i64 0, .bool false, .bool false, .bool false]) ?_ 0 _ rfl; refine zbk ?_; exact bb.out) Tryz.underlying82 rfl (by kernel_rfl)) rfl ?_
    exact ⟨zer, zbl1 HB.out bd.out⟩
   ·replace cz := Bool.eq_false_iff.mpr cz
    subst cz; rw [if_neg (show ¬ (false = true) by decide)] at H; have bR := zam H; clear H
    go_enter Tryz.func49, Tryz.ntmps49
    go_upto_region 8 with (first | ((with_reducible refine gate_dst (N := 4) rfl ?_); refine zbox (N := 4) (cs := #[.string (⟨#[]⟩ : ByteArray), .int .i64 0, .bool false, .bool false, .bool false]) (t := 82) ?_; intro bc hg fw hbox hb; have bb := zam (hbox); have bB := zam ((by rw [hg]; exact (below_size (zbl HB.out)) : w.heap.size ≤ bc)); have bd := zam ((by rw [hg]; exact (below_size (zbl HB.out)) : w.heap.size ≤ bc)); replace HB := zam (below_step (zbl HB.out) hb); clear hb hbox hg) | ((with_reducible refine gate_callee (f := 89) rfl ?_); refine goesL_ (some 10) rfl rfl Tryz.func89 (by kernel_rfl) rfl #[.string a0, .int .i64 a1, .int .u8 91] rfl zar ?_; (with_reducible refine (spec_l1At.calls a0 a1 91 false _ A3.out).mono ?_); rintro e w' ⟨rfl, ⟨nd, rfl⟩⟩; refine ⟨_, rfl, ?_⟩) | ((with_reducible refine gate_callee (f := 89) rfl ?_); refine goesL_ (some 16) rfl rfl Tryz.func89 (by kernel_rfl) rfl #[.string a0, .int .i64 a1, .int .u8 123] rfl zar ?_; (with_reducible refine (spec_l1At.calls a0 a1 123 false _ A9.out).mono ?_); rintro e w' ⟨rfl, ⟨nd, rfl⟩⟩; refine ⟨_, rfl, ?_⟩) | ((with_reducible refine gate_callee (f := 89) rfl ?_); refine goesL_ (some 22) rfl rfl Tryz.func89 (by kernel_rfl) rfl #[.string a0, .int .i64 a1, .int .u8 34] rfl zar ?_; (with_reducible refine (spec_l1At.calls a0 a1 34 false _ dW.out).mono ?_); rintro e w' ⟨rfl, ⟨nd, rfl⟩⟩; refine ⟨_, rfl, ?_⟩))
    (try simp only [Act.put, List.setIfInBounds_toArray, List.set_cons_zero, List.set_cons_succ])
    go_cut [42] (fun v42 wc => ∃ (kq : Nat) (bk : Bool), v42 = .bool bk ∧ Aside0 (spec_l1Value.j0 kq a0 a1 bk = some (r1, r2, r3, r4, r5)) ∧ Aside0 (kq ≤ k) ∧ Aside0 (wc.heap[bc]? = some (.cells #[.string (⟨#[]⟩ : ByteArray), .int .i64 0, .bool false, .bool false, .bool false] 82 (0, 0))) ∧ Aside0 (Below w.heap.size w wc))
    case first =>
     have H := bR.out; clear bR; replace H := Option.bind_eq_some_iff.mp H; obtain ⟨bx, cc, H⟩ := H; have dX := zam cc; clear cc
     by_cases cN : bx = true
     ·subst cN
      rw [if_pos rfl] at H; have H' := zam H; clear H
      go_wp2_with (first | ((with_reducible refine gate_callee (f := 94) rfl ?_); refine goesL_ (some 37) rfl rfl Tryz.func94 (by kernel_rfl) rfl #[.string a0, .int .i64 a1, .string (⟨#[110, 117, 108, 108]⟩ : ByteArray)] rfl zar ?_; (with_reducible refine (spec_l1Word.calls a0 a1 (⟨#[110, 117, 108, 108]⟩ : ByteArray) true _ dX.out).mono ?_); rintro e w' ⟨rfl, ⟨nd, rfl⟩⟩; refine ⟨_, rfl, ?_⟩))
      go_meet
      case rel => exact ⟨_, (true), zrs, H', ⟨zlo0⟩, ⟨zbk bb.out⟩, ⟨zbl1 HB.out bd.out⟩⟩
     ·replace cN := Bool.eq_false_iff.mpr cN
      subst cN; rw [if_neg (show ¬ (false = true) by decide)] at H; replace H := Option.bind_eq_some_iff.mp H; obtain ⟨bn, cd, H⟩ := H; have fn := zam cd; clear cd; have H' := zam H; clear H
      go_wp2_with (first | ((with_reducible refine gate_callee (f := 94) rfl ?_); refine goesL_ (some 37) rfl rfl Tryz.func94 (by kernel_rfl) rfl #[.string a0, .int .i64 a1, .string (⟨#[110, 117, 108, 108]⟩ : ByteArray)] rfl zar ?_; (with_reducible refine (spec_l1Word.calls a0 a1 (⟨#[110, 117, 108, 108]⟩ : ByteArray) false _ dX.out).mono ?_); rintro e w' ⟨rfl, ⟨nd, rfl⟩⟩; refine ⟨_, rfl, ?_⟩) | (go_at_call 94; (with_reducible refine (spec_l1Word.calls a0 a1 (⟨#[116, 114, 117, 101]⟩ : ByteArray) bn _ fn.out).mono ?_); rintro e w' ⟨rfl, ⟨nd, rfl⟩⟩))
      go_meet
      case rel => exact ⟨_, (bn), zrs, H', ⟨zlo0⟩, ⟨zbk bb.out⟩, ⟨zbl1 HB.out bd.out⟩⟩
    case rest =>
     clear bR; obtain ⟨kq, bk, rfl, HA, fp, bb, HB⟩ := hcut
     cases kq with
     | zero => exact absurd HA.out (by simp [spec_l1Value.j0])
     | succ kj22 =>
      have H := HA.out; clear HA
      simp only [spec_l1Value.j0] at H
      by_cases cP : bk = true
      ·subst cP
       rw [if_pos rfl] at H
       by_cases cf : 0 ≤ a1
       ·rw [if_pos cf] at H
        have dY := eq_true cf; have dZ := decide_eq_true cf; clear cf
        by_cases cQ : a1 ≤ (wrap64 (a1 + 4))
        ·rw [if_pos cQ] at H
         have fb := eq_true cQ; have fc := decide_eq_true cQ
         by_cases cR : (wrap64 (a1 + 4)) ≤ (a0.size : Int)
         ·rw [if_pos cR] at H
          have fd := eq_true cR; have ff := decide_eq_true cR
          simp only [Option.some.injEq, Prod.mk.injEq] at H
          obtain ⟨rfl, rfl, rfl, rfl, rfl⟩ := H; obtain ⟨cS, cT, cV, cW, cX, cY, cZ, db, dc, dd⟩ := cells5 bb.out
          go_wp2
          refine bodyPost_ret (results_cell_row rfl _ _ bc 82 #[.string (a0.extract (a1 : Int).toNat ((wrap64 (a1 + 4)) : Int).toNat), .int .i64 (wrap64 (a1 + 4)), .bool true, .bool false, .bool false] (0, 0) _ rfl (by refine zbk ?_; refine blk_put (cs := #[.string (a0.extract (a1 : Int).toNat ((wrap64 (a1 + 4)) : Int).toNat), .int .i64 (wrap64 (a1 + 4)), .bool true, .bool false, .bool false]) ?_ 4 _ rfl; refine zbk ?_; refine blk_put (cs := #[.string (a0.extract (a1 : Int).toNat ((wrap64 (a1 + 4)) : Int).toNat), .int .i64 (wrap64 (a1 + 4)), .bool true, .bool false, .bool false]) ?_ 3 _ rfl; refine zbk ?_; refine blk_put (cs := #[.string (a0.extract (a1 : Int).toNat ((wrap64 (a1 + 4)) : Int).toNat), .int .i64 (wrap64 (a1 + 4)), .bool false, .bool false, .bool false]) ?_ 2 _ rfl; refine zbk ?_; refine blk_put (cs := #[.string (a0.extract (a1 : Int).toNat ((wrap64 (a1 + 4)) : Int).toNat), .int .i64 0, .bool false, .bool false, .bool false]) ?_ 1 _ rfl; refine zbk ?_; refine blk_put (cs := #[.string (⟨#[]⟩ : ByteArray), .int .i64 0, .bool false, .bool false, .bool false]) ?_ 0 _ rfl; refine zbk ?_; exact bb.out) Tryz.underlying82 rfl (by kernel_rfl)) rfl ?_
          exact ⟨zer, zbl1 HB.out bd.out⟩
         ·rw [if_neg cR] at H
          exact absurd H (by simp)
        ·rw [if_neg cQ] at H
         exact absurd H (by simp)
       ·rw [if_neg cf] at H
        exact absurd H (by simp)
      ·replace cP := Bool.eq_false_iff.mpr cP
       subst cP; rw [if_neg (show ¬ (false = true) by decide)] at H; replace H := Option.bind_eq_some_iff.mp H; obtain ⟨bM, cg, H⟩ := H; have fg := zam cg; clear cg
       by_cases df : bM = true
       ·subst df
        rw [if_pos rfl] at H
        simp only [Option.some.injEq, Prod.mk.injEq] at H
        obtain ⟨rfl, rfl, rfl, rfl, rfl⟩ := H
        go_wp2_with (first | ((with_reducible refine gate_callee (f := 94) rfl ?_); refine goesL_ (some 53) rfl rfl Tryz.func94 (by kernel_rfl) rfl #[.string a0, .int .i64 a1, .string (⟨#[102, 97, 108, 115, 101]⟩ : ByteArray)] rfl zar ?_; (with_reducible refine (spec_l1Word.calls a0 a1 (⟨#[102, 97, 108, 115, 101]⟩ : ByteArray) true _ fg.out).mono ?_); rintro e w' ⟨rfl, ⟨nd, rfl⟩⟩; refine ⟨_, rfl, ?_⟩; (try (rw [drewN_self wc]; generalize hq_ : World.drewN wc _ = wc; replace bb := zam (blk_at hq_ bb.out); replace HB := zam (below_at hq_ HB.out); clear hq_)); obtain ⟨dg, dh, dj, dk, dm, dn, dp, dq, dr, ds⟩ := cells5 bb.out))
        refine bodyPost_ret (results_cell_row rfl _ _ bc 82 #[.string (⟨#[102, 97, 108, 115, 101]⟩ : ByteArray), .int .i64 (wrap64 (a1 + 5)), .bool true, .bool false, .bool false] (0, 0) _ rfl (by refine zbk ?_; refine blk_put (cs := #[.string (⟨#[102, 97, 108, 115, 101]⟩ : ByteArray), .int .i64 (wrap64 (a1 + 5)), .bool true, .bool false, .bool false]) ?_ 4 _ rfl; refine zbk ?_; refine blk_put (cs := #[.string (⟨#[102, 97, 108, 115, 101]⟩ : ByteArray), .int .i64 (wrap64 (a1 + 5)), .bool true, .bool false, .bool false]) ?_ 3 _ rfl; refine zbk ?_; refine blk_put (cs := #[.string (⟨#[102, 97, 108, 115, 101]⟩ : ByteArray), .int .i64 (wrap64 (a1 + 5)), .bool false, .bool false, .bool false]) ?_ 2 _ rfl; refine zbk ?_; refine blk_put (cs := #[.string (⟨#[102, 97, 108, 115, 101]⟩ : ByteArray), .int .i64 0, .bool false, .bool false, .bool false]) ?_ 1 _ rfl; refine zbk ?_; refine blk_put (cs := #[.string (⟨#[]⟩ : ByteArray), .int .i64 0, .bool false, .bool false, .bool false]) ?_ 0 _ rfl; refine zbk ?_; exact bb.out) Tryz.underlying82 rfl (by kernel_rfl)) rfl ?_
        exact ⟨zer, zbl1 HB.out bd.out⟩
       ·replace df := Bool.eq_false_iff.mpr df
        subst df; rw [if_neg (show ¬ (false = true) by decide)] at H; replace H := Option.bind_eq_some_iff.mp H; obtain ⟨⟨br, bF, bL, bS, ch⟩, cj, H⟩ := H
        try dsimp only at H
        have fq := zam cj; clear cj
        simp only [Option.some.injEq, Prod.mk.injEq] at H
        obtain ⟨rfl, rfl, rfl, rfl, rfl⟩ := H
        go_wp2_with (first | ((with_reducible refine gate_callee (f := 94) rfl ?_); refine goesL_ (some 53) rfl rfl Tryz.func94 (by kernel_rfl) rfl #[.string a0, .int .i64 a1, .string (⟨#[102, 97, 108, 115, 101]⟩ : ByteArray)] rfl zar ?_; (with_reducible refine (spec_l1Word.calls a0 a1 (⟨#[102, 97, 108, 115, 101]⟩ : ByteArray) false _ fg.out).mono ?_); rintro e w' ⟨rfl, ⟨nd, rfl⟩⟩; refine ⟨_, rfl, ?_⟩; (try (rw [drewN_self wc]; generalize hq_ : World.drewN wc _ = wc; replace bb := zam (blk_at hq_ bb.out); replace HB := zam (below_at hq_ HB.out); clear hq_))) | ((with_reducible refine gate_callee (f := 95) rfl ?_); refine goesL_ (some 59) rfl rfl Tryz.func95 (by kernel_rfl) rfl #[.string a0, .int .i64 a1] rfl zar ?_; (with_reducible refine (spec_l1Number.calls kj22 a0 a1 br bF bL bS ch _ fq.out).mono ?_); rintro e fx ⟨rfl, hb⟩; refine ⟨_, rfl, ?_⟩; replace bb := zam (blk_below (g := bc) (o := .cells #[.string (⟨#[]⟩ : ByteArray), .int .i64 0, .bool false, .bool false, .bool false] 82 (0, 0)) (zbk bb.out) hb); replace HB := zam (below_step (zbl1 HB.out bd.out) hb); (try clear hb); (try clear hb2); (try clear hk); (try clear hi); obtain ⟨dt, dv, dw, dx, dy, dz, dB, dC, dD, dF⟩ := cells5 bb.out))
        refine bodyPost_ret (results_cell_row rfl _ _ bc 82 #[.string br, .int .i64 bF, .bool bL, .bool bS, .bool ch] (0, 0) _ rfl (by refine zbk ?_; refine blk_put (cs := #[.string br, .int .i64 bF, .bool bL, .bool bS, .bool false]) ?_ 4 _ rfl; refine zbk ?_; refine blk_put (cs := #[.string br, .int .i64 bF, .bool bL, .bool false, .bool false]) ?_ 3 _ rfl; refine zbk ?_; refine blk_put (cs := #[.string br, .int .i64 bF, .bool false, .bool false, .bool false]) ?_ 2 _ rfl; refine zbk ?_; refine blk_put (cs := #[.string br, .int .i64 0, .bool false, .bool false, .bool false]) ?_ 1 _ rfl; refine zbk ?_; refine blk_put (cs := #[.string (⟨#[]⟩ : ByteArray), .int .i64 0, .bool false, .bool false, .bool false]) ?_ 0 _ rfl; refine zbk ?_; exact bb.out) Tryz.underlying82 rfl (by kernel_rfl)) rfl ?_
        exact ⟨zer, zbl1 HB.out bd.out⟩
end
end Go.Proofs.YtndagnkhjlgjgaaGreatDoor.PJv
