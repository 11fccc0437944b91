-- Printed
import Derived.Test.YtndagnkhjlgjgaaGreatDoorPJtx7
namespace Go.Proofs.YtndagnkhjlgjgaaGreatDoor.PJt
open Go.RowKit Own Xtra YtndagnkhjlgjgaaGreatDoorW.PrintWords YtndagnkhjlgjgaaGreatDoorW.PrintLast YtndagnkhjlgjgaaGreatDoorW.PrintMore
attribute [local go_sem] max2_int min2_int max_two min_two max_three min_three max_four min_four
set_option linter.unusedVariables false
set_option linter.unusedSimpArgs false
section
variable [Inhabited Rec]
def spec_Canon.j0 : Nat → Bool → ByteArray → Int → Bool → Bool → Bool → Option (ByteArray × Int)
 | 0, _, _, _, _, _, _ => none
 | k + 1, gK, bB, cZ, db, bW, bX => if gK = true then (some ((⟨#[]⟩ : ByteArray), 2)) else (if bW = true then (some ((⟨#[]⟩ : ByteArray), 3)) else (if bX = true then (some ((⟨#[]⟩ : ByteArray), 4)) else ((spec_l1Within.f k bB).bind fun cg => (if cg = true then (some (bB, 0)) else (some ((⟨#[]⟩ : ByteArray), 5))))))
def spec_Canon.f (k : Nat) (a0 : ByteArray) : Option (ByteArray × Int) := if (a0.size : Int) > 20000 then (some ((⟨#[]⟩ : ByteArray), 1)) else ((spec_l1Skip.f k a0 0).bind fun bz => ((spec_l1Value.f a0 bz).bind fun bc => (if bc.2.2.1 = true then ((spec_l1Skip.f k a0 bc.2.1).bind fun bL => (spec_Canon.j0 k (bL != (a0.size : Int)) bc.1 bc.2.1 bc.2.2.1 bc.2.2.2.1 bc.2.2.2.2)) else (spec_Canon.j0 k true bc.1 bc.2.1 bc.2.2.1 bc.2.2.2.1 bc.2.2.2.2))))
set_option maxHeartbeats 8000000 in
set_option maxRecDepth 100000 in
theorem spec_Canon.calls (k : Nat) (a0 : ByteArray) (r1 : ByteArray) (r2 : Int) (w : World) (h : spec_Canon.f k a0 = some (r1, r2)) :
  Calls Tryz.prog 23 #[.string a0] w fun e w' => e = .returned (.tuple #[.string r1, .int .i64 r2]) ∧ Below w.heap.size w w' := by
 have hu82 := Tryz.underlying82; have HB := zam (Below.refl w.heap.size w)
 have H : (if (a0.size : Int) > 20000 then (some ((⟨#[]⟩ : ByteArray), 1)) else ((spec_l1Skip.f k a0 0).bind fun bz => ((spec_l1Value.f a0 bz).bind fun bc => (if bc.2.2.1 = true then ((spec_l1Skip.f k a0 bc.2.1).bind fun bL => (spec_Canon.j0 k (bL != (a0.size : Int)) bc.1 bc.2.1 bc.2.2.1 bc.2.2.2.1 bc.2.2.2.2)) else (spec_Canon.j0 k true bc.1 bc.2.1 bc.2.2.1 bc.2.2.2.1 bc.2.2.2.2))))) = some (r1, r2) := h
 clear h
 by_cases c2 : (a0.size : Int) > 20000
 ·rw [if_pos c2] at H
  have ch := zgt c2; have cj : decide (20000 < a0.size) = true := decide_eq_true (by omega); clear c2
  simp only [Option.some.injEq, Prod.mk.injEq] at H
  obtain ⟨rfl, rfl⟩ := H
  go_enter Tryz.func23, Tryz.ntmps23
  go_wp2
  go_ret2
  exact ⟨zer, zbl HB.out⟩
 ·rw [if_neg c2] at H
  have ch := zgt' c2; have cj : decide (20000 < a0.size) = false := decide_eq_false (by omega); clear c2; replace H := Option.bind_eq_some_iff.mp H; obtain ⟨bz, gr, H⟩ := H; have A3 := zam gr; clear gr; replace H := Option.bind_eq_some_iff.mp H; obtain ⟨⟨bh, bk, bM, bN, bY⟩, gs, H⟩ := H
  try dsimp only at H
  have A4 := zam gs; clear gs; have fR := zam H; clear H
  go_enter Tryz.func23, Tryz.ntmps23
  go_upto_region 4 with (first | ((with_reducible refine gate_callee (f := 50) rfl ?_); refine goesL_ (some 10) rfl rfl Tryz.func50 (by kernel_rfl) rfl #[.string a0, .int .i64 0] rfl zar ?_; (with_reducible refine (spec_l1Skip.calls k a0 0 bz _ A3.out).mono ?_); rintro e w' ⟨rfl, ⟨nd, rfl⟩⟩; refine ⟨_, rfl, ?_⟩) | ((with_reducible refine gate_callee (f := 49) rfl ?_); refine goesL_ (some 11) rfl rfl Tryz.func49 (by kernel_rfl) rfl #[.string a0, .int .i64 bz] rfl zar ?_; (with_reducible refine (spec_l1Value.calls a0 bz bh bk bM bN bY _ A4.out).mono ?_); rintro e w6 ⟨rfl, hb⟩; refine ⟨_, rfl, ?_⟩; replace HB := zam (below_step (zbl HB.out) hb); (try clear hb); (try clear hb2); (try clear hk); (try clear hi)) | ((with_reducible refine gate_dst (N := 4) rfl ?_); (try (refine gate_guard (by rfl) ?_; dsimp only)); refine zbox (N := 4) (cs := #[.string (⟨#[]⟩ : ByteArray), .int .i64 0, .bool false, .bool false, .bool false]) (t := 82) ?_; intro bq hg w7 hbox hb; have bd := zam (hbox); have gt := zam ((by rw [hg]; exact (below_size (zbl HB.out)) : w.heap.size ≤ bq)); have bj := zam ((by rw [hg]; exact (below_size (zbl HB.out)) : w.heap.size ≤ bq)); replace HB := zam (below_step (zbl HB.out) hb); clear hb hbox hg; obtain ⟨fS, fT, fV, fW, fX, fY, fZ, gb, gc, gd⟩ := cells5 bd.out))
  (try simp only [Act.put, List.setIfInBounds_toArray, List.set_cons_zero, List.set_cons_succ])
  go_cut [23] (fun v23 wc => ∃ (kq : Nat) (bC : Bool), v23 = .bool bC ∧ Aside0 (spec_Canon.j0 kq bC bh bk bM bN bY = some (r1, r2)) ∧ Aside0 (kq ≤ k) ∧ Aside0 (wc.heap[bq]? = some (.cells #[.string bh, .int .i64 bk, .bool bM, .bool bN, .bool bY] 82 (0, 0))) ∧ Aside0 (Below w.heap.size w wc))
  case first =>
   have H := fR.out; clear fR
   by_cases c9 : bM = true
   ·subst c9
    rw [if_pos rfl] at H; replace H := Option.bind_eq_some_iff.mp H; obtain ⟨bL, ct, H⟩ := H; have gL := zam ct; clear ct; have H' := zam H; clear H; obtain ⟨dc, dd, df, dg, dh, dj, dk, dm, dn, dp⟩ := cells5 bd.out
    go_wp2_with (first | (go_at_call 50; (with_reducible refine (spec_l1Skip.calls k a0 bk bL _ gL.out).mono ?_); rintro e w' ⟨rfl, ⟨nd, rfl⟩⟩))
    go_meet
    case rel => exact ⟨_, ((bL != (a0.size : Int))), zrs, H', ⟨zlo0⟩, ⟨by refine zbk ?_; refine blk_put (cs := #[.string bh, .int .i64 bk, .bool true, .bool bN, .bool false]) ?_ 4 _ rfl; refine zbk ?_; refine blk_put (cs := #[.string bh, .int .i64 bk, .bool true, .bool false, .bool false]) ?_ 3 _ rfl; refine zbk ?_; refine blk_put (cs := #[.string bh, .int .i64 bk, .bool false, .bool false, .bool false]) ?_ 2 _ rfl; refine zbk ?_; refine blk_put (cs := #[.string bh, .int .i64 0, .bool false, .bool false, .bool false]) ?_ 1 _ rfl; refine zbk ?_; refine blk_put (cs := #[.string (⟨#[]⟩ : ByteArray), .int .i64 0, .bool false, .bool false, .bool false]) ?_ 0 _ rfl; refine zbk ?_; exact bd.out⟩, ⟨zbl1 HB.out bj.out⟩⟩
   ·replace c9 := Bool.eq_false_iff.mpr c9
    subst c9; rw [if_neg (show ¬ (false = true) by decide)] at H; have H' := zam H; clear H; obtain ⟨dq, dr, ds, dt, dv, dw, dx, dy, dz, dB⟩ := cells5 bd.out
    go_wp2
    go_meet
    case rel => exact ⟨_, (true), zrs, H', ⟨zlo0⟩, ⟨by refine zbk ?_; refine blk_put (cs := #[.string bh, .int .i64 bk, .bool false, .bool bN, .bool false]) ?_ 4 _ rfl; refine zbk ?_; refine blk_put (cs := #[.string bh, .int .i64 bk, .bool false, .bool false, .bool false]) ?_ 3 _ rfl; refine zbk ?_; refine blk_put (cs := #[.string bh, .int .i64 bk, .bool false, .bool false, .bool false]) ?_ 2 _ rfl; refine zbk ?_; refine blk_put (cs := #[.string bh, .int .i64 0, .bool false, .bool false, .bool false]) ?_ 1 _ rfl; refine zbk ?_; refine blk_put (cs := #[.string (⟨#[]⟩ : ByteArray), .int .i64 0, .bool false, .bool false, .bool false]) ?_ 0 _ rfl; refine zbk ?_; exact bd.out⟩, ⟨zbl1 HB.out bj.out⟩⟩
  case rest =>
   clear fR; obtain ⟨kq, bC, rfl, HA, gS, bd, HB⟩ := hcut
   cases kq with
   | zero => exact absurd HA.out (by simp [spec_Canon.j0])
   | succ kj4 =>
    have H := HA.out; clear HA
    simp only [spec_Canon.j0] at H
    by_cases bD : bC = true
    ·subst bD
     rw [if_pos rfl] at H
     simp only [Option.some.injEq, Prod.mk.injEq] at H
     obtain ⟨rfl, rfl⟩ := H
     go_wp2
     go_ret2
     exact ⟨zer, zbl1 HB.out bj.out⟩
    ·replace bD := Bool.eq_false_iff.mpr bD
     subst bD; rw [if_neg (show ¬ (false = true) by decide)] at H
     by_cases bF : bN = true
     ·subst bF
      rw [if_pos rfl] at H
      simp only [Option.some.injEq, Prod.mk.injEq] at H
      obtain ⟨rfl, rfl⟩ := H; obtain ⟨dC, dD, dF, dG, dH, dJ, dK, dL, dM, dN⟩ := cells5 bd.out
      go_wp2
      go_ret2
      exact ⟨zer, zbl1 HB.out bj.out⟩
     ·replace bF := Bool.eq_false_iff.mpr bF
      subst bF; rw [if_neg (show ¬ (false = true) by decide)] at H
      by_cases bZ : bY = true
      ·subst bZ
       rw [if_pos rfl] at H
       simp only [Option.some.injEq, Prod.mk.injEq] at H
       obtain ⟨rfl, rfl⟩ := H; obtain ⟨dP, dQ, dR, dS, dT, dV, dW, dX, dY, dZ⟩ := cells5 bd.out
       go_wp2
       go_ret2
       exact ⟨zer, zbl1 HB.out bj.out⟩
      ·replace bZ := Bool.eq_false_iff.mpr bZ
       subst bZ; rw [if_neg (show ¬ (false = true) by decide)] at H; replace H := Option.bind_eq_some_iff.mp H; obtain ⟨cg, cv, H⟩ := H; have gv := zam cv; clear cv
       by_cases bT : cg = true
       ·subst bT
        rw [if_pos rfl] at H
        simp only [Option.some.injEq, Prod.mk.injEq] at H
        obtain ⟨rfl, rfl⟩ := H; obtain ⟨fb, fc, fd, ff, fg, fh, fj, fk, fm, fn⟩ := cells5 bd.out
        go_wp2_with (first | ((with_reducible refine gate_callee (f := 51) rfl ?_); refine goesL_ (some 30) rfl rfl Tryz.func51 (by kernel_rfl) rfl #[.string bh] rfl zar ?_; (with_reducible refine (spec_l1Within.calls kj4 bh true _ gv.out).mono ?_); rintro e gT ⟨rfl, hb⟩; refine ⟨_, rfl, ?_⟩; replace bd := zam (blk_below (g := bq) (o := .cells #[.string bh, .int .i64 bk, .bool bM, .bool false, .bool false] 82 (0, 0)) (zbk bd.out) hb); replace HB := zam (below_step (zbl1 HB.out bj.out) hb); (try clear hb); (try clear hb2); (try clear hk); (try clear hi); obtain ⟨fp, fq, fr, ft, fv, fw, fx, fy, fz, fB⟩ := cells5 bd.out))
        go_ret2
        exact ⟨zer, zbl1 HB.out bj.out⟩
       ·replace bT := Bool.eq_false_iff.mpr bT
        subst bT; rw [if_neg (show ¬ (false = true) by decide)] at H
        simp only [Option.some.injEq, Prod.mk.injEq] at H
        obtain ⟨rfl, rfl⟩ := H; obtain ⟨fC, fD, fF, fG, fH, fJ, fK, fL, fM, fN⟩ := cells5 bd.out
        go_wp2_with (first | ((with_reducible refine gate_callee (f := 51) rfl ?_); refine goesL_ (some 30) rfl rfl Tryz.func51 (by kernel_rfl) rfl #[.string bh] rfl zar ?_; (with_reducible refine (spec_l1Within.calls kj4 bh false _ gv.out).mono ?_); rintro e gM ⟨rfl, hb⟩; refine ⟨_, rfl, ?_⟩; replace bd := zam (blk_below (g := bq) (o := .cells #[.string bh, .int .i64 bk, .bool bM, .bool false, .bool false] 82 (0, 0)) (zbk bd.out) hb); replace HB := zam (below_step (zbl1 HB.out bj.out) hb); (try clear hb); (try clear hb2); (try clear hk); (try clear hi)))
        go_ret2
        exact ⟨zer, zbl1 HB.out bj.out⟩
end
def spec_l1Token.l0 : Nat → ByteArray → List Int → Int → Option (ByteArray × Bool)
 | 0, _, _, _ => none
 | k + 1, x0, x4, x5 => if x5 < (x0.size : Int) then (if 0 ≤ x5 then (if (bt x0 x5) = 126 then ((spec_l1At.f x0 (wrap64 (x5 + 1)) 48).bind fun ck => (if ck = true then (if x4.length < 140737488355328 then (spec_l1Token.l0 k x0 (x4 ++ [126]) (wrap64 ((wrap64 (x5 + 1)) + 1))) else (none)) else ((spec_l1At.f x0 (wrap64 (x5 + 1)) 49).bind fun cm => (if cm = true then (if x4.length < 140737488355328 then (spec_l1Token.l0 k x0 (x4 ++ [47]) (wrap64 ((wrap64 (x5 + 1)) + 1))) else (none)) else (some ((⟨#[]⟩ : ByteArray), false)))))) else (if x4.length < 140737488355328 then (spec_l1Token.l0 k x0 (x4 ++ [bt x0 x5]) (wrap64 (x5 + 1))) else (none))) else (none)) else (some (strOfNums x4, true))
def spec_l1Token.f (k : Nat) (a0 : ByteArray) : Option (ByteArray × Bool) := spec_l1Token.l0 k a0 (([] : List Int)) 0
set_option maxHeartbeats 8000000 in
set_option maxRecDepth 100000 in
theorem spec_l1Token.calls (k : Nat) (a0 : ByteArray) (r1 : ByteArray) (r2 : Bool) (w : World) (h : spec_l1Token.f k a0 = some (r1, r2)) :
  Calls Tryz.prog 55 #[.string a0] w fun e w' => e = .returned (.tuple #[.string r1, .bool r2]) ∧ Below w.heap.size w w' := by
 have HB := zam (Below.refl w.heap.size w); have H : (spec_l1Token.l0 k a0 (([] : List Int)) 0) = some (r1, r2) := h; clear h
 obtain ⟨cw, br⟩ : ∃ y_ : List Int, y_ = (([] : List Int)) := ⟨_, rfl⟩
 replace H : (spec_l1Token.l0 k a0 cw 0) = some (r1, r2) := by first | (rw [br]; with_reducible exact H) | (have H2_ := (Option.bind_some _ _).symm.trans H; rw [br]; with_reducible exact H2_) | (have H2_ := (Option.bind_some _ _).symm.trans H; with_reducible exact H2_) | with_reducible exact H | (rw [br]; exact H) | exact H
 have cc := zam br; clear br; have H' := zam H; clear H
 go_enter Tryz.func55, Tryz.ntmps55
 go_wp2_with (first | ((with_reducible refine gate_dst (N := 6) rfl ?_); refine Kd.R_lit (Kd.int .u8) _ 5 ?hg (N := 6) ?hd (xs := ([] : List Int)) (inner := []) (ok := fun _ => True) (okp := fun _ => True) ?hr ?hp (fun _ hk => hk) trivial (Below.refl _ _) (Nat.le_refl _) (by simp) ?_; (case hd => rfl); (case hg => rfl); (case hr => first | (go_simp; done) | (go_simp; rfl)); (case hp => exact (Reps.none _ _)); intro v258 w2 cx hb hg_ hnew_; clear hg_ hnew_; (first | rw [← cc.out] at cx | (simp only [Int.reduceToNat] at cx; rw [← cc.out] at cx)); have cy := zam (Kd.R_lower cx (below_size (zbl HB.out))); replace HB := zam (below_step (zbl HB.out) hb); clear hb cx))
 (try simp only [Act.put, List.setIfInBounds_toArray, List.set_cons_zero, List.set_cons_succ])
 go_loopg [4, 5] k (fun kq v4 v5 w' => ∃ (bf : List Int) (bb : Int), v5 = .int .i64 bb ∧ Aside0 (spec_l1Token.l0 kq a0 bf bb = some (r1, r2)) ∧ Aside0 (kq ≤ k) ∧ Aside0 (Kd.R (Kd.int .u8) 5 w' w.heap.size (fun _ => True) v4 bf) ∧ Aside0 (Below w.heap.size w w'))
 case atStart => exact ⟨(cw), (0), zrs, H', ⟨Nat.le_refl _⟩, ⟨zkr cy.out⟩, ⟨zbl HB.out⟩⟩
 case round =>
  clear H'; obtain ⟨bf, bb, rfl, HA, HK1, HO_4, HB⟩ := hrel
  cases gk with
  | zero => exact absurd HA.out (by simp [spec_l1Token.l0])
  | succ k1 =>
   have H := HA.out; clear HA
   simp only [spec_l1Token.l0] at H
   by_cases c4 : bb < (a0.size : Int)
   ·rw [if_pos c4] at H
    have gf := decide_eq_true c4; clear c4
    by_cases c5 : 0 ≤ bb
    ·rw [if_pos c5] at H
     have gg := decide_eq_true c5; clear c5
     by_cases c7 : (bt a0 bb) = 126
     ·rw [if_pos c7] at H
      have cn := beq_iff_eq.mpr c7; have cp := bne_eq_false_iff_eq.mpr c7; clear c7; replace H := Option.bind_eq_some_iff.mp H; obtain ⟨ck, gw, H⟩ := H; have A8 := zam gw; clear gw
      by_cases c9 : ck = true
      ·subst c9
       rw [if_pos rfl] at H
       by_cases bQ : bf.length < 140737488355328
       ·rw [if_pos bQ] at H
        have cz := zam bQ; clear bQ
        obtain ⟨gh, bG⟩ : ∃ y_ : List Int, y_ = (bf ++ [126]) := ⟨_, rfl⟩
        first | rw [Option.bind_some, ← bG] at H | rw [← bG] at H
        have cB := zam bG; clear bG; have H' := zam H; clear H; have p6 := zet (0 ≤ (bb : Int)); have q6 := zet (bb < (a0.size : Int)); have cC := bt_at a0 bb
        go_wp2_with (first | ((with_reducible refine gate_callee (f := 89) rfl ?_); refine goesL_ (some 26) rfl rfl Tryz.func89 (by kernel_rfl) rfl #[.string a0, .int .i64 (wrap64 (bb + 1)), .int .u8 48] rfl zar ?_; (with_reducible refine (spec_l1At.calls a0 (wrap64 (bb + 1)) 48 true _ A8.out).mono ?_); rintro e w' ⟨rfl, ⟨nd, rfl⟩⟩; refine ⟨_, rfl, ?_⟩) | ((with_reducible refine gate_builtin (b := .append) (xs := #[.tmp 27, .tmp 28]) rfl ?_); at_builtin; refine Kd.R_append (Kd.int .u8) (w0 := w) w.heap.size rfl (.tmp 27) (.tmp 28) 44 5 (.int .u8 0) 1 rfl Tryz.underlying44 info5 rfl (by decide) (by omega) u4 bf 126 [.int .u8 126] (fun _ => True) (fun _ => False) rfl rfl ?aP (fun _ hk => hk.elim) ?aF ?aO ?aB ?aS ?aL ?_; (case aP => exact rfl); (case aB => exact (zbl HB.out)); (case aF => exact (fun _ _ => trivial)); (case aO => exact (zkr HO_4.out)); (case aS => exact (below_size (zbl HB.out))); (case aL => have := cz.out; omega); intro v262 gV ho hb hg hat; rw [← cB.out] at ho; have cD := zam (ho); replace HB := zam (hb); clear HO_4; clear ho hb hg hat))
        go_roundg k1
        case measure => have := HK1.out; omega
        case rel => exact ⟨(gh), (wrap64 ((wrap64 (bb + 1)) + 1)), zrs, H', ⟨zlo HK1.out⟩, ⟨zkr cD.out⟩, ⟨zbl HB.out⟩⟩
       ·rw [if_neg bQ] at H
        exact absurd H (by simp)
      ·replace c9 := Bool.eq_false_iff.mpr c9
       subst c9; rw [if_neg (show ¬ (false = true) by decide)] at H; replace H := Option.bind_eq_some_iff.mp H; obtain ⟨cm, cF, H⟩ := H; have gx := zam cF; clear cF
       by_cases bD : cm = true
       ·subst bD
        rw [if_pos rfl] at H
        by_cases bF : bf.length < 140737488355328
        ·rw [if_pos bF] at H
         have cG := zam bF; clear bF
         obtain ⟨gj, bH⟩ : ∃ y_ : List Int, y_ = (bf ++ [47]) := ⟨_, rfl⟩
         first | rw [Option.bind_some, ← bH] at H | rw [← bH] at H
         have cH := zam bH; clear bH; have H' := zam H; clear H; have p6 := zet (0 ≤ (bb : Int)); have q6 := zet (bb < (a0.size : Int)); have cC := bt_at a0 bb
         go_wp2_with (first | ((with_reducible refine gate_callee (f := 89) rfl ?_); refine goesL_ (some 26) rfl rfl Tryz.func89 (by kernel_rfl) rfl #[.string a0, .int .i64 (wrap64 (bb + 1)), .int .u8 48] rfl zar ?_; (with_reducible refine (spec_l1At.calls a0 (wrap64 (bb + 1)) 48 false _ A8.out).mono ?_); rintro e w' ⟨rfl, ⟨nd, rfl⟩⟩; refine ⟨_, rfl, ?_⟩) | ((with_reducible refine gate_callee (f := 89) rfl ?_); refine goesL_ (some 35) rfl rfl Tryz.func89 (by kernel_rfl) rfl #[.string a0, .int .i64 (wrap64 (bb + 1)), .int .u8 49] rfl zar ?_; (with_reducible refine (spec_l1At.calls a0 (wrap64 (bb + 1)) 49 true _ gx.out).mono ?_); rintro e w' ⟨rfl, ⟨nd, rfl⟩⟩; refine ⟨_, rfl, ?_⟩) | ((with_reducible refine gate_builtin (b := .append) (xs := #[.tmp 36, .tmp 37]) rfl ?_); at_builtin; refine Kd.R_append (Kd.int .u8) (w0 := w) w.heap.size rfl (.tmp 36) (.tmp 37) 44 5 (.int .u8 0) 1 rfl Tryz.underlying44 info5 rfl (by decide) (by omega) u4 bf 47 [.int .u8 47] (fun _ => True) (fun _ => False) rfl rfl ?aP (fun _ hk => hk.elim) ?aF ?aO ?aB ?aS ?aL ?_; (case aP => exact rfl); (case aB => exact (zbl HB.out)); (case aF => exact (fun _ _ => trivial)); (case aO => exact (zkr HO_4.out)); (case aS => exact (below_size (zbl HB.out))); (case aL => have := cG.out; omega); intro v266 gW ho hb hg hat; rw [← cH.out] at ho; have cJ := zam (ho); replace HB := zam (hb); clear HO_4; clear ho hb hg hat))
         go_roundg k1
         case measure => have := HK1.out; omega
         case rel => exact ⟨(gj), (wrap64 ((wrap64 (bb + 1)) + 1)), zrs, H', ⟨zlo HK1.out⟩, ⟨zkr cJ.out⟩, ⟨zbl HB.out⟩⟩
        ·rw [if_neg bF] at H
         exact absurd H (by simp)
       ·replace bD := Bool.eq_false_iff.mpr bD
        subst bD; rw [if_neg (show ¬ (false = true) by decide)] at H
        simp only [Option.some.injEq, Prod.mk.injEq] at H
        obtain ⟨rfl, rfl⟩ := H; have p6 := zet (0 ≤ (bb : Int)); have q6 := zet (bb < (a0.size : Int)); have cC := bt_at a0 bb
        go_wp2_with (first | ((with_reducible refine gate_callee (f := 89) rfl ?_); refine goesL_ (some 26) rfl rfl Tryz.func89 (by kernel_rfl) rfl #[.string a0, .int .i64 (wrap64 (bb + 1)), .int .u8 48] rfl zar ?_; (with_reducible refine (spec_l1At.calls a0 (wrap64 (bb + 1)) 48 false _ A8.out).mono ?_); rintro e w' ⟨rfl, ⟨nd, rfl⟩⟩; refine ⟨_, rfl, ?_⟩) | ((with_reducible refine gate_callee (f := 89) rfl ?_); refine goesL_ (some 35) rfl rfl Tryz.func89 (by kernel_rfl) rfl #[.string a0, .int .i64 (wrap64 (bb + 1)), .int .u8 49] rfl zar ?_; (with_reducible refine (spec_l1At.calls a0 (wrap64 (bb + 1)) 49 false _ gx.out).mono ?_); rintro e w' ⟨rfl, ⟨nd, rfl⟩⟩; refine ⟨_, rfl, ?_⟩))
        go_ret2
        exact ⟨zer, zbl HB.out⟩
     ·rw [if_neg c7] at H
      have cn := beq_eq_false_iff_ne.mpr c7; have cp := bne_iff_ne.mpr c7
      by_cases bV : bf.length < 140737488355328
      ·rw [if_pos bV] at H
       have cK := zam bV; clear bV
       obtain ⟨gm, bJ⟩ : ∃ y_ : List Int, y_ = (bf ++ [bt a0 bb]) := ⟨_, rfl⟩
       first | rw [Option.bind_some, ← bJ] at H | rw [← bJ] at H
       have cL := zam bJ; clear bJ; have H' := zam H; clear H; have p6 := zet (0 ≤ (bb : Int)); have q6 := zet (bb < (a0.size : Int)); have cC := bt_at a0 bb; have gX := zet (0 ≤ (bb : Int)); have gY := zet (bb < (a0.size : Int)); have gN := bt_at a0 bb
       go_wp2_with (first | ((with_reducible refine gate_builtin (b := .append) (xs := #[.tmp 17, .tmp 21]) rfl ?_); at_builtin; refine Kd.R_append (Kd.int .u8) (w0 := w) w.heap.size rfl (.tmp 17) (.tmp 21) 44 5 (.int .u8 0) 1 rfl Tryz.underlying44 info5 rfl (by decide) (by omega) u4 bf (bt a0 bb) [.int .u8 (bt a0 bb)] (fun _ => True) (fun _ => False) rfl rfl ?aP (fun _ hk => hk.elim) ?aF ?aO ?aB ?aS ?aL ?_; (case aP => exact rfl); (case aB => exact (zbl HB.out)); (case aF => exact (fun _ _ => trivial)); (case aO => exact (zkr HO_4.out)); (case aS => exact (below_size (zbl HB.out))); (case aL => have := cK.out; omega); intro v269 gZ ho hb hg hat; rw [← cL.out] at ho; have cM := zam (ho); replace HB := zam (hb); clear HO_4; clear ho hb hg hat))
       go_roundg k1
       case measure => have := HK1.out; omega
       case rel => exact ⟨(gm), (wrap64 (bb + 1)), zrs, H', ⟨zlo HK1.out⟩, ⟨zkr cM.out⟩, ⟨zbl HB.out⟩⟩
      ·rw [if_neg bV] at H
       exact absurd H (by simp)
    ·rw [if_neg c5] at H
     exact absurd H (by simp)
   ·rw [if_neg c4] at H
    have gf := decide_eq_false c4; clear c4
    simp only [Option.some.injEq, Prod.mk.injEq] at H
    obtain ⟨rfl, rfl⟩ := H; have hcv19 := own_string (P := Tryz.prog) Tryz.underlying44 Tryz.underlying5 Tryz.underlying9 (Kd.own_of_R HO_4.out)
    go_wp2
    go_ret2
    exact ⟨zer, zbl HB.out⟩
mutual
def spec_PtrTokens.l0 : Nat → ByteArray → List ByteArray → Int → Int → Option (List ByteArray × Bool)
 | 0, _, _, _, _ => none
 | k + 1, x0, x4, x5, x6 => if x6 ≤ (x0.size : Int) then (if x6 = (x0.size : Int) then (spec_PtrTokens.j1 k x0 x4 x5 x6 true) else (if 0 ≤ x6 then (if x6 < (x0.size : Int) then (spec_PtrTokens.j1 k x0 x4 x5 x6 ((bt x0 x6) == 47)) else (none)) else (none))) else (some (x4, true))
def spec_PtrTokens.j1 : Nat → ByteArray → List ByteArray → Int → Int → Bool → Option (List ByteArray × Bool)
 | 0, _, _, _, _, _ => none
 | k + 1, x0, x4, x5, x6, gP => if gP = true then (if 0 ≤ x5 then (if x5 ≤ x6 then (if x6 ≤ (x0.size : Int) then ((spec_l1Token.f k (x0.extract (x5 : Int).toNat (x6 : Int).toNat)).bind fun cd => (if cd.2 = true then (if x4.length < 8796093022208 then (spec_PtrTokens.l0 k x0 (x4 ++ [cd.1]) (wrap64 (x6 + 1)) (wrap64 (x6 + 1))) else (none)) else (some ((([] : List ByteArray)), false)))) else (none)) else (none)) else (none)) else (spec_PtrTokens.l0 k x0 x4 x5 (wrap64 (x6 + 1)))
end
def spec_PtrTokens.f (k : Nat) (a0 : ByteArray) : Option (List ByteArray × Bool) := (some (([] : List ByteArray) : List ByteArray)).bind fun bm => (if a0.toList = ([] : List UInt8) then (some (bm, true)) else (if 0 < (a0.size : Int) then (if (bt a0 0) = 47 then (spec_PtrTokens.l0 k a0 bm 1 1) else (some (bm, false))) else (none)))
set_option maxHeartbeats 8000000 in
set_option maxRecDepth 100000 in
theorem spec_PtrTokens.calls (k : Nat) (a0 : ByteArray) (r1 : List ByteArray) (r2 : Bool) (w : World) (h : spec_PtrTokens.f k a0 = some (r1, r2)) :
  Calls Tryz.prog 28 #[.string a0] w fun e w' => ∃ v0_ : Value, e = .returned (.tuple #[v0_, .bool r2]) ∧ Kd.R Kd.string 9 w' w.heap.size (fun _ => True) v0_ r1 ∧ Below w.heap.size w w' := by
 have HB := zam (Below.refl w.heap.size w); have H : ((some (([] : List ByteArray) : List ByteArray)).bind fun bm => (if a0.toList = ([] : List UInt8) then (some (bm, true)) else (if 0 < (a0.size : Int) then (if (bt a0 0) = 47 then (spec_PtrTokens.l0 k a0 bm 1 1) else (some (bm, false))) else (none)))) = some (r1, r2) := h; clear h
 obtain ⟨bm, bs⟩ : ∃ y_ : List ByteArray, y_ = (([] : List ByteArray)) := ⟨_, rfl⟩
 replace H : (if a0.toList = ([] : List UInt8) then (some (bm, true)) else (if 0 < (a0.size : Int) then (if (bt a0 0) = 47 then (spec_PtrTokens.l0 k a0 bm 1 1) else (some (bm, false))) else (none))) = some (r1, r2) := by first | (rw [bs]; with_reducible exact H) | (have H2_ := (Option.bind_some _ _).symm.trans H; rw [bs]; with_reducible exact H2_) | (have H2_ := (Option.bind_some _ _).symm.trans H; with_reducible exact H2_) | with_reducible exact H | (rw [bs]; exact H) | exact H
 have bn := zam bs; clear bs
 by_cases c2 : a0.toList = ([] : List UInt8)
 ·rw [if_pos c2] at H
  have ch := beq_iff_eq.mpr c2; have cj := bne_eq_false_iff_eq.mpr c2; clear c2
  simp only [Option.some.injEq, Prod.mk.injEq] at H
  obtain ⟨rfl, rfl⟩ := H
  go_enter Tryz.func28, Tryz.ntmps28
  go_wp2_with (first | ((with_reducible refine gate_dst (N := 9) rfl ?_); refine Kd.R_lit Kd.string _ 9 ?hg (N := 9) ?hd (xs := ([] : List ByteArray)) (inner := []) (ok := fun _ => True) (okp := fun _ => True) ?hr ?hp (fun _ hk => hk) trivial (Below.refl _ _) (Nat.le_refl _) (by simp) ?_; (case hd => rfl); (case hg => rfl); (case hr => first | (go_simp; done) | (go_simp; rfl)); (case hp => exact (Reps.none _ _)); intro v272 w3 cN hb hg_ hnew_; clear hg_ hnew_; (first | rw [← bn.out] at cN | (simp only [Int.reduceToNat] at cN; rw [← bn.out] at cN)); have bv := zam (Kd.R_lower cN (below_size (zbl HB.out))); replace HB := zam (below_step (zbl HB.out) hb); clear hb cN))
  go_ret2
  exact ⟨_, zer, by refine zkr ?_; exact bv.out, zbl HB.out⟩
 ·rw [if_neg c2] at H
  have ch := beq_eq_false_iff_ne.mpr c2; have cj := bne_iff_ne.mpr c2
  by_cases c5 : 0 < (a0.size : Int)
  ·rw [if_pos c5] at H
   have gg := decide_eq_true c5; have gQ : decide (0 < a0.size) = true := decide_eq_true (by omega); clear c5
   by_cases c7 : (bt a0 0) = 47
   ·rw [if_pos c7] at H
    have cn := beq_iff_eq.mpr c7; have cp := bne_eq_false_iff_eq.mpr c7; clear c7; have H' := zam H; clear H
    go_enter Tryz.func28, Tryz.ntmps28
    go_wp2_with (first | ((with_reducible refine gate_dst (N := 9) rfl ?_); refine Kd.R_lit Kd.string _ 9 ?hg (N := 9) ?hd (xs := ([] : List ByteArray)) (inner := []) (ok := fun _ => True) (okp := fun _ => True) ?hr ?hp (fun _ hk => hk) trivial (Below.refl _ _) (Nat.le_refl _) (by simp) ?_; (case hd => rfl); (case hg => rfl); (case hr => first | (go_simp; done) | (go_simp; rfl)); (case hp => exact (Reps.none _ _)); intro v272 w8 cP hb hg_ hnew_; clear hg_ hnew_; (first | rw [← bn.out] at cP | (simp only [Int.reduceToNat] at cP; rw [← bn.out] at cP)); have bv := zam (Kd.R_lower cP (below_size (zbl HB.out))); replace HB := zam (below_step (zbl HB.out) hb); clear hb cP; have p6 : 0 ≤ (0 : Int) := (by omega); have q6 : 0 < a0.size := (by have : (0 : Int) < (a0.size : Int) := of_decide_eq_true zas; omega); have cC : ∀ h : 0 < a0.size, ((a0[0]'h).toNat : Int) = bt a0 0 := bt_at a0 0; clear p6; have qi6 : (0 < (a0.size : Int)) = True := eq_true (of_decide_eq_true zas); replace q6 := eq_true q6))
    (try simp only [Act.put, List.setIfInBounds_toArray, List.set_cons_zero, List.set_cons_succ])
    go_loopg [4, 5, 6] k (fun kq v4 v5 v6 w' => ∃ (bf : List ByteArray) (bb : Int) (bg : Int), v5 = .int .i64 bb ∧ v6 = .int .i64 bg ∧ Aside0 (spec_PtrTokens.l0 kq a0 bf bb bg = some (r1, r2)) ∧ Aside0 (kq ≤ k) ∧ Aside0 (Kd.R Kd.string 9 w' w.heap.size (fun _ => True) v4 bf) ∧ Aside0 (Below w.heap.size w w'))
    case atStart => exact ⟨(bm), (1), (1), zrs, zrs, H', ⟨Nat.le_refl _⟩, ⟨zkr bv.out⟩, ⟨zbl HB.out⟩⟩
    case round =>
     clear H'; obtain ⟨bf, bb, bg, rfl, rfl, HA, HK1, HO_4, HB⟩ := hrel
     cases gk with
     | zero => exact absurd HA.out (by simp [spec_PtrTokens.l0])
     | succ k1 =>
      have H := HA.out; clear HA
      simp only [spec_PtrTokens.l0] at H
      by_cases bQ : bg ≤ (a0.size : Int)
      ·rw [if_pos bQ] at H
       have cQ := decide_eq_true bQ; clear bQ; have cq := zam H; clear H
       go_upto_region 10 with (fail)
       go_cut [32] (fun v32 wc => ∃ (kq : Nat) (bp : Bool), v32 = .bool bp ∧ Aside0 (spec_PtrTokens.j1 kq a0 bf bb bg bp = some (r1, r2)) ∧ Aside0 (kq ≤ k1) ∧ Aside0 (Kd.R Kd.string 9 wc w.heap.size (fun _ => True) u4 bf) ∧ Aside0 (Below w.heap.size w wc))
       case first =>
        have H := cq.out; clear cq
        by_cases cr : bg = (a0.size : Int)
        ·rw [if_pos cr] at H
         have bw := beq_iff_eq.mpr cr; have cR := bne_eq_false_iff_eq.mpr cr; clear cr
         (first | rw [bw] | (simp only [i64_w, i32_w, IntKind.wrap_u8, IntKind.wrap_u32]; rw [bw]) | skip)
         have H' := zam H; clear H
         go_wp2
         go_meet
         case rel => exact ⟨_, (true), zrs, H', ⟨zlo HK1.out⟩, ⟨zkr HO_4.out⟩, ⟨zbl HB.out⟩⟩
        ·rw [if_neg cr] at H
         have bw := beq_eq_false_iff_ne.mpr cr; have cR := bne_iff_ne.mpr cr
         (first | rw [bw] | (simp only [i64_w, i32_w, IntKind.wrap_u8, IntKind.wrap_u32]; rw [bw]) | skip)
         by_cases bD : 0 ≤ bg
         ·rw [if_pos bD] at H
          have gy := decide_eq_true bD; clear bD
          by_cases bF : bg < (a0.size : Int)
          ·rw [if_pos bF] at H
           have gz := decide_eq_true bF; clear bF; have H' := zam H; clear H; have hc := zet (0 ≤ (bg : Int)); have hf := zet (bg < (a0.size : Int)); have gR := bt_at a0 bg
           go_wp2
           go_meet
           case rel => exact ⟨_, (((bt a0 bg) == 47)), zrs, H', ⟨zlo HK1.out⟩, ⟨zkr HO_4.out⟩, ⟨zbl HB.out⟩⟩
          ·rw [if_neg bF] at H
           exact absurd H (by simp)
         ·rw [if_neg bD] at H
          exact absurd H (by simp)
       case rest =>
        clear cq; obtain ⟨kq, bp, rfl, HA, cb, HO_4, HB⟩ := hcut
        cases kq with
        | zero => exact absurd HA.out (by simp [spec_PtrTokens.j1])
        | succ kj10 =>
         have H := HA.out; clear HA
         simp only [spec_PtrTokens.j1] at H
         by_cases bZ : bp = true
         ·subst bZ
          rw [if_pos rfl] at H
          by_cases bV : 0 ≤ bb
          ·rw [if_pos bV] at H
           have gB := eq_true bV; have gC := decide_eq_true bV; clear bV
           by_cases cS : bb ≤ bg
           ·rw [if_pos cS] at H
            have gD := eq_true cS; have gF := decide_eq_true cS; clear cS
            by_cases bT : bg ≤ (a0.size : Int)
            ·rw [if_pos bT] at H
             have gG := eq_true bT; have gH := decide_eq_true bT; clear bT; replace H := Option.bind_eq_some_iff.mp H; obtain ⟨⟨bR, gn⟩, cT, H⟩ := H
             try dsimp only at H
             have gJ := zam cT; clear cT
             by_cases fP : gn = true
             ·subst fP
              rw [if_pos rfl] at H
              by_cases fQ : bf.length < 8796093022208
              ·rw [if_pos fQ] at H
               have cV := zam fQ; clear fQ
               obtain ⟨gp, bK⟩ : ∃ y_ : List ByteArray, y_ = (bf ++ [bR]) := ⟨_, rfl⟩
               first | rw [Option.bind_some, ← bK] at H | rw [← bK] at H
               have cW := zam bK; clear bK; have H' := zam H; clear H
               go_wp2_with (first | ((with_reducible refine gate_callee (f := 55) rfl ?_); refine goesL_ (some 38) rfl rfl Tryz.func55 (by kernel_rfl) rfl #[.string (a0.extract (bb : Int).toNat (bg : Int).toNat)] rfl zar ?_; (with_reducible refine (spec_l1Token.calls kj10 (a0.extract (bb : Int).toNat (bg : Int).toNat) bR true _ gJ.out).mono ?_); rintro e hh ⟨rfl, hb⟩; refine ⟨_, rfl, ?_⟩; replace HO_4 := zam (Kd.R_below (zkr HO_4.out) hb); replace HB := zam (below_step (zbl HB.out) hb); (try clear hb); (try clear hb2); (try clear hk); (try clear hi)) | ((with_reducible refine gate_builtin (b := .append) (xs := #[.tmp 44, .tmp 46]) rfl ?_); at_builtin; refine Kd.R_append Kd.string (w0 := w) w.heap.size rfl (.tmp 44) (.tmp 46) 25 9 (.string ⟨#[]⟩) 16 rfl Tryz.underlying25 info9 rfl (by decide) (by omega) u4 bf bR [.string bR] (fun _ => True) (fun _ => False) rfl rfl ?aP (fun _ hk => hk.elim) ?aF ?aO ?aB ?aS ?aL ?_; (case aP => exact rfl); (case aB => exact (zbl HB.out)); (case aF => exact (fun _ _ => trivial)); (case aO => exact (zkr HO_4.out)); (case aS => exact (below_size (zbl HB.out))); (case aL => have := cV.out; omega); intro v277 gM ho hb hg hat; rw [← cW.out] at ho; have cX := zam (ho); replace HB := zam (hb); clear HO_4; clear ho hb hg hat))
               go_roundg kj10
               case measure => have := HK1.out; have := cb.out; omega
               case rel => exact ⟨(gp), (wrap64 (bg + 1)), (wrap64 (bg + 1)), zrs, zrs, H', ⟨zlo2 HK1.out cb.out⟩, ⟨zkr cX.out⟩, ⟨zbl HB.out⟩⟩
              ·rw [if_neg fQ] at H
               exact absurd H (by simp)
             ·replace fP := Bool.eq_false_iff.mpr fP
              subst fP; rw [if_neg (show ¬ (false = true) by decide)] at H
              obtain ⟨gq, bx⟩ : ∃ y_ : List ByteArray, y_ = (([] : List ByteArray)) := ⟨_, rfl⟩
              replace H : (some (gq, false)) = some (r1, r2) := by first | (rw [bx]; with_reducible exact H) | (have H2_ := (Option.bind_some _ _).symm.trans H; rw [bx]; with_reducible exact H2_) | (have H2_ := (Option.bind_some _ _).symm.trans H; with_reducible exact H2_) | with_reducible exact H | (rw [bx]; exact H) | exact H
              have cf := zam bx; clear bx
              simp only [Option.some.injEq, Prod.mk.injEq] at H
              obtain ⟨rfl, rfl⟩ := H
              go_wp2_with (first | ((with_reducible refine gate_callee (f := 55) rfl ?_); refine goesL_ (some 38) rfl rfl Tryz.func55 (by kernel_rfl) rfl #[.string (a0.extract (bb : Int).toNat (bg : Int).toNat)] rfl zar ?_; (with_reducible refine (spec_l1Token.calls kj10 (a0.extract (bb : Int).toNat (bg : Int).toNat) bR false _ gJ.out).mono ?_); rintro e hj ⟨rfl, hb⟩; refine ⟨_, rfl, ?_⟩; replace HO_4 := zam (Kd.R_below (zkr HO_4.out) hb); replace HB := zam (below_step (zbl HB.out) hb); (try clear hb); (try clear hb2); (try clear hk); (try clear hi)) | ((with_reducible refine gate_dst (N := 43) rfl ?_); refine Kd.R_lit Kd.string _ 9 ?hg (N := 43) ?hd (xs := ([] : List ByteArray)) (inner := []) (ok := fun _ => True) (okp := fun _ => True) ?hr ?hp (fun _ hk => hk) trivial (Below.refl _ _) (Nat.le_refl _) (by simp) ?_; (case hd => rfl); (case hg => rfl); (case hr => first | (go_simp; done) | (go_simp; rfl)); (case hp => exact (Reps.none _ _)); intro v280 hm bP hb hg_ hnew_; clear hg_ hnew_; (first | rw [← cf.out] at bP | (simp only [Int.reduceToNat] at bP; rw [← cf.out] at bP)); have cY := zam (Kd.R_lower (Kd.R_new' bP (Kd.R_lt (zkr HO_4.out))) (below_size (zbl HB.out))); replace HO_4 := zam (Kd.R_elder' (zkr HO_4.out) (Kd.R_base bP) hb); replace HB := zam (below_step (zbl HB.out) hb); clear hb bP))
              go_ret2
              exact ⟨_, zer, by refine zkr ?_; exact Kd.R_mono cY.out (fun _ hk => trivial), zbl HB.out⟩
            ·rw [if_neg bT] at H
             exact absurd H (by simp)
           ·rw [if_neg cS] at H
            exact absurd H (by simp)
          ·rw [if_neg bV] at H
           exact absurd H (by simp)
         ·replace bZ := Bool.eq_false_iff.mpr bZ
          subst bZ; rw [if_neg (show ¬ (false = true) by decide)] at H; have H' := zam H; clear H
          go_wp2
          go_roundg kj10
          case measure => have := HK1.out; have := cb.out; omega
          case rel => exact ⟨(bf), (bb), (wrap64 (bg + 1)), zrs, zrs, H', ⟨zlo2 HK1.out cb.out⟩, ⟨zkr HO_4.out⟩, ⟨zbl HB.out⟩⟩
      ·rw [if_neg bQ] at H
       have cQ := decide_eq_false bQ; clear bQ
       simp only [Option.some.injEq, Prod.mk.injEq] at H
       obtain ⟨rfl, rfl⟩ := H
       go_wp2
       go_ret2
       exact ⟨_, zer, by refine zkr ?_; exact HO_4.out, zbl HB.out⟩
   ·rw [if_neg c7] at H
    have cn := beq_eq_false_iff_ne.mpr c7; have cp := bne_iff_ne.mpr c7
    simp only [Option.some.injEq, Prod.mk.injEq] at H
    obtain ⟨rfl, rfl⟩ := H
    go_enter Tryz.func28, Tryz.ntmps28
    go_wp2_with (first | ((with_reducible refine gate_dst (N := 9) rfl ?_); refine Kd.R_lit Kd.string _ 9 ?hg (N := 9) ?hd (xs := ([] : List ByteArray)) (inner := []) (ok := fun _ => True) (okp := fun _ => True) ?hr ?hp (fun _ hk => hk) trivial (Below.refl _ _) (Nat.le_refl _) (by simp) ?_; (case hd => rfl); (case hg => rfl); (case hr => first | (go_simp; done) | (go_simp; rfl)); (case hp => exact (Reps.none _ _)); intro v272 hn bS hb hg_ hnew_; clear hg_ hnew_; (first | rw [← bn.out] at bS | (simp only [Int.reduceToNat] at bS; rw [← bn.out] at bS)); have bv := zam (Kd.R_lower bS (below_size (zbl HB.out))); replace HB := zam (below_step (zbl HB.out) hb); clear hb bS; have p6 : 0 ≤ (0 : Int) := (by omega); have q6 : 0 < a0.size := (by have : (0 : Int) < (a0.size : Int) := of_decide_eq_true zas; omega); have cC : ∀ h : 0 < a0.size, ((a0[0]'h).toNat : Int) = bt a0 0 := bt_at a0 0; clear p6; have qi6 : (0 < (a0.size : Int)) = True := eq_true (of_decide_eq_true zas); replace q6 := eq_true q6))
    go_ret2
    exact ⟨_, zer, by refine zkr ?_; exact bv.out, zbl HB.out⟩
  ·rw [if_neg c5] at H
   exact absurd H (by simp)
end Go.Proofs.YtndagnkhjlgjgaaGreatDoor.PJt
