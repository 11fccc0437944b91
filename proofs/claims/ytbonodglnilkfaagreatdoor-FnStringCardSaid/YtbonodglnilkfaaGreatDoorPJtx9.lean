-- Written by a turned copy of the kit print (wip/patch_print.py of this repo), this session
import Derived.Test.YtbonodglnilkfaaGreatDoorPJtx0
import Derived.Test.YtbonodglnilkfaaGreatDoorPJtx1
import Derived.Test.YtbonodglnilkfaaGreatDoorPJtx8
import Derived.Test.YtbonodglnilkfaaGreatDoorOwn
namespace Go.Proofs.YtbonodglnilkfaaGreatDoor.PJt
open Go.RowKit Go.Proofs.YtbonodglnilkfaaGreatDoor.Own Go.Proofs.YtbonodglnilkfaaGreatDoor.Xtra Go.Proofs.YtbonodglnilkfaaGreatDoorW.PrintWords Go.Proofs.YtbonodglnilkfaaGreatDoorW.PrintLast Go.Proofs.YtbonodglnilkfaaGreatDoorW.PrintMore
attribute [local go_sem] max2_int min2_int max_two min_two max_three min_three max_four min_four   -- for this text's walks alone
set_option linter.unusedVariables false
set_option linter.unusedSimpArgs false
section
variable [Inhabited Rec]
def spec_Canon.j0 : Nat → Bool → ByteArray → Int → Bool → Bool → Bool → Option (ByteArray × Int)
 | 0, _, _, _, _, _, _ => none
 | k + 1, gL, bB, cH, cJ, bW, bX => if gL = true then (some ((⟨#[]⟩ : ByteArray), 2)) else (if bW = true then (some ((⟨#[]⟩ : ByteArray), 3)) else (if bX = true then (some ((⟨#[]⟩ : ByteArray), 4)) else ((spec_l1Within.f k bB).bind fun cd => (if cd = true then (some (bB, 0)) else (some ((⟨#[]⟩ : ByteArray), 5))))))
def spec_Canon.f (k : Nat) (a0 : ByteArray) : Option (ByteArray × Int) := if (a0.size : Int) > 20000 then (some ((⟨#[]⟩ : ByteArray), 1)) else ((spec_l1Skip.f k a0 0).bind fun bw => ((spec_l1Value.f a0 bw).bind fun bc => (if bc.2.2.1 = true then ((spec_l1Skip.f k a0 bc.2.1).bind fun bN => (spec_Canon.j0 k (bN != (a0.size : Int)) bc.1 bc.2.1 bc.2.2.1 bc.2.2.2.1 bc.2.2.2.2)) else (spec_Canon.j0 k true bc.1 bc.2.1 bc.2.2.1 bc.2.2.2.1 bc.2.2.2.2))))
set_option maxHeartbeats 8000000 in
set_option maxRecDepth 100000 in
theorem spec_Canon.calls (k : Nat) (a0 : ByteArray) (r1 : ByteArray) (r2 : Int) (w : World) (h : spec_Canon.f k a0 = some (r1, r2)) :
  Calls Tryz.prog 6 #[.string a0] w fun e w' => e = .returned (.tuple #[.string r1, .int .i64 r2]) ∧ Below w.heap.size w w' := by
 have hu38 := Tryz.underlying38
 have HB := zam (Below.refl w.heap.size w)
 have H : (if (a0.size : Int) > 20000 then (some ((⟨#[]⟩ : ByteArray), 1)) else ((spec_l1Skip.f k a0 0).bind fun bw => ((spec_l1Value.f a0 bw).bind fun bc => (if bc.2.2.1 = true then ((spec_l1Skip.f k a0 bc.2.1).bind fun bN => (spec_Canon.j0 k (bN != (a0.size : Int)) bc.1 bc.2.1 bc.2.2.1 bc.2.2.2.1 bc.2.2.2.2)) else (spec_Canon.j0 k true bc.1 bc.2.1 bc.2.2.1 bc.2.2.2.1 bc.2.2.2.2))))) = some (r1, r2) := h
 clear h
 by_cases c2 : (a0.size : Int) > 20000
 ·rw [if_pos c2] at H
  have fN := zgt c2
  have fP : decide (20000 < a0.size) = true := decide_eq_true (by omega)
  clear c2
  simp only [Option.some.injEq, Prod.mk.injEq] at H
  obtain ⟨rfl, rfl⟩ := H
  go_enter Tryz.func6, Tryz.ntmps6
  go_wp2
  go_ret2
  exact ⟨zer, zbl HB.out⟩
 ·rw [if_neg c2] at H
  have fN := zgt' c2
  have fP : decide (20000 < a0.size) = false := decide_eq_false (by omega)
  clear c2
  replace H := Option.bind_eq_some_iff.mp H
  obtain ⟨bw, gt, H⟩ := H
  have A3 := zam gt
  clear gt
  replace H := Option.bind_eq_some_iff.mp H
  obtain ⟨⟨bg, bn, bP, bQ, bY⟩, gv, H⟩ := H
  try dsimp only at H
  have A4 := zam gv
  clear gv
  have fQ := zam H
  clear H
  go_enter Tryz.func6, Tryz.ntmps6
  go_upto_region 4 with (first | ((with_reducible refine gate_callee (f := 18) rfl ?_); refine goesL_ (some 10) rfl rfl Tryz.func18 (by kernel_rfl) rfl #[.string a0, .int .i64 0] rfl zar ?_; (with_reducible refine (spec_l1Skip.calls k a0 0 bw _ A3.out).mono ?_); rintro e w' ⟨rfl, ⟨nd, rfl⟩⟩; refine ⟨_, rfl, ?_⟩) | ((with_reducible refine gate_callee (f := 17) rfl ?_); refine goesL_ (some 11) rfl rfl Tryz.func17 (by kernel_rfl) rfl #[.string a0, .int .i64 bw] rfl zar ?_; (with_reducible refine (spec_l1Value.calls a0 bw bg bn bP bQ bY _ A4.out).mono ?_); rintro e w6 ⟨rfl, hb⟩; refine ⟨_, rfl, ?_⟩; replace HB := zam (below_step (zbl HB.out) hb); (try clear hb); (try clear hb2); (try clear hk); (try clear hi)) | ((with_reducible refine gate_dst (N := 4) rfl ?_); (try (refine gate_guard (by rfl) ?_; dsimp only)); refine zbox (N := 4) (cs := #[.string (⟨#[]⟩ : ByteArray), .int .i64 0, .bool false, .bool false, .bool false]) (t := 38) ?_; intro bq hg w7 hbox hb; have bd := zam (hbox); have gw := zam ((by rw [hg]; exact (below_size (zbl HB.out)) : w.heap.size ≤ bq)); have bj := zam ((by rw [hg]; exact (below_size (zbl HB.out)) : w.heap.size ≤ bq)); replace HB := zam (below_step (zbl HB.out) hb); clear hb hbox hg; obtain ⟨fR, fS, fT, fV, fW, fX, fY, fZ, gb, gc⟩ := cells5 bd.out))
  (try simp only [Act.put, List.setIfInBounds_toArray, List.set_cons_zero, List.set_cons_succ])
  go_cut [23] (fun v23 wc => ∃ (kq : Nat) (bC : Bool), v23 = .bool bC ∧ Aside0 (spec_Canon.j0 kq bC bg bn bP bQ bY = some (r1, r2)) ∧ Aside0 (kq ≤ k) ∧ Aside0 (wc.heap[bq]? = some (.cells #[.string bg, .int .i64 bn, .bool bP, .bool bQ, .bool bY] 38 (0, 0))) ∧ Aside0 (Below w.heap.size w wc))
  case first =>
   have H := fQ.out
   clear fQ
   by_cases c9 : bP = true
   ·subst c9
    rw [if_pos rfl] at H
    replace H := Option.bind_eq_some_iff.mp H
    obtain ⟨bN, cg, H⟩ := H
    have gM := zam cg
    clear cg
    have H' := zam H
    clear H
    obtain ⟨cK, cL, cM, cN, cP, cQ, cR, cS, cT, cV⟩ := cells5 bd.out
    go_wp2_with (first | (go_at_call 18; (with_reducible refine (spec_l1Skip.calls k a0 bn bN _ gM.out).mono ?_); rintro e w' ⟨rfl, ⟨nd, rfl⟩⟩))
    go_meet
    case rel => exact ⟨_, ((bN != (a0.size : Int))), zrs, H', ⟨zlo0⟩, ⟨by refine zbk ?_; refine blk_put (cs := #[.string bg, .int .i64 bn, .bool true, .bool bQ, .bool false]) ?_ 4 _ rfl; refine zbk ?_; refine blk_put (cs := #[.string bg, .int .i64 bn, .bool true, .bool false, .bool false]) ?_ 3 _ rfl; refine zbk ?_; refine blk_put (cs := #[.string bg, .int .i64 bn, .bool false, .bool false, .bool false]) ?_ 2 _ rfl; refine zbk ?_; refine blk_put (cs := #[.string bg, .int .i64 0, .bool false, .bool false, .bool false]) ?_ 1 _ rfl; refine zbk ?_; refine blk_put (cs := #[.string (⟨#[]⟩ : ByteArray), .int .i64 0, .bool false, .bool false, .bool false]) ?_ 0 _ rfl; refine zbk ?_; exact bd.out⟩, ⟨zbl1 HB.out bj.out⟩⟩
   ·replace c9 := Bool.eq_false_iff.mpr c9
    subst c9
    rw [if_neg (show ¬ (false = true) by decide)] at H
    have H' := zam H
    clear H
    obtain ⟨cW, cX, cY, cZ, db, dc, dd, df, dg, dh⟩ := cells5 bd.out
    go_wp2
    go_meet
    case rel => exact ⟨_, (true), zrs, H', ⟨zlo0⟩, ⟨by refine zbk ?_; refine blk_put (cs := #[.string bg, .int .i64 bn, .bool false, .bool bQ, .bool false]) ?_ 4 _ rfl; refine zbk ?_; refine blk_put (cs := #[.string bg, .int .i64 bn, .bool false, .bool false, .bool false]) ?_ 3 _ rfl; refine zbk ?_; refine blk_put (cs := #[.string bg, .int .i64 bn, .bool false, .bool false, .bool false]) ?_ 2 _ rfl; refine zbk ?_; refine blk_put (cs := #[.string bg, .int .i64 0, .bool false, .bool false, .bool false]) ?_ 1 _ rfl; refine zbk ?_; refine blk_put (cs := #[.string (⟨#[]⟩ : ByteArray), .int .i64 0, .bool false, .bool false, .bool false]) ?_ 0 _ rfl; refine zbk ?_; exact bd.out⟩, ⟨zbl1 HB.out bj.out⟩⟩
  case rest =>
   clear fQ
   obtain ⟨kq, bC, rfl, HA, gX, bd, HB⟩ := hcut
   cases kq with
   | zero => exact absurd HA.out (by simp [spec_Canon.j0])
   | succ kj4 =>
    have H := HA.out
    clear HA
    simp only [spec_Canon.j0] at H
    by_cases dj : bC = true
    ·subst dj
     rw [if_pos rfl] at H
     simp only [Option.some.injEq, Prod.mk.injEq] at H
     obtain ⟨rfl, rfl⟩ := H
     go_wp2
     go_ret2
     exact ⟨zer, zbl1 HB.out bj.out⟩
    ·replace dj := Bool.eq_false_iff.mpr dj
     subst dj
     rw [if_neg (show ¬ (false = true) by decide)] at H
     by_cases bZ : bQ = true
     ·subst bZ
      rw [if_pos rfl] at H
      simp only [Option.some.injEq, Prod.mk.injEq] at H
      obtain ⟨rfl, rfl⟩ := H
      obtain ⟨dk, dm, dn, dp, dq, dr, dt, dv, dw, dx⟩ := cells5 bd.out
      go_wp2
      go_ret2
      exact ⟨zer, zbl1 HB.out bj.out⟩
     ·replace bZ := Bool.eq_false_iff.mpr bZ
      subst bZ
      rw [if_neg (show ¬ (false = true) by decide)] at H
      by_cases dy : bY = true
      ·subst dy
       rw [if_pos rfl] at H
       simp only [Option.some.injEq, Prod.mk.injEq] at H
       obtain ⟨rfl, rfl⟩ := H
       obtain ⟨dz, dB, dC, dD, dF, dG, dH, dJ, dK, dL⟩ := cells5 bd.out
       go_wp2
       go_ret2
       exact ⟨zer, zbl1 HB.out bj.out⟩
      ·replace dy := Bool.eq_false_iff.mpr dy
       subst dy
       rw [if_neg (show ¬ (false = true) by decide)] at H
       replace H := Option.bind_eq_some_iff.mp H
       obtain ⟨cd, ch, H⟩ := H
       have gx := zam ch
       clear ch
       by_cases bT : cd = true
       ·subst bT
        rw [if_pos rfl] at H
        simp only [Option.some.injEq, Prod.mk.injEq] at H
        obtain ⟨rfl, rfl⟩ := H
        obtain ⟨dM, dN, dP, dQ, dR, dS, dT, dV, dW, dX⟩ := cells5 bd.out
        go_wp2_with (first | ((with_reducible refine gate_callee (f := 19) rfl ?_); refine goesL_ (some 30) rfl rfl Tryz.func19 (by kernel_rfl) rfl #[.string bg] rfl zar ?_; (with_reducible refine (spec_l1Within.calls kj4 bg true _ gx.out).mono ?_); rintro e gY ⟨rfl, hb⟩; refine ⟨_, rfl, ?_⟩; replace bd := zam (blk_below (g := bq) (o := .cells #[.string bg, .int .i64 bn, .bool bP, .bool false, .bool false] 38 (0, 0)) (zbk bd.out) hb); replace HB := zam (below_step (zbl1 HB.out bj.out) hb); (try clear hb); (try clear hb2); (try clear hk); (try clear hi); obtain ⟨dY, dZ, fb, fc, fd, ff, fg, fh, fj, fk⟩ := cells5 bd.out))
        go_ret2
        exact ⟨zer, zbl1 HB.out bj.out⟩
       ·replace bT := Bool.eq_false_iff.mpr bT
        subst bT
        rw [if_neg (show ¬ (false = true) by decide)] at H
        simp only [Option.some.injEq, Prod.mk.injEq] at H
        obtain ⟨rfl, rfl⟩ := H
        obtain ⟨fm, fn, fp, fq, fr, ft, fv, fw, fx, fy⟩ := cells5 bd.out
        go_wp2_with (first | ((with_reducible refine gate_callee (f := 19) rfl ?_); refine goesL_ (some 30) rfl rfl Tryz.func19 (by kernel_rfl) rfl #[.string bg] rfl zar ?_; (with_reducible refine (spec_l1Within.calls kj4 bg false _ gx.out).mono ?_); rintro e gZ ⟨rfl, hb⟩; refine ⟨_, rfl, ?_⟩; replace bd := zam (blk_below (g := bq) (o := .cells #[.string bg, .int .i64 bn, .bool bP, .bool false, .bool false] 38 (0, 0)) (zbk bd.out) hb); replace HB := zam (below_step (zbl1 HB.out bj.out) hb); (try clear hb); (try clear hb2); (try clear hk); (try clear hi)))
        go_ret2
        exact ⟨zer, zbl1 HB.out bj.out⟩
end
def impl_quoted.l0 : Nat → List Int → ByteArray → Int → Int → Option (List Int)
 | 0, _, _, _, _ => none
 | k + 1, x0, x1, fz, bx => if bx < fz then (if 0 ≤ bx then (if bx < (x1.size : Int) then ((strings_IndexByte.f (⟨#[34, 92, 8, 9, 10, 12, 13]⟩ : ByteArray) (bt x1 bx)).bind fun bf => (if bf ≥ 0 then (if 0 ≤ bf then (if bf < 7 then ((some (([92, bt (⟨#[34, 92, 98, 116, 110, 102, 114]⟩ : ByteArray) bf] : List Int) : List Int)).bind fun bz => (if x0.length + bz.length < 140737488355328 then (impl_quoted.l0 k (x0 ++ bz) x1 fz (wrap64 (bx + 1))) else (none))) else (none)) else (none)) else (if (bt x1 bx) < 32 then (if x0.length + 4 < 140737488355328 then ((some (x0 ++ bytesOf (⟨#[92, 117, 48, 48]⟩ : ByteArray) : List Int)).bind fun br => (if 0 ≤ ((bt x1 bx) / 16) then (if ((bt x1 bx) / 16) < 16 then (if 0 ≤ (Go.bits .and .u8 (bt x1 bx) 15) then (if (Go.bits .and .u8 (bt x1 bx) 15) < 16 then ((some (([bt (⟨#[48, 49, 50, 51, 52, 53, 54, 55, 56, 57, 97, 98, 99, 100, 101, 102]⟩ : ByteArray) ((bt x1 bx) / 16), bt (⟨#[48, 49, 50, 51, 52, 53, 54, 55, 56, 57, 97, 98, 99, 100, 101, 102]⟩ : ByteArray) (Go.bits .and .u8 (bt x1 bx) 15)] : List Int) : List Int)).bind fun bp => (if br.length + bp.length < 140737488355328 then (impl_quoted.l0 k (br ++ bp) x1 fz (wrap64 (bx + 1))) else (none))) else (none)) else (none)) else (none)) else (none))) else (none)) else (if x0.length < 140737488355328 then (impl_quoted.l0 k (x0 ++ [bt x1 bx]) x1 fz (wrap64 (bx + 1))) else (none))))) else (none)) else (none)) else (if x0.length < 140737488355328 then (some (x0 ++ [34])) else (none))
def impl_quoted.f (k : Nat) (l0 : List Int) (a1 : ByteArray) : Option (List Int) := if l0.length < 140737488355328 then (impl_quoted.l0 k (l0 ++ [34]) a1 (a1.size : Int) 0) else (none)
def impl_quoted.T11 : Bool × List (List Nat × List Nat) := (true, [([], []), ([], []), ([1], [1]), ([2], [2]), ([], []), ([4], [4]), ([5], [5]), ([3, 6], [3, 6]), ([0, 7], [0, 7]), ([8, 8, 0, 1, 2, 3, 4, 5, 6, 7, 8], [0, 8])])
def impl_quoted.B11 : List Nat := [0, 0, 2, 6, 0, 16, 48, 126, 255, 511]
theorem impl_quoted.tab11 : rtab .any (opsOf Tryz.f31 11) = impl_quoted.T11 := by kernel_rfl
theorem impl_quoted.bits11 : waitsOk impl_quoted.T11.2 impl_quoted.B11 = true := by kernel_rfl
set_option maxHeartbeats 8000000 in
set_option maxRecDepth 100000 in
theorem impl_quoted.calls (k : Nat) (P0_ : Nat → Prop) (u9000_ : Value) (l0 : List Int) (a1 : ByteArray) (r : List Int) (w0 w : World) (hB : Below w0.heap.size w0 w) (gN : Kd.R (Kd.int .u8) 5 w w0.heap.size P0_ u9000_ l0) (h : impl_quoted.f k l0 a1 = some r) :
  Calls Tryz.prog 31 #[u9000_, .string a1] w fun e w' => ∃ v0_ : Value, e = .returned (v0_) ∧ Kd.R (Kd.int .u8) 5 w' w0.heap.size (fun k_ => (P0_ k_ ∨ w.heap.size ≤ k_)) v0_ r ∧ Below w0.heap.size w0 w' ∧ Kept w w' (fun k_ => P0_ k_) := by
 have gd := zam (show Kd.R (Kd.int .u8) 5 w w0.heap.size (fun k_ => (P0_ k_ ∨ w.heap.size ≤ k_)) u9000_ l0 from Kd.R_mono gN (fun k_ hk => (.inl hk)))
 have HK := zam (Kept.refl w (fun k_ => P0_ k_))
 have HW0 := zam hB.size
 have HB := zam hB
 clear hB
 have H : (if l0.length < 140737488355328 then (impl_quoted.l0 k (l0 ++ [34]) a1 (a1.size : Int) 0) else (none)) = some r := h
 clear h
 by_cases c3 : l0.length < 140737488355328
 ·rw [if_pos c3] at H
  have gf := zam c3
  clear c3
  obtain ⟨gg, bD⟩ : ∃ y_ : List Int, y_ = (l0 ++ [34]) := ⟨_, rfl⟩
  first | rw [Option.bind_some, ← bD] at H | rw [← bD] at H
  have cj := zam bD
  clear bD
  have H' := zam H
  clear H
  go_enter Tryz.func31, Tryz.ntmps31
  go_wp2_with (first | ((with_reducible refine gate_builtin (b := .append) (xs := #[.tmp 8, .tmp 9]) rfl ?_); at_builtin; refine Kd.R_append (Kd.int .u8) (w0 := w0) w0.heap.size rfl (.tmp 8) (.tmp 9) 25 5 (.int .u8 0) 1 rfl Tryz.underlying25 info5 rfl (by decide) (by omega) u9000_ l0 34 [.int .u8 34] (fun k_ => (P0_ k_ ∨ w.heap.size ≤ k_)) (fun _ => False) rfl rfl ?aP (fun _ hk => hk.elim) ?aF ?aO ?aB ?aS ?aL ?_; (case aP => exact rfl); (case aB => exact (zbl HB.out)); (case aF => exact (fun k_ hk => (.inr (Nat.le_trans (by first | exact HK.out.1 | exact (show Kept w _ (fun k_ => P0_ k_) from by repeat (first | (with_reducible first | exact HK.out | apply Kept.alloc | apply Kept.drewN | apply Kept.drew) | exact HK.out)).1) hk)))); (case aO => exact (zkr gd.out)); (case aS => exact (below_size (zbl HB.out))); (case aL => have := gf.out; omega); intro v258 w4 ho hb hg hat; rw [← cj.out] at ho; have ck := zam (ho); replace HB := zam (hb); replace HK := zam (Kept.of_grown (S := (fun k_ => P0_ k_)) hg (by repeat (first | (with_reducible first | exact HK.out | apply Kept.alloc | apply Kept.drewN | apply Kept.drew) | exact HK.out)) (fun k_ e_ => (gd.out.1 k_ e_))); clear gd; clear ho hb hg hat))
  (try simp only [Act.put, List.setIfInBounds_toArray, List.set_cons_zero, List.set_cons_succ])
  go_loopg [0, 13] k (fun kq v0 v13 w' => ∃ (bh : List Int) (bb : Int), v13 = .int .i64 bb ∧ Aside0 (impl_quoted.l0 kq bh a1 (a1.size : Int) bb = some r) ∧ Aside0 (kq ≤ k) ∧ Aside0 (Kd.R (Kd.int .u8) 5 w' w0.heap.size (fun k_ => (P0_ k_ ∨ w.heap.size ≤ k_)) v0 bh) ∧ Aside0 (Kept w w' (fun k_ => P0_ k_)) ∧ Aside0 (Below w0.heap.size w0 w'))
  case atStart => exact ⟨(gg), (0), zrs, H', ⟨Nat.le_refl _⟩, ⟨zkr ck.out⟩, ⟨by repeat (first | (with_reducible first | exact HK.out | apply Kept.alloc | apply Kept.drewN | apply Kept.drew) | exact HK.out)⟩, ⟨zbl HB.out⟩⟩
  case round =>
   clear H'
   obtain ⟨bh, bb, rfl, HA, HK1, HO_0, HK, HB⟩ := hrel
   cases gk with
   | zero => exact absurd HA.out (by simp [impl_quoted.l0])
   | succ k1 =>
    have H := HA.out
    clear HA
    simp only [impl_quoted.l0] at H
    by_cases c5 : bb < (a1.size : Int)
    ·rw [if_pos c5] at H
     have gh := decide_eq_true c5
     clear c5
     by_cases c6 : 0 ≤ bb
     ·rw [if_pos c6] at H
      have gP := decide_eq_true c6
      clear c6
      by_cases c7 : bb < (a1.size : Int)
      ·rw [if_pos c7] at H
       have gQ := decide_eq_true c7
       clear c7
       replace H := Option.bind_eq_some_iff.mp H
       obtain ⟨bf, gy, H⟩ := H
       have A9 := zam gy
       clear gy
       by_cases cf : bf ≥ 0
       ·rw [if_pos cf] at H
        have cm := zge cf
        clear cf
        by_cases fB : 0 ≤ bf
        ·rw [if_pos fB] at H
         have gz := decide_eq_true fB
         clear fB
         by_cases fC : bf < 7
         ·rw [if_pos fC] at H
          have gB := decide_eq_true fC
          clear fC
          obtain ⟨bz, bF⟩ : ∃ y_ : List Int, y_ = (([92, bt (⟨#[34, 92, 98, 116, 110, 102, 114]⟩ : ByteArray) bf] : List Int)) := ⟨_, rfl⟩
          first | rw [Option.bind_some, ← bF] at H | rw [← bF] at H
          have cb := zam bF
          clear bF
          by_cases bZ : bh.length + bz.length < 140737488355328
          ·rw [if_pos bZ] at H
           have cn := zam bZ
           clear bZ
           obtain ⟨gj, bG⟩ : ∃ y_ : List Int, y_ = (bh ++ bz) := ⟨_, rfl⟩
           first | rw [Option.bind_some, ← bG] at H | rw [← bG] at H
           have cp := zam bG
           clear bG
           have H' := zam H
           clear H
           have p8 := zet (0 ≤ (bb : Int))
           have q8 := zet (bb < (a1.size : Int))
           have gC := bt_at a1 bb
           go_wp2_with (first | ((with_reducible refine gate_callee (f := 51) rfl ?_); refine goesL_ (some 20) rfl rfl Tryz.func51 (by kernel_rfl) rfl #[.string (⟨#[34, 92, 8, 9, 10, 12, 13]⟩ : ByteArray), .int .u8 (bt a1 bb)] rfl zar ?_; (with_reducible refine (strings_IndexByte.calls (⟨#[34, 92, 8, 9, 10, 12, 13]⟩ : ByteArray) (bt a1 bb) bf _ A9.out).mono ?_); rintro e w' ⟨rfl, ⟨nd, rfl⟩⟩; refine ⟨_, rfl, ?_⟩; have gD : 0 ≤ (bf : Int) := of_decide_eq_true zas; have gF : bf < (7 : Int) := of_decide_eq_true zas; have gR := bt_at (⟨#[34, 92, 98, 116, 110, 102, 114]⟩ : ByteArray) bf; replace gD := eq_true gD; replace gF := eq_true gF) | ((with_reducible refine gate_dst (N := 26) rfl ?_); refine Kd.R_lit (Kd.int .u8) _ 5 ?hg (N := 26) ?hd (xs := ([92, bt (⟨#[34, 92, 98, 116, 110, 102, 114]⟩ : ByteArray) bf] : List Int)) (inner := [.int .u8 92, .int .u8 (bt (⟨#[34, 92, 98, 116, 110, 102, 114]⟩ : ByteArray) bf)]) (ok := fun _ => True) (okp := fun _ => True) ?hr ?hp (fun _ hk => hk) trivial (Below.refl _ _) (Nat.le_refl _) (by simp) ?_; (case hd => rfl); (case hg => rfl); (case hr => first | (go_simp; done) | (go_simp; rfl)); (case hp => exact (Reps.one (show Kd.M (Kd.int .u8) _ _ _ 92 [.int .u8 92] from rfl) (Reps.one (show Kd.M (Kd.int .u8) _ _ _ (bt (⟨#[34, 92, 98, 116, 110, 102, 114]⟩ : ByteArray) bf) [.int .u8 (bt (⟨#[34, 92, 98, 116, 110, 102, 114]⟩ : ByteArray) bf)] from rfl) (Reps.none _ _)))); intro v265 hc bR hb hg_ hnew_; clear hg_ hnew_; (first | rw [← cb.out] at bR | (simp only [Int.reduceToNat] at bR; rw [← cb.out] at bR)); have bs := zam (Kd.R_lower (Kd.R_new' (Kd.R_newM (M := fun k_ => (P0_ k_ ∨ w.heap.size ≤ k_)) bR (by first | exact HK.out.1 | exact (show Kept w _ (fun k_ => P0_ k_) from by repeat (first | (with_reducible first | exact HK.out | apply Kept.alloc | apply Kept.drewN | apply Kept.drew) | exact HK.out)).1) (fun k_ h_ => .inr h_)) (Kd.R_lt (zkr HO_0.out))) (below_size (zbl HB.out))); replace HO_0 := zam (Kd.R_elder' (zkr HO_0.out) (Kd.R_base bR) hb); replace HK := zam (Kept.below (S := (fun k_ => P0_ k_)) (by repeat (first | (with_reducible first | exact HK.out | apply Kept.alloc | apply Kept.drewN | apply Kept.drew) | exact HK.out)) hb); replace HB := zam (below_step (zbl HB.out) hb); clear hb bR; obtain ⟨gm, gn, eo18⟩ := Kd.R_slice bs.out; subst eo18) | ((with_reducible refine gate_builtin (b := .append) (xs := #[.tmp 23, .tmp 26]) rfl ?_); at_builtin; refine Kd.R_append_rows (Kd.int .u8) (w0 := w0) w0.heap.size rfl (.tmp 23) (.tmp 26) 25 5 (.int .u8 0) 1 rfl Tryz.underlying25 info5 rfl (by decide) (by omega) u0 bh bz _ _ _ (fun k_ => (P0_ k_ ∨ w.heap.size ≤ k_) ∧ some k_ ≠ (.slice gm bz.length gn : Value).ownBlock) (fun _ => False) rfl rfl ?aO ?aR (fun _ _ h => h) (fun _ h => h.elim) ?aF ?aB ?aS ?aL ?_; (case aR => repeat (first | exact (Kd.R_reads' bs.out).2.2 | (with_reducible refine Kd.C_alloc ?_ _) | (with_reducible refine Kd.C_drewN ?_ _) | (with_reducible refine Kd.C_drew ?_))); (case aB => exact (zbl HB.out)); (case aF => exact (fun k_ hk => ⟨(.inr (Nat.le_trans (by first | exact HK.out.1 | exact (show Kept w _ (fun k_ => P0_ k_) from by repeat (first | (with_reducible first | exact HK.out | apply Kept.alloc | apply Kept.drewN | apply Kept.drew) | exact HK.out)).1) hk)), Kd.fresh' (Kd.R_lt (zkr bs.out)) k_ hk⟩)); (case aO => exact (zkr HO_0.out)); (case aS => exact (below_size (zbl HB.out))); (case aL => have := cn.out; omega); intro v268 hf ho hb hg hat; rw [← cp.out] at ho; have cq := zam (ho); replace bs := zam (Kd.R_after (ok := (fun k_ => (P0_ k_ ∨ w.heap.size ≤ k_))) (by refine zkr ?_; exact Kd.R_mono bs.out (fun _ hk => ⟨hk.1.1, hk.2⟩)) hg hat); replace HB := zam (hb); replace HK := zam (Kept.of_grown (S := (fun k_ => P0_ k_)) hg (by repeat (first | (with_reducible first | exact HK.out | apply Kept.alloc | apply Kept.drewN | apply Kept.drew) | exact HK.out)) (fun k_ e_ => (HO_0.out.1 k_ e_).1)); clear HO_0; clear ho hb hg hat))
           go_roundg k1
           case measure => have := HK1.out; omega
           case rel => exact ⟨(gj), (wrap64 (bb + 1)), zrs, H', ⟨zlo HK1.out⟩, ⟨by refine zkr ?_; exact Kd.R_mono cq.out (fun _ hk => hk.1)⟩, ⟨by repeat (first | (with_reducible first | exact HK.out | apply Kept.alloc | apply Kept.drewN | apply Kept.drew) | exact HK.out)⟩, ⟨zbl HB.out⟩⟩
          ·rw [if_neg bZ] at H
           exact absurd H (by simp)
         ·rw [if_neg fC] at H
          exact absurd H (by simp)
        ·rw [if_neg fB] at H
         exact absurd H (by simp)
       ·rw [if_neg cf] at H
        have cm := zge' cf
        clear cf
        by_cases bT : (bt a1 bb) < 32
        ·rw [if_pos bT] at H
         have cr := decide_eq_true bT
         clear bT
         by_cases fD : bh.length + 4 < 140737488355328
         ·rw [if_pos fD] at H
          have ct := zam fD
          clear fD
          obtain ⟨br, bH⟩ : ∃ y_ : List Int, y_ = (bh ++ bytesOf (⟨#[92, 117, 48, 48]⟩ : ByteArray)) := ⟨_, rfl⟩
          first | rw [Option.bind_some, ← bH] at H | rw [← bH] at H
          have cv := zam bH
          clear bH
          obtain ⟨bm, bV⟩ : ∃ j_ : Int, ((bt a1 bb) / 16) = j_ := ⟨_, rfl⟩
          replace H : (if 0 ≤ (bm) then (if (bm) < 16 then (if 0 ≤ (Go.bits .and .u8 (bt a1 bb) 15) then (if (Go.bits .and .u8 (bt a1 bb) 15) < 16 then ((some (([bt (⟨#[48, 49, 50, 51, 52, 53, 54, 55, 56, 57, 97, 98, 99, 100, 101, 102]⟩ : ByteArray) (bm), bt (⟨#[48, 49, 50, 51, 52, 53, 54, 55, 56, 57, 97, 98, 99, 100, 101, 102]⟩ : ByteArray) (Go.bits .and .u8 (bt a1 bb) 15)] : List Int) : List Int)).bind fun bp => (if br.length + bp.length < 140737488355328 then (impl_quoted.l0 k1 (br ++ bp) a1 (a1.size : Int) (wrap64 (bb + 1))) else (none))) else (none)) else (none)) else (none)) else (none)) = some r := by first | (rw [bV] at H; exact H) | (simp only [bV] at H ⊢; exact H)
          (try rw [bV] at A9)
          by_cases fF : 0 ≤ (bm)
          ·rw [if_pos fF] at H
           have gG := decide_eq_true fF
           clear fF
           by_cases fG : (bm) < 16
           ·rw [if_pos fG] at H
            have gH := decide_eq_true fG
            clear fG
            by_cases fH : 0 ≤ (Go.bits .and .u8 (bt a1 bb) 15)
            ·rw [if_pos fH] at H
             have gJ := decide_eq_true fH
             clear fH
             by_cases fJ : (Go.bits .and .u8 (bt a1 bb) 15) < 16
             ·rw [if_pos fJ] at H
              have gK := decide_eq_true fJ
              clear fJ
              obtain ⟨bp, bJ⟩ : ∃ y_ : List Int, y_ = (([bt (⟨#[48, 49, 50, 51, 52, 53, 54, 55, 56, 57, 97, 98, 99, 100, 101, 102]⟩ : ByteArray) (bm), bt (⟨#[48, 49, 50, 51, 52, 53, 54, 55, 56, 57, 97, 98, 99, 100, 101, 102]⟩ : ByteArray) (Go.bits .and .u8 (bt a1 bb) 15)] : List Int)) := ⟨_, rfl⟩
              first | rw [Option.bind_some, ← bJ] at H | rw [← bJ] at H
              have cc := zam bJ
              clear bJ
              by_cases fK : br.length + bp.length < 140737488355328
              ·rw [if_pos fK] at H
               have cw := zam fK
               clear fK
               obtain ⟨gp, bK⟩ : ∃ y_ : List Int, y_ = (br ++ bp) := ⟨_, rfl⟩
               first | rw [Option.bind_some, ← bK] at H | rw [← bK] at H
               have cx := zam bK
               clear bK
               have H' := zam H
               clear H
               have p8 := zet (0 ≤ (bb : Int))
               have q8 := zet (bb < (a1.size : Int))
               have gC := bt_at a1 bb
               try go_wp2_with (first | ((with_reducible refine gate_callee (f := 51) rfl ?_); refine goesL_ (some 20) rfl rfl Tryz.func51 (by kernel_rfl) rfl #[.string (⟨#[34, 92, 8, 9, 10, 12, 13]⟩ : ByteArray), .int .u8 (bt a1 bb)] rfl zar ?_; (with_reducible refine (strings_IndexByte.calls (⟨#[34, 92, 8, 9, 10, 12, 13]⟩ : ByteArray) (bt a1 bb) bf _ A9.out).mono ?_); rintro e w' ⟨rfl, ⟨nd, rfl⟩⟩; refine ⟨_, rfl, ?_⟩) | (at_builtin; refine append_str_ok (w0 := w0) w0.heap.size rfl (.tmp 30) _ 25 9 5 rfl Tryz.underlying25 Tryz.underlying9 info5 u0 bh (⟨#[92, 117, 48, 48]⟩ : ByteArray) (fun k_ => (P0_ k_ ∨ w.heap.size ≤ k_)) rfl rfl ?aF ?aO ?aB ?aS ?aL ?_; (case aB => exact (zbl HB.out)); (case aF => exact (fun k_ hk => (.inr (Nat.le_trans (by first | exact HK.out.1 | exact (show Kept w _ (fun k_ => P0_ k_) from by repeat (first | (with_reducible first | exact HK.out | apply Kept.alloc | apply Kept.drewN | apply Kept.drew) | exact HK.out)).1) hk)))); (case aO => exact (zkr HO_0.out)); (case aS => exact (below_size (zbl HB.out))); (case aL => have := ct.out; first | omega | (simp [ByteArray.size]; omega)); intro v271 gS ho hb hg hat; rw [← cv.out] at ho; have bk := zam (ho); replace HB := zam (hb); replace HK := zam (Kept.of_grown (S := (fun k_ => P0_ k_)) hg (by repeat (first | (with_reducible first | exact HK.out | apply Kept.alloc | apply Kept.drewN | apply Kept.drew) | exact HK.out)) (fun k_ e_ => (HO_0.out.1 k_ e_))); clear HO_0; clear ho hb hg hat))
               replace bk := zam (Kd.R_drew bk.out); replace HK := zam (Kept.drew HK.out); replace HB := zam (below_drew1 HB.out)
               have hh := zet (0 ≤ ((bm) : Int))
               have hj := zet ((bm) < (16 : Int))
               have gT := bt_at (⟨#[48, 49, 50, 51, 52, 53, 54, 55, 56, 57, 97, 98, 99, 100, 101, 102]⟩ : ByteArray) (bm)
               have hm := zet (0 ≤ ((Go.bits .and .u8 (bt a1 bb) 15) : Int))
               have hn := zet ((Go.bits .and .u8 (bt a1 bb) 15) < (16 : Int))
               have gV := bt_at (⟨#[48, 49, 50, 51, 52, 53, 54, 55, 56, 57, 97, 98, 99, 100, 101, 102]⟩ : ByteArray) (Go.bits .and .u8 (bt a1 bb) 15)
               refine start_ (n := 10) (S := fun w' => True) (ds := []) #[false, false, false, false, false, false, false, false, false, false] (by kernel_rfl) rfl rfl trivial (fun hHeld => ?_); refine with_tabW impl_quoted.tab11 impl_quoted.bits11 (fun HT_ HW_ => ?_)
               generalize gS.drew = hq at bk HK HB hHeld ⊢
               refine zpv (i := 0) (N := some 32) HT_.out (zb 10 1) rfl rfl ?_
               refine zpv (i := 1) (N := some 33) HT_.out (zb 10 3) rfl rfl ?_
               refine zpv (i := 2) (N := some 34) HT_.out (zb 10 7) rfl rfl ?_
               refine zpv (i := 4) (N := some 36) HT_.out (zb 10 23) rfl rfl ?_
               refine zpv (i := 5) (N := some 37) HT_.out (zb 10 55) rfl rfl ?_
               refine take_ (i := 3) (N := some 35) (v := ?_) (a' := ?_) (zb 10 63) rfl rfl (take_ofW HT_.out HW_.out (by kernel_rfl)) (fun _ _ _ h => h) (Or.inl ⟨by rfl, ?_⟩) hHeld ?_ ?_
               rotate_left
               ·intro w' _
                go_simp
                with_reducible rfl
               rotate_left
               ·simp only [Act.put, List.setIfInBounds_toArray, List.set_cons_zero, List.set_cons_succ, i64_w, i32_w, IntKind.wrap_u8, IntKind.wrap_u32]
                rfl
               refine take_ (i := 6) (N := some 38) (v := ?_) (a' := ?_) (zb 10 127) rfl rfl (take_ofW HT_.out HW_.out (by kernel_rfl)) (fun _ _ _ h => h) (Or.inl ⟨by rfl, ?_⟩) hHeld ?_ ?_
               rotate_left
               ·intro w' _
                go_simp
                with_reducible rfl
               rotate_left
               ·simp only [Act.put, List.setIfInBounds_toArray, List.set_cons_zero, List.set_cons_succ, i64_w, i32_w, IntKind.wrap_u8, IntKind.wrap_u32]
                rfl
               refine one_ (i := 7) (N := some 39) (zb 10 255) rfl rfl (one_of HT_.out (by kernel_rfl)) (by decide) (fun K hK => ?_)
               refine Kd.R_lit_step (Kd.int .u8) _ 5 ?hg (N := 39) ?hd (xs := ([bt (⟨#[48, 49, 50, 51, 52, 53, 54, 55, 56, 57, 97, 98, 99, 100, 101, 102]⟩ : ByteArray) (bm), bt (⟨#[48, 49, 50, 51, 52, 53, 54, 55, 56, 57, 97, 98, 99, 100, 101, 102]⟩ : ByteArray) (Go.bits .and .u8 (bt a1 bb) 15)] : List Int)) (inner := [.int .u8 (bt (⟨#[48, 49, 50, 51, 52, 53, 54, 55, 56, 57, 97, 98, 99, 100, 101, 102]⟩ : ByteArray) (bm)), .int .u8 (bt (⟨#[48, 49, 50, 51, 52, 53, 54, 55, 56, 57, 97, 98, 99, 100, 101, 102]⟩ : ByteArray) (Go.bits .and .u8 (bt a1 bb) 15))]) (ok := fun _ => True) (okp := fun _ => True) ?hr ?hp (fun _ hk => hk) trivial (Below.refl _ _) (Nat.le_refl _) (by simp) ?_; (case hd => rfl); (case hg => rfl); (case hr => first | (go_simp; done) | (go_simp; rfl)); (case hp => exact (Reps.one (show Kd.M (Kd.int .u8) _ _ _ (bt (⟨#[48, 49, 50, 51, 52, 53, 54, 55, 56, 57, 97, 98, 99, 100, 101, 102]⟩ : ByteArray) (bm)) [.int .u8 (bt (⟨#[48, 49, 50, 51, 52, 53, 54, 55, 56, 57, 97, 98, 99, 100, 101, 102]⟩ : ByteArray) (bm))] from rfl) (Reps.one (show Kd.M (Kd.int .u8) _ _ _ (bt (⟨#[48, 49, 50, 51, 52, 53, 54, 55, 56, 57, 97, 98, 99, 100, 101, 102]⟩ : ByteArray) (Go.bits .and .u8 (bt a1 bb) 15)) [.int .u8 (bt (⟨#[48, 49, 50, 51, 52, 53, 54, 55, 56, 57, 97, 98, 99, 100, 101, 102]⟩ : ByteArray) (Go.bits .and .u8 (bt a1 bb) 15))] from rfl) (Reps.none _ _))))
               intro v274 hs bS hb hg_ hnew_
               clear hg_ hnew_
               (first | rw [← cc.out] at bS | (simp only [Int.reduceToNat] at bS; rw [← cc.out] at bS))
               have bv := zam (Kd.R_lower (Kd.R_new' (Kd.R_newM (M := fun k_ => (P0_ k_ ∨ w.heap.size ≤ k_)) bS (by first | exact HK.out.1 | exact (show Kept w _ (fun k_ => P0_ k_) from by repeat (first | (with_reducible first | exact HK.out | apply Kept.alloc | apply Kept.drewN | apply Kept.drew) | exact HK.out)).1) (fun k_ h_ => .inr h_)) (Kd.R_lt (zkr bk.out))) (below_size (zbl HB.out))); replace bk := zam (Kd.R_elder' (zkr bk.out) (Kd.R_base bS) hb); replace HK := zam (Kept.below (S := (fun k_ => P0_ k_)) (by repeat (first | (with_reducible first | exact HK.out | apply Kept.alloc | apply Kept.drewN | apply Kept.drew) | exact HK.out)) hb); replace HB := zam (below_step (zbl HB.out) hb)
               clear hb bS
               obtain ⟨gq, gr, eo34⟩ := Kd.R_slice bv.out
               (first | subst eo34 | (injection eo34 with f1_ f2_ f3_; have f4_ := f1_.symm; have f5_ := f3_.symm; clear f1_ f2_ f3_; subst f4_; subst f5_))
               refine hK.out _ _ trivial (fun hHeld => ?_)
               clear hK K
               refine norm_ (a' := ?_) ?_ ?_
               rotate_left
               ·show Act.put _ (some 39) _ = _
                simp only [Act.put, List.setIfInBounds_toArray, List.set_cons_zero, List.set_cons_succ, i64_w, i32_w, IntKind.wrap_u8, IntKind.wrap_u32]
                rfl
               refine one_ (i := 8) (N := some 40) (zb 10 511) rfl rfl (one_of HT_.out (by kernel_rfl)) (by decide) (fun K hK => ?_)
               refine Kd.R_append_rows_step (Kd.int .u8) (w0 := w0) w0.heap.size (by rfl) (.tmp 32) (.tmp 39) 25 5 (.int .u8 0) 1 rfl Tryz.underlying25 info5 rfl (by decide) (by omega) v271 br bp _ _ _ (fun k_ => (P0_ k_ ∨ w.heap.size ≤ k_) ∧ some k_ ≠ (.slice gq bp.length gr : Value).ownBlock) (fun _ => False) rfl rfl ?aO ?aR (fun _ _ h => h) (fun _ h => h.elim) ?aF ?aB ?aS ?aL ?_
               (case aR => repeat (first | exact (Kd.R_reads' bv.out).2.2 | (with_reducible refine Kd.C_alloc ?_ _) | (with_reducible refine Kd.C_drewN ?_ _) | (with_reducible refine Kd.C_drew ?_)))
               (case aB => exact (zbl HB.out))
               (case aF => exact (fun k_ hk => ⟨(.inr (Nat.le_trans (by first | exact HK.out.1 | exact (show Kept w _ (fun k_ => P0_ k_) from by repeat (first | (with_reducible first | exact HK.out | apply Kept.alloc | apply Kept.drewN | apply Kept.drew) | exact HK.out)).1) hk)), Kd.fresh' (Kd.R_lt (zkr bv.out)) k_ hk⟩))
               (case aO => exact (zkr bk.out))
               (case aS => exact (below_size (zbl HB.out)))
               (case aL => have := cw.out; omega)
               intro v277 ht ho hb hg hat
               rw [← cx.out] at ho
               have cy := zam (ho); replace bv := zam (Kd.R_after (ok := (fun k_ => (P0_ k_ ∨ w.heap.size ≤ k_))) (by refine zkr ?_; exact Kd.R_mono bv.out (fun _ hk => ⟨hk.1.1, hk.2⟩)) hg hat); replace HB := zam (hb); replace HK := zam (Kept.of_grown (S := (fun k_ => P0_ k_)) hg (by repeat (first | (with_reducible first | exact HK.out | apply Kept.alloc | apply Kept.drewN | apply Kept.drew) | exact HK.out)) (fun k_ e_ => (bk.out.1 k_ e_).1)); clear bk
               clear ho hb hg hat
               refine hK.out _ _ trivial (fun hHeld => ?_)
               clear hK K
               refine norm_ (a' := ?_) ?_ ?_
               rotate_left
               ·show Act.put _ (some 40) _ = _
                simp only [Act.put, List.setIfInBounds_toArray, List.set_cons_zero, List.set_cons_succ, i64_w, i32_w, IntKind.wrap_u8, IntKind.wrap_u32]
                rfl
               refine zpv (i := 9) (N := some 0) HT_.out (zb 10 1023) rfl rfl ?_
               refine done_ (done_of HT_.out (by kernel_rfl)) ?_
               try go_wp2
               go_roundg k1
               case measure => have := HK1.out; omega
               case rel => exact ⟨(gp), (wrap64 (bb + 1)), zrs, H', ⟨zlo HK1.out⟩, ⟨by refine zkr ?_; exact Kd.R_mono cy.out (fun _ hk => hk.1)⟩, ⟨by repeat (first | (with_reducible first | exact HK.out | apply Kept.alloc | apply Kept.drewN | apply Kept.drew) | exact HK.out)⟩, ⟨zbl HB.out⟩⟩
              ·rw [if_neg fK] at H
               exact absurd H (by simp)
             ·rw [if_neg fJ] at H
              exact absurd H (by simp)
            ·rw [if_neg fH] at H
             exact absurd H (by simp)
           ·rw [if_neg fG] at H
            exact absurd H (by simp)
          ·rw [if_neg fF] at H
           exact absurd H (by simp)
         ·rw [if_neg fD] at H
          exact absurd H (by simp)
        ·rw [if_neg bT] at H
         have cr := decide_eq_false bT
         clear bT
         by_cases fL : bh.length < 140737488355328
         ·rw [if_pos fL] at H
          have cz := zam fL
          clear fL
          obtain ⟨gs, bL⟩ : ∃ y_ : List Int, y_ = (bh ++ [bt a1 bb]) := ⟨_, rfl⟩
          first | rw [Option.bind_some, ← bL] at H | rw [← bL] at H
          have cB := zam bL
          clear bL
          have H' := zam H
          clear H
          have p8 := zet (0 ≤ (bb : Int))
          have q8 := zet (bb < (a1.size : Int))
          have gC := bt_at a1 bb
          go_wp2_with (first | ((with_reducible refine gate_callee (f := 51) rfl ?_); refine goesL_ (some 20) rfl rfl Tryz.func51 (by kernel_rfl) rfl #[.string (⟨#[34, 92, 8, 9, 10, 12, 13]⟩ : ByteArray), .int .u8 (bt a1 bb)] rfl zar ?_; (with_reducible refine (strings_IndexByte.calls (⟨#[34, 92, 8, 9, 10, 12, 13]⟩ : ByteArray) (bt a1 bb) bf _ A9.out).mono ?_); rintro e w' ⟨rfl, ⟨nd, rfl⟩⟩; refine ⟨_, rfl, ?_⟩) | ((with_reducible refine gate_builtin (b := .append) (xs := #[.tmp 41, .tmp 43]) rfl ?_); at_builtin; refine Kd.R_append (Kd.int .u8) (w0 := w0) w0.heap.size rfl (.tmp 41) (.tmp 43) 25 5 (.int .u8 0) 1 rfl Tryz.underlying25 info5 rfl (by decide) (by omega) u0 bh (bt a1 bb) [.int .u8 (bt a1 bb)] (fun k_ => (P0_ k_ ∨ w.heap.size ≤ k_)) (fun _ => False) rfl rfl ?aP (fun _ hk => hk.elim) ?aF ?aO ?aB ?aS ?aL ?_; (case aP => exact rfl); (case aB => exact (zbl HB.out)); (case aF => exact (fun k_ hk => (.inr (Nat.le_trans (by first | exact HK.out.1 | exact (show Kept w _ (fun k_ => P0_ k_) from by repeat (first | (with_reducible first | exact HK.out | apply Kept.alloc | apply Kept.drewN | apply Kept.drew) | exact HK.out)).1) hk)))); (case aO => exact (zkr HO_0.out)); (case aS => exact (below_size (zbl HB.out))); (case aL => have := cz.out; omega); intro v280 hv ho hb hg hat; rw [← cB.out] at ho; have cC := zam (ho); replace HB := zam (hb); replace HK := zam (Kept.of_grown (S := (fun k_ => P0_ k_)) hg (by repeat (first | (with_reducible first | exact HK.out | apply Kept.alloc | apply Kept.drewN | apply Kept.drew) | exact HK.out)) (fun k_ e_ => (HO_0.out.1 k_ e_))); clear HO_0; clear ho hb hg hat))
          go_roundg k1
          case measure => have := HK1.out; omega
          case rel => exact ⟨(gs), (wrap64 (bb + 1)), zrs, H', ⟨zlo HK1.out⟩, ⟨zkr cC.out⟩, ⟨by repeat (first | (with_reducible first | exact HK.out | apply Kept.alloc | apply Kept.drewN | apply Kept.drew) | exact HK.out)⟩, ⟨zbl HB.out⟩⟩
         ·rw [if_neg fL] at H
          exact absurd H (by simp)
      ·rw [if_neg c7] at H
       exact absurd H (by simp)
     ·rw [if_neg c6] at H
      exact absurd H (by simp)
    ·rw [if_neg c5] at H
     have gh := decide_eq_false c5
     clear c5
     by_cases fM : bh.length < 140737488355328
     ·rw [if_pos fM] at H
      have cD := zam fM
      clear fM
      obtain ⟨gW, bM⟩ : ∃ y_ : List Int, y_ = (bh ++ [34]) := ⟨_, rfl⟩
      first | rw [Option.bind_some, ← bM] at H | rw [← bM] at H
      have cF := zam bM
      clear bM
      obtain rfl := Option.some.inj H
      go_wp2_with (first | ((with_reducible refine gate_builtin (b := .append) (xs := #[.tmp 46, .tmp 47]) rfl ?_); at_builtin; refine Kd.R_append (Kd.int .u8) (w0 := w0) w0.heap.size rfl (.tmp 46) (.tmp 47) 25 5 (.int .u8 0) 1 rfl Tryz.underlying25 info5 rfl (by decide) (by omega) u0 bh 34 [.int .u8 34] (fun k_ => (P0_ k_ ∨ w.heap.size ≤ k_)) (fun _ => False) rfl rfl ?aP (fun _ hk => hk.elim) ?aF ?aO ?aB ?aS ?aL ?_; (case aP => exact rfl); (case aB => exact (zbl HB.out)); (case aF => exact (fun k_ hk => (.inr (Nat.le_trans (by first | exact HK.out.1 | exact (show Kept w _ (fun k_ => P0_ k_) from by repeat (first | (with_reducible first | exact HK.out | apply Kept.alloc | apply Kept.drewN | apply Kept.drew) | exact HK.out)).1) hk)))); (case aO => exact (zkr HO_0.out)); (case aS => exact (below_size (zbl HB.out))); (case aL => have := cD.out; omega); intro v261 hw ho hb hg hat; rw [← cF.out] at ho; have cG := zam (ho); replace HB := zam (hb); replace HK := zam (Kept.of_grown (S := (fun k_ => P0_ k_)) hg (by repeat (first | (with_reducible first | exact HK.out | apply Kept.alloc | apply Kept.drewN | apply Kept.drew) | exact HK.out)) (fun k_ e_ => (HO_0.out.1 k_ e_))); clear HO_0; clear ho hb hg hat))
      go_ret
      exact ⟨_, zer, by refine zkr ?_; exact cG.out, zbl HB.out, by repeat (first | (with_reducible first | exact HK.out | apply Kept.alloc | apply Kept.drewN | apply Kept.drew) | exact HK.out)⟩
     ·rw [if_neg fM] at H
      exact absurd H (by simp)
 ·rw [if_neg c3] at H
  exact absurd H (by simp)
end Go.Proofs.YtbonodglnilkfaaGreatDoor.PJt
