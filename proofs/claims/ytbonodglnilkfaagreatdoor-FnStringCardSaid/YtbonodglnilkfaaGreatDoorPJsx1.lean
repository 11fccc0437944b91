-- Written by a turned copy of the kit print (wip/patch_print.py of this repo), this session
import Derived.Test.YtbonodglnilkfaaGreatDoorOwn
namespace Go.Proofs.YtbonodglnilkfaaGreatDoor.PJs
open Go.RowKit Go.Proofs.YtbonodglnilkfaaGreatDoorW.PrintWords Go.Proofs.YtbonodglnilkfaaGreatDoorW.PrintLast Go.Proofs.YtbonodglnilkfaaGreatDoorW.PrintMore
attribute [local go_sem] max2_int min2_int max_two min_two max_three min_three max_four min_four   -- for this text's walks alone
set_option linter.unusedVariables false
set_option linter.unusedSimpArgs false
mutual
def spec_l1Quoted.l0 : Nat → ByteArray → ByteArray → List Int → Int → Option (ByteArray)
 | 0, _, _, _, _ => none
 | k + 1, x0, x3, x4, x5 => if x5 < (x0.size : Int) then (if 0 ≤ x5 then (if (bt x0 x5) = 34 then (spec_l1Quoted.j1 k x0 x3 x4 x5 (bt x0 x5) true) else (spec_l1Quoted.j1 k x0 x3 x4 x5 (bt x0 x5) ((bt x0 x5) == 92))) else (none)) else (if x4.length < 140737488355328 then (some (strOfNums (x4 ++ [34]))) else (none))
def spec_l1Quoted.j1 : Nat → ByteArray → ByteArray → List Int → Int → Int → Bool → Option (ByteArray)
 | 0, _, _, _, _, _, _ => none
 | k + 1, x0, x3, x4, x5, x6, gg => if gg = true then ((some (([92, x6] : List Int) : List Int)).bind fun bK => (if x4.length + bK.length < 140737488355328 then (spec_l1Quoted.l0 k x0 x3 (x4 ++ bK) (wrap64 (x5 + 1))) else (none))) else (if x6 = 8 then ((some (([92, 98] : List Int) : List Int)).bind fun bj => (if x4.length + bj.length < 140737488355328 then (spec_l1Quoted.l0 k x0 x3 (x4 ++ bj) (wrap64 (x5 + 1))) else (none))) else (if x6 = 9 then ((some (([92, 116] : List Int) : List Int)).bind fun bk => (if x4.length + bk.length < 140737488355328 then (spec_l1Quoted.l0 k x0 x3 (x4 ++ bk) (wrap64 (x5 + 1))) else (none))) else (if x6 = 10 then ((some (([92, 110] : List Int) : List Int)).bind fun bm => (if x4.length + bm.length < 140737488355328 then (spec_l1Quoted.l0 k x0 x3 (x4 ++ bm) (wrap64 (x5 + 1))) else (none))) else (if x6 = 12 then ((some (([92, 102] : List Int) : List Int)).bind fun bn => (if x4.length + bn.length < 140737488355328 then (spec_l1Quoted.l0 k x0 x3 (x4 ++ bn) (wrap64 (x5 + 1))) else (none))) else (if x6 = 13 then ((some (([92, 114] : List Int) : List Int)).bind fun bp => (if x4.length + bp.length < 140737488355328 then (spec_l1Quoted.l0 k x0 x3 (x4 ++ bp) (wrap64 (x5 + 1))) else (none))) else (if x6 < 32 then (if 0 ≤ ((Int.tdiv x6 16) % 256) then (if ((Int.tdiv x6 16) % 256) < (x3.size : Int) then (if 0 ≤ (Int.tmod x6 16) then (if (Int.tmod x6 16) < (x3.size : Int) then ((some (([92, 117, 48, 48, bt x3 ((Int.tdiv x6 16) % 256), bt x3 (Int.tmod x6 16)] : List Int) : List Int)).bind fun bf => (if x4.length + bf.length < 140737488355328 then (spec_l1Quoted.l0 k x0 x3 (x4 ++ bf) (wrap64 (x5 + 1))) else (none))) else (none)) else (none)) else (none)) else (none)) else (if x4.length < 140737488355328 then (spec_l1Quoted.l0 k x0 x3 (x4 ++ [x6]) (wrap64 (x5 + 1))) else (none))))))))
end
def spec_l1Quoted.f (k : Nat) (a0 : ByteArray) : Option (ByteArray) := spec_l1Quoted.l0 k a0 (⟨#[48, 49, 50, 51, 52, 53, 54, 55, 56, 57, 97, 98, 99, 100, 101, 102]⟩ : ByteArray) (([34] : List Int)) 0
def spec_l1Quoted.T20 : Bool × List (List Nat × List Nat) := (true, [([], []), ([], []), ([], []), ([2], [2]), ([1, 3], [1, 3]), ([], []), ([], []), ([6], [6]), ([5, 7], [5, 7]), ([4, 8], [4, 8]), ([0, 9], [0, 9]), ([10, 10, 0, 1, 2, 3, 4, 5, 6, 7, 8, 9, 10], [0, 10])])
def spec_l1Quoted.B20 : List Nat := [0, 0, 0, 4, 14, 0, 0, 64, 224, 510, 1023, 2047]
theorem spec_l1Quoted.tab20 : rtab .any (opsOf Tryz.f29 20) = spec_l1Quoted.T20 := by kernel_rfl
theorem spec_l1Quoted.bits20 : waitsOk spec_l1Quoted.T20.2 spec_l1Quoted.B20 = true := by kernel_rfl
set_option maxHeartbeats 8000000 in
set_option maxRecDepth 100000 in
theorem spec_l1Quoted.calls (k : Nat) (a0 : ByteArray) (r : ByteArray) (w : World) (h : spec_l1Quoted.f k a0 = some r) :
  Calls Tryz.prog 29 #[.string a0] w fun e w' => e = .returned (.string r) ∧ Below w.heap.size w w' := by
 have HB := zam (Below.refl w.heap.size w)
 have H : (spec_l1Quoted.l0 k a0 (⟨#[48, 49, 50, 51, 52, 53, 54, 55, 56, 57, 97, 98, 99, 100, 101, 102]⟩ : ByteArray) (([34] : List Int)) 0) = some r := h
 clear h
 obtain ⟨cS, bq⟩ : ∃ y_ : List Int, y_ = (([34] : List Int)) := ⟨_, rfl⟩
 replace H : (spec_l1Quoted.l0 k a0 (⟨#[48, 49, 50, 51, 52, 53, 54, 55, 56, 57, 97, 98, 99, 100, 101, 102]⟩ : ByteArray) cS 0) = some r := by first | (rw [bq]; with_reducible exact H) | (have H2_ := (Option.bind_some _ _).symm.trans H; rw [bq]; with_reducible exact H2_) | (have H2_ := (Option.bind_some _ _).symm.trans H; with_reducible exact H2_) | with_reducible exact H | (rw [bq]; exact H) | exact H
 have cr := zam bq
 clear bq
 have H' := zam H
 clear H
 go_enter Tryz.func29, Tryz.ntmps29
 go_wp2_with (first | ((with_reducible refine gate_dst (N := 7) rfl ?_); refine Kd.R_lit (Kd.int .u8) _ 5 ?hg (N := 7) ?hd (xs := ([34] : List Int)) (inner := [.int .u8 34]) (ok := fun _ => True) (okp := fun _ => True) ?hr ?hp (fun _ hk => hk) trivial (Below.refl _ _) (Nat.le_refl _) (by simp) ?_; (case hd => rfl); (case hg => rfl); (case hr => first | (go_simp; done) | (go_simp; rfl)); (case hp => exact (Reps.one (show Kd.M (Kd.int .u8) _ _ _ 34 [.int .u8 34] from rfl) (Reps.none _ _))); intro v102 w2 cT hb hg_ hnew_; clear hg_ hnew_; (first | rw [← cr.out] at cT | (simp only [Int.reduceToNat] at cT; rw [← cr.out] at cT)); have cV := zam (Kd.R_lower cT (below_size (zbl HB.out))); replace HB := zam (below_step (zbl HB.out) hb); clear hb cT))
 go_loopg [4, 5] k (fun kq v4 v5 w' => ∃ (bb : List Int) (bc : Int), v5 = .int .i64 bc ∧ Aside0 (spec_l1Quoted.l0 kq a0 (⟨#[48, 49, 50, 51, 52, 53, 54, 55, 56, 57, 97, 98, 99, 100, 101, 102]⟩ : ByteArray) bb bc = some r) ∧ Aside0 (kq ≤ k) ∧ Aside0 (Kd.R (Kd.int .u8) 5 w' w.heap.size (fun _ => True) v4 bb) ∧ Aside0 (Below w.heap.size w w'))
 case atStart => exact ⟨(cS), (0), zrs, H', ⟨Nat.le_refl _⟩, ⟨zkr cV.out⟩, ⟨zbl HB.out⟩⟩
 case round =>
  clear H'
  obtain ⟨bb, bc, rfl, HA, HK1, HO_4, HB⟩ := hrel
  cases gk with
  | zero => exact absurd HA.out (by simp [spec_l1Quoted.l0])
  | succ k1 =>
   have H := HA.out
   clear HA
   simp only [spec_l1Quoted.l0] at H
   by_cases c4 : bc < (a0.size : Int)
   ·rw [if_pos c4] at H
    have cK := decide_eq_true c4
    clear c4
    by_cases c5 : 0 ≤ bc
    ·rw [if_pos c5] at H
     have ft := decide_eq_true c5
     clear c5
     have fv := zam H
     clear H
     have p6 := zet (0 ≤ (bc : Int))
     have q6 := zet (bc < (a0.size : Int))
     have gh := bt_at a0 bc
     go_upto_region 7 with (fail)
     go_cut [22] (fun v22 wc => ∃ (kq : Nat) (bL : Bool), v22 = .bool bL ∧ Aside0 (spec_l1Quoted.j1 kq a0 (⟨#[48, 49, 50, 51, 52, 53, 54, 55, 56, 57, 97, 98, 99, 100, 101, 102]⟩ : ByteArray) bb bc (bt a0 bc) bL = some r) ∧ Aside0 (kq ≤ k1) ∧ Aside0 (Kd.R (Kd.int .u8) 5 wc w.heap.size (fun _ => True) u4 bb) ∧ Aside0 (Below w.heap.size w wc))
     case first =>
      have H := fv.out
      clear fv
      by_cases c8 : (bt a0 bc) = 34
      ·rw [if_pos c8] at H
       have cn := beq_iff_eq.mpr c8
       have fw := bne_eq_false_iff_eq.mpr c8
       clear c8
       (first | rw [cn] | (simp only [i64_w, i32_w, IntKind.wrap_u8, IntKind.wrap_u32]; rw [cn]) | skip)
       have H' := zam H
       clear H
       go_wp2
       go_meet
       case rel => exact ⟨_, (true), zrs, H', ⟨zlo HK1.out⟩, ⟨zkr HO_4.out⟩, ⟨zbl HB.out⟩⟩
      ·rw [if_neg c8] at H
       have cn := beq_eq_false_iff_ne.mpr c8
       have fw := bne_iff_ne.mpr c8
       (first | rw [cn] | (simp only [i64_w, i32_w, IntKind.wrap_u8, IntKind.wrap_u32]; rw [cn]) | skip)
       have H' := zam H
       clear H
       go_wp2
       go_meet
       case rel => exact ⟨_, (((bt a0 bc) == 92)), zrs, H', ⟨zlo HK1.out⟩, ⟨zkr HO_4.out⟩, ⟨zbl HB.out⟩⟩
     case rest =>
      clear fv
      obtain ⟨kq, bL, rfl, HA, bJ, HO_4, HB⟩ := hcut
      cases kq with
      | zero => exact absurd HA.out (by simp [spec_l1Quoted.j1])
      | succ kj6 =>
       have H := HA.out
       clear HA
       simp only [spec_l1Quoted.j1] at H
       by_cases c9 : bL = true
       ·subst c9
        rw [if_pos rfl] at H
        obtain ⟨bK, bM⟩ : ∃ y_ : List Int, y_ = (([92, (bt a0 bc)] : List Int)) := ⟨_, rfl⟩
        first | rw [Option.bind_some, ← bM] at H | rw [← bM] at H
        have ct := zam bM
        clear bM
        by_cases cp : bb.length + bK.length < 140737488355328
        ·rw [if_pos cp] at H
         have cW := zam cp
         clear cp
         obtain ⟨fx, bN⟩ : ∃ y_ : List Int, y_ = (bb ++ bK) := ⟨_, rfl⟩
         first | rw [Option.bind_some, ← bN] at H | rw [← bN] at H
         have cX := zam bN
         clear bN
         have H' := zam H
         clear H
         go_wp2_with (first | ((with_reducible refine gate_dst (N := 25) rfl ?_); refine Kd.R_lit (Kd.int .u8) _ 5 ?hg (N := 25) ?hd (xs := ([92, (bt a0 bc)] : List Int)) (inner := [.int .u8 92, .int .u8 (bt a0 bc)]) (ok := fun _ => True) (okp := fun _ => True) ?hr ?hp (fun _ hk => hk) trivial (Below.refl _ _) (Nat.le_refl _) (by simp) ?_; (case hd => rfl); (case hg => rfl); (case hr => first | (go_simp; done) | (go_simp; rfl)); (case hp => exact (Reps.one (show Kd.M (Kd.int .u8) _ _ _ 92 [.int .u8 92] from rfl) (Reps.one (show Kd.M (Kd.int .u8) _ _ _ (bt a0 bc) [.int .u8 (bt a0 bc)] from rfl) (Reps.none _ _)))); intro v108 gj bh hb hg_ hnew_; clear hg_ hnew_; (first | rw [← ct.out] at bh | (simp only [Int.reduceToNat] at bh; rw [← ct.out] at bh)); have br := zam (Kd.R_lower (Kd.R_new' bh (Kd.R_lt (zkr HO_4.out))) (below_size (zbl HB.out))); replace HO_4 := zam (Kd.R_elder' (zkr HO_4.out) (Kd.R_base bh) hb); replace HB := zam (below_step (zbl HB.out) hb); clear hb bh; obtain ⟨fy, fz, eo14⟩ := Kd.R_slice br.out; subst eo14) | ((with_reducible refine gate_builtin (b := .append) (xs := #[.tmp 23, .tmp 25]) rfl ?_); at_builtin; refine Kd.R_append_rows (Kd.int .u8) (w0 := w) w.heap.size rfl (.tmp 23) (.tmp 25) 25 5 (.int .u8 0) 1 rfl Tryz.underlying25 info5 rfl (by decide) (by omega) u4 bb bK _ _ _ (fun k_ => some k_ ≠ (.slice fy bK.length fz : Value).ownBlock) (fun _ => False) rfl rfl ?aO ?aR (fun _ _ h => h) (fun _ h => h.elim) ?aF ?aB ?aS ?aL ?_; (case aR => repeat (first | exact (Kd.R_reads' br.out).2.2 | (with_reducible refine Kd.C_alloc ?_ _) | (with_reducible refine Kd.C_drewN ?_ _) | (with_reducible refine Kd.C_drew ?_))); (case aB => exact (zbl HB.out)); (case aF => exact (fun k_ hk => Kd.fresh' (Kd.R_lt (zkr br.out)) k_ hk)); (case aO => exact (by refine zkr ?_; exact Kd.R_mono HO_4.out (fun _ hk => hk.2))); (case aS => exact (below_size (zbl HB.out))); (case aL => have := cW.out; omega); intro v111 gv ho hb hg hat; rw [← cX.out] at ho; have cY := zam (ho); replace br := zam (Kd.R_after (ok := (fun _ => True)) (zkr br.out) hg hat); replace HB := zam (hb); clear HO_4; clear ho hb hg hat))
         go_roundg kj6
         case measure => have := HK1.out; have := bJ.out; omega
         case rel => exact ⟨(fx), (wrap64 (bc + 1)), zrs, H', ⟨zlo2 HK1.out bJ.out⟩, ⟨by refine zkr ?_; exact Kd.R_mono cY.out (fun _ hk => trivial)⟩, ⟨zbl HB.out⟩⟩
        ·rw [if_neg cp] at H
         exact absurd H (by simp)
       ·replace c9 := Bool.eq_false_iff.mpr c9
        subst c9
        rw [if_neg (show ¬ (false = true) by decide)] at H
        by_cases cL : (bt a0 bc) = 8
        ·rw [if_pos cL] at H
         have cZ := beq_iff_eq.mpr cL
         have db := bne_eq_false_iff_eq.mpr cL
         clear cL
         obtain ⟨bj, bs⟩ : ∃ y_ : List Int, y_ = (([92, 98] : List Int)) := ⟨_, rfl⟩
         replace H : (if bb.length + bj.length < 140737488355328 then (spec_l1Quoted.l0 kj6 a0 (⟨#[48, 49, 50, 51, 52, 53, 54, 55, 56, 57, 97, 98, 99, 100, 101, 102]⟩ : ByteArray) (bb ++ bj) (wrap64 (bc + 1))) else (none)) = some r := by first | (rw [bs]; with_reducible exact H) | (have H2_ := (Option.bind_some _ _).symm.trans H; rw [bs]; with_reducible exact H2_) | (have H2_ := (Option.bind_some _ _).symm.trans H; with_reducible exact H2_) | with_reducible exact H | (rw [bs]; exact H) | exact H
         have cv := zam bs
         clear bs
         by_cases fc : bb.length + bj.length < 140737488355328
         ·rw [if_pos fc] at H
          have dc := zam fc
          clear fc
          obtain ⟨fB, bP⟩ : ∃ y_ : List Int, y_ = (bb ++ bj) := ⟨_, rfl⟩
          first | rw [Option.bind_some, ← bP] at H | rw [← bP] at H
          have dd := zam bP
          clear bP
          have H' := zam H
          clear H
          go_wp2_with (first | ((with_reducible refine gate_dst (N := 30) rfl ?_); refine Kd.R_lit (Kd.int .u8) _ 5 ?hg (N := 30) ?hd (xs := ([92, 98] : List Int)) (inner := [.int .u8 92, .int .u8 98]) (ok := fun _ => True) (okp := fun _ => True) ?hr ?hp (fun _ hk => hk) trivial (Below.refl _ _) (Nat.le_refl _) (by simp) ?_; (case hd => rfl); (case hg => rfl); (case hr => first | (go_simp; done) | (go_simp; rfl)); (case hp => exact (Reps.one (show Kd.M (Kd.int .u8) _ _ _ 92 [.int .u8 92] from rfl) (Reps.one (show Kd.M (Kd.int .u8) _ _ _ 98 [.int .u8 98] from rfl) (Reps.none _ _)))); intro v114 gw cf hb hg_ hnew_; clear hg_ hnew_; (first | rw [← cv.out] at cf | (simp only [Int.reduceToNat] at cf; rw [← cv.out] at cf)); have bv := zam (Kd.R_lower (Kd.R_new' cf (Kd.R_lt (zkr HO_4.out))) (below_size (zbl HB.out))); replace HO_4 := zam (Kd.R_elder' (zkr HO_4.out) (Kd.R_base cf) hb); replace HB := zam (below_step (zbl HB.out) hb); clear hb cf; obtain ⟨fC, fD, eo20⟩ := Kd.R_slice bv.out; subst eo20) | ((with_reducible refine gate_builtin (b := .append) (xs := #[.tmp 29, .tmp 30]) rfl ?_); at_builtin; refine Kd.R_append_rows (Kd.int .u8) (w0 := w) w.heap.size rfl (.tmp 29) (.tmp 30) 25 5 (.int .u8 0) 1 rfl Tryz.underlying25 info5 rfl (by decide) (by omega) u4 bb bj _ _ _ (fun k_ => some k_ ≠ (.slice fC bj.length fD : Value).ownBlock) (fun _ => False) rfl rfl ?aO ?aR (fun _ _ h => h) (fun _ h => h.elim) ?aF ?aB ?aS ?aL ?_; (case aR => repeat (first | exact (Kd.R_reads' bv.out).2.2 | (with_reducible refine Kd.C_alloc ?_ _) | (with_reducible refine Kd.C_drewN ?_ _) | (with_reducible refine Kd.C_drew ?_))); (case aB => exact (zbl HB.out)); (case aF => exact (fun k_ hk => Kd.fresh' (Kd.R_lt (zkr bv.out)) k_ hk)); (case aO => exact (by refine zkr ?_; exact Kd.R_mono HO_4.out (fun _ hk => hk.2))); (case aS => exact (below_size (zbl HB.out))); (case aL => have := dc.out; omega); intro v117 gx ho hb hg hat; rw [← dd.out] at ho; have df := zam (ho); replace bv := zam (Kd.R_after (ok := (fun _ => True)) (zkr bv.out) hg hat); replace HB := zam (hb); clear HO_4; clear ho hb hg hat))
          go_roundg kj6
          case measure => have := HK1.out; have := bJ.out; omega
          case rel => exact ⟨(fB), (wrap64 (bc + 1)), zrs, H', ⟨zlo2 HK1.out bJ.out⟩, ⟨by refine zkr ?_; exact Kd.R_mono df.out (fun _ hk => trivial)⟩, ⟨zbl HB.out⟩⟩
         ·rw [if_neg fc] at H
          exact absurd H (by simp)
        ·rw [if_neg cL] at H
         have cZ := beq_eq_false_iff_ne.mpr cL
         have db := bne_iff_ne.mpr cL
         by_cases cM : (bt a0 bc) = 9
         ·rw [if_pos cM] at H
          have dg := beq_iff_eq.mpr cM
          have dh := bne_eq_false_iff_eq.mpr cM
          clear cM
          obtain ⟨bk, bw⟩ : ∃ y_ : List Int, y_ = (([92, 116] : List Int)) := ⟨_, rfl⟩
          replace H : (if bb.length + bk.length < 140737488355328 then (spec_l1Quoted.l0 kj6 a0 (⟨#[48, 49, 50, 51, 52, 53, 54, 55, 56, 57, 97, 98, 99, 100, 101, 102]⟩ : ByteArray) (bb ++ bk) (wrap64 (bc + 1))) else (none)) = some r := by first | (rw [bw]; with_reducible exact H) | (have H2_ := (Option.bind_some _ _).symm.trans H; rw [bw]; with_reducible exact H2_) | (have H2_ := (Option.bind_some _ _).symm.trans H; with_reducible exact H2_) | with_reducible exact H | (rw [bw]; exact H) | exact H
          have cw := zam bw
          clear bw
          by_cases fd : bb.length + bk.length < 140737488355328
          ·rw [if_pos fd] at H
           have dj := zam fd
           clear fd
           obtain ⟨fF, bQ⟩ : ∃ y_ : List Int, y_ = (bb ++ bk) := ⟨_, rfl⟩
           first | rw [Option.bind_some, ← bQ] at H | rw [← bQ] at H
           have dk := zam bQ
           clear bQ
           have H' := zam H
           clear H
           go_wp2_with (first | ((with_reducible refine gate_dst (N := 35) rfl ?_); refine Kd.R_lit (Kd.int .u8) _ 5 ?hg (N := 35) ?hd (xs := ([92, 116] : List Int)) (inner := [.int .u8 92, .int .u8 116]) (ok := fun _ => True) (okp := fun _ => True) ?hr ?hp (fun _ hk => hk) trivial (Below.refl _ _) (Nat.le_refl _) (by simp) ?_; (case hd => rfl); (case hg => rfl); (case hr => first | (go_simp; done) | (go_simp; rfl)); (case hp => exact (Reps.one (show Kd.M (Kd.int .u8) _ _ _ 92 [.int .u8 92] from rfl) (Reps.one (show Kd.M (Kd.int .u8) _ _ _ 116 [.int .u8 116] from rfl) (Reps.none _ _)))); intro v120 gy cg hb hg_ hnew_; clear hg_ hnew_; (first | rw [← cw.out] at cg | (simp only [Int.reduceToNat] at cg; rw [← cw.out] at cg)); have bx := zam (Kd.R_lower (Kd.R_new' cg (Kd.R_lt (zkr HO_4.out))) (below_size (zbl HB.out))); replace HO_4 := zam (Kd.R_elder' (zkr HO_4.out) (Kd.R_base cg) hb); replace HB := zam (below_step (zbl HB.out) hb); clear hb cg; obtain ⟨fG, fH, eo26⟩ := Kd.R_slice bx.out; subst eo26) | ((with_reducible refine gate_builtin (b := .append) (xs := #[.tmp 34, .tmp 35]) rfl ?_); at_builtin; refine Kd.R_append_rows (Kd.int .u8) (w0 := w) w.heap.size rfl (.tmp 34) (.tmp 35) 25 5 (.int .u8 0) 1 rfl Tryz.underlying25 info5 rfl (by decide) (by omega) u4 bb bk _ _ _ (fun k_ => some k_ ≠ (.slice fG bk.length fH : Value).ownBlock) (fun _ => False) rfl rfl ?aO ?aR (fun _ _ h => h) (fun _ h => h.elim) ?aF ?aB ?aS ?aL ?_; (case aR => repeat (first | exact (Kd.R_reads' bx.out).2.2 | (with_reducible refine Kd.C_alloc ?_ _) | (with_reducible refine Kd.C_drewN ?_ _) | (with_reducible refine Kd.C_drew ?_))); (case aB => exact (zbl HB.out)); (case aF => exact (fun k_ hk => Kd.fresh' (Kd.R_lt (zkr bx.out)) k_ hk)); (case aO => exact (by refine zkr ?_; exact Kd.R_mono HO_4.out (fun _ hk => hk.2))); (case aS => exact (below_size (zbl HB.out))); (case aL => have := dj.out; omega); intro v123 gz ho hb hg hat; rw [← dk.out] at ho; have dm := zam (ho); replace bx := zam (Kd.R_after (ok := (fun _ => True)) (zkr bx.out) hg hat); replace HB := zam (hb); clear HO_4; clear ho hb hg hat))
           go_roundg kj6
           case measure => have := HK1.out; have := bJ.out; omega
           case rel => exact ⟨(fF), (wrap64 (bc + 1)), zrs, H', ⟨zlo2 HK1.out bJ.out⟩, ⟨by refine zkr ?_; exact Kd.R_mono dm.out (fun _ hk => trivial)⟩, ⟨zbl HB.out⟩⟩
          ·rw [if_neg fd] at H
           exact absurd H (by simp)
         ·rw [if_neg cM] at H
          have dg := beq_eq_false_iff_ne.mpr cM
          have dh := bne_iff_ne.mpr cM
          by_cases cN : (bt a0 bc) = 10
          ·rw [if_pos cN] at H
           have dn := beq_iff_eq.mpr cN
           have dp := bne_eq_false_iff_eq.mpr cN
           clear cN
           obtain ⟨bm, bz⟩ : ∃ y_ : List Int, y_ = (([92, 110] : List Int)) := ⟨_, rfl⟩
           replace H : (if bb.length + bm.length < 140737488355328 then (spec_l1Quoted.l0 kj6 a0 (⟨#[48, 49, 50, 51, 52, 53, 54, 55, 56, 57, 97, 98, 99, 100, 101, 102]⟩ : ByteArray) (bb ++ bm) (wrap64 (bc + 1))) else (none)) = some r := by first | (rw [bz]; with_reducible exact H) | (have H2_ := (Option.bind_some _ _).symm.trans H; rw [bz]; with_reducible exact H2_) | (have H2_ := (Option.bind_some _ _).symm.trans H; with_reducible exact H2_) | with_reducible exact H | (rw [bz]; exact H) | exact H
           have cx := zam bz
           clear bz
           by_cases ff : bb.length + bm.length < 140737488355328
           ·rw [if_pos ff] at H
            have dq := zam ff
            clear ff
            obtain ⟨fJ, bR⟩ : ∃ y_ : List Int, y_ = (bb ++ bm) := ⟨_, rfl⟩
            first | rw [Option.bind_some, ← bR] at H | rw [← bR] at H
            have dr := zam bR
            clear bR
            have H' := zam H
            clear H
            go_wp2_with (first | ((with_reducible refine gate_dst (N := 40) rfl ?_); refine Kd.R_lit (Kd.int .u8) _ 5 ?hg (N := 40) ?hd (xs := ([92, 110] : List Int)) (inner := [.int .u8 92, .int .u8 110]) (ok := fun _ => True) (okp := fun _ => True) ?hr ?hp (fun _ hk => hk) trivial (Below.refl _ _) (Nat.le_refl _) (by simp) ?_; (case hd => rfl); (case hg => rfl); (case hr => first | (go_simp; done) | (go_simp; rfl)); (case hp => exact (Reps.one (show Kd.M (Kd.int .u8) _ _ _ 92 [.int .u8 92] from rfl) (Reps.one (show Kd.M (Kd.int .u8) _ _ _ 110 [.int .u8 110] from rfl) (Reps.none _ _)))); intro v126 gB ch hb hg_ hnew_; clear hg_ hnew_; (first | rw [← cx.out] at ch | (simp only [Int.reduceToNat] at ch; rw [← cx.out] at ch)); have bB := zam (Kd.R_lower (Kd.R_new' ch (Kd.R_lt (zkr HO_4.out))) (below_size (zbl HB.out))); replace HO_4 := zam (Kd.R_elder' (zkr HO_4.out) (Kd.R_base ch) hb); replace HB := zam (below_step (zbl HB.out) hb); clear hb ch; obtain ⟨fK, fL, eo32⟩ := Kd.R_slice bB.out; subst eo32) | ((with_reducible refine gate_builtin (b := .append) (xs := #[.tmp 39, .tmp 40]) rfl ?_); at_builtin; refine Kd.R_append_rows (Kd.int .u8) (w0 := w) w.heap.size rfl (.tmp 39) (.tmp 40) 25 5 (.int .u8 0) 1 rfl Tryz.underlying25 info5 rfl (by decide) (by omega) u4 bb bm _ _ _ (fun k_ => some k_ ≠ (.slice fK bm.length fL : Value).ownBlock) (fun _ => False) rfl rfl ?aO ?aR (fun _ _ h => h) (fun _ h => h.elim) ?aF ?aB ?aS ?aL ?_; (case aR => repeat (first | exact (Kd.R_reads' bB.out).2.2 | (with_reducible refine Kd.C_alloc ?_ _) | (with_reducible refine Kd.C_drewN ?_ _) | (with_reducible refine Kd.C_drew ?_))); (case aB => exact (zbl HB.out)); (case aF => exact (fun k_ hk => Kd.fresh' (Kd.R_lt (zkr bB.out)) k_ hk)); (case aO => exact (by refine zkr ?_; exact Kd.R_mono HO_4.out (fun _ hk => hk.2))); (case aS => exact (below_size (zbl HB.out))); (case aL => have := dq.out; omega); intro v129 gC ho hb hg hat; rw [← dr.out] at ho; have dt := zam (ho); replace bB := zam (Kd.R_after (ok := (fun _ => True)) (zkr bB.out) hg hat); replace HB := zam (hb); clear HO_4; clear ho hb hg hat))
            go_roundg kj6
            case measure => have := HK1.out; have := bJ.out; omega
            case rel => exact ⟨(fJ), (wrap64 (bc + 1)), zrs, H', ⟨zlo2 HK1.out bJ.out⟩, ⟨by refine zkr ?_; exact Kd.R_mono dt.out (fun _ hk => trivial)⟩, ⟨zbl HB.out⟩⟩
           ·rw [if_neg ff] at H
            exact absurd H (by simp)
          ·rw [if_neg cN] at H
           have dn := beq_eq_false_iff_ne.mpr cN
           have dp := bne_iff_ne.mpr cN
           by_cases cP : (bt a0 bc) = 12
           ·rw [if_pos cP] at H
            have dv := beq_iff_eq.mpr cP
            have dw := bne_eq_false_iff_eq.mpr cP
            clear cP
            obtain ⟨bn, bC⟩ : ∃ y_ : List Int, y_ = (([92, 102] : List Int)) := ⟨_, rfl⟩
            replace H : (if bb.length + bn.length < 140737488355328 then (spec_l1Quoted.l0 kj6 a0 (⟨#[48, 49, 50, 51, 52, 53, 54, 55, 56, 57, 97, 98, 99, 100, 101, 102]⟩ : ByteArray) (bb ++ bn) (wrap64 (bc + 1))) else (none)) = some r := by first | (rw [bC]; with_reducible exact H) | (have H2_ := (Option.bind_some _ _).symm.trans H; rw [bC]; with_reducible exact H2_) | (have H2_ := (Option.bind_some _ _).symm.trans H; with_reducible exact H2_) | with_reducible exact H | (rw [bC]; exact H) | exact H
            have cy := zam bC
            clear bC
            by_cases fg : bb.length + bn.length < 140737488355328
            ·rw [if_pos fg] at H
             have dx := zam fg
             clear fg
             obtain ⟨fM, bS⟩ : ∃ y_ : List Int, y_ = (bb ++ bn) := ⟨_, rfl⟩
             first | rw [Option.bind_some, ← bS] at H | rw [← bS] at H
             have dy := zam bS
             clear bS
             have H' := zam H
             clear H
             go_wp2_with (first | ((with_reducible refine gate_dst (N := 45) rfl ?_); refine Kd.R_lit (Kd.int .u8) _ 5 ?hg (N := 45) ?hd (xs := ([92, 102] : List Int)) (inner := [.int .u8 92, .int .u8 102]) (ok := fun _ => True) (okp := fun _ => True) ?hr ?hp (fun _ hk => hk) trivial (Below.refl _ _) (Nat.le_refl _) (by simp) ?_; (case hd => rfl); (case hg => rfl); (case hr => first | (go_simp; done) | (go_simp; rfl)); (case hp => exact (Reps.one (show Kd.M (Kd.int .u8) _ _ _ 92 [.int .u8 92] from rfl) (Reps.one (show Kd.M (Kd.int .u8) _ _ _ 102 [.int .u8 102] from rfl) (Reps.none _ _)))); intro v132 gD cj hb hg_ hnew_; clear hg_ hnew_; (first | rw [← cy.out] at cj | (simp only [Int.reduceToNat] at cj; rw [← cy.out] at cj)); have bD := zam (Kd.R_lower (Kd.R_new' cj (Kd.R_lt (zkr HO_4.out))) (below_size (zbl HB.out))); replace HO_4 := zam (Kd.R_elder' (zkr HO_4.out) (Kd.R_base cj) hb); replace HB := zam (below_step (zbl HB.out) hb); clear hb cj; obtain ⟨fN, fP, eo38⟩ := Kd.R_slice bD.out; subst eo38) | ((with_reducible refine gate_builtin (b := .append) (xs := #[.tmp 44, .tmp 45]) rfl ?_); at_builtin; refine Kd.R_append_rows (Kd.int .u8) (w0 := w) w.heap.size rfl (.tmp 44) (.tmp 45) 25 5 (.int .u8 0) 1 rfl Tryz.underlying25 info5 rfl (by decide) (by omega) u4 bb bn _ _ _ (fun k_ => some k_ ≠ (.slice fN bn.length fP : Value).ownBlock) (fun _ => False) rfl rfl ?aO ?aR (fun _ _ h => h) (fun _ h => h.elim) ?aF ?aB ?aS ?aL ?_; (case aR => repeat (first | exact (Kd.R_reads' bD.out).2.2 | (with_reducible refine Kd.C_alloc ?_ _) | (with_reducible refine Kd.C_drewN ?_ _) | (with_reducible refine Kd.C_drew ?_))); (case aB => exact (zbl HB.out)); (case aF => exact (fun k_ hk => Kd.fresh' (Kd.R_lt (zkr bD.out)) k_ hk)); (case aO => exact (by refine zkr ?_; exact Kd.R_mono HO_4.out (fun _ hk => hk.2))); (case aS => exact (below_size (zbl HB.out))); (case aL => have := dx.out; omega); intro v135 gF ho hb hg hat; rw [← dy.out] at ho; have dz := zam (ho); replace bD := zam (Kd.R_after (ok := (fun _ => True)) (zkr bD.out) hg hat); replace HB := zam (hb); clear HO_4; clear ho hb hg hat))
             go_roundg kj6
             case measure => have := HK1.out; have := bJ.out; omega
             case rel => exact ⟨(fM), (wrap64 (bc + 1)), zrs, H', ⟨zlo2 HK1.out bJ.out⟩, ⟨by refine zkr ?_; exact Kd.R_mono dz.out (fun _ hk => trivial)⟩, ⟨zbl HB.out⟩⟩
            ·rw [if_neg fg] at H
             exact absurd H (by simp)
           ·rw [if_neg cP] at H
            have dv := beq_eq_false_iff_ne.mpr cP
            have dw := bne_iff_ne.mpr cP
            by_cases cQ : (bt a0 bc) = 13
            ·rw [if_pos cQ] at H
             have dB := beq_iff_eq.mpr cQ
             have dC := bne_eq_false_iff_eq.mpr cQ
             clear cQ
             obtain ⟨bp, bF⟩ : ∃ y_ : List Int, y_ = (([92, 114] : List Int)) := ⟨_, rfl⟩
             replace H : (if bb.length + bp.length < 140737488355328 then (spec_l1Quoted.l0 kj6 a0 (⟨#[48, 49, 50, 51, 52, 53, 54, 55, 56, 57, 97, 98, 99, 100, 101, 102]⟩ : ByteArray) (bb ++ bp) (wrap64 (bc + 1))) else (none)) = some r := by first | (rw [bF]; with_reducible exact H) | (have H2_ := (Option.bind_some _ _).symm.trans H; rw [bF]; with_reducible exact H2_) | (have H2_ := (Option.bind_some _ _).symm.trans H; with_reducible exact H2_) | with_reducible exact H | (rw [bF]; exact H) | exact H
             have cz := zam bF
             clear bF
             by_cases fh : bb.length + bp.length < 140737488355328
             ·rw [if_pos fh] at H
              have dD := zam fh
              clear fh
              obtain ⟨fQ, bT⟩ : ∃ y_ : List Int, y_ = (bb ++ bp) := ⟨_, rfl⟩
              first | rw [Option.bind_some, ← bT] at H | rw [← bT] at H
              have dF := zam bT
              clear bT
              have H' := zam H
              clear H
              go_wp2_with (first | ((with_reducible refine gate_dst (N := 50) rfl ?_); refine Kd.R_lit (Kd.int .u8) _ 5 ?hg (N := 50) ?hd (xs := ([92, 114] : List Int)) (inner := [.int .u8 92, .int .u8 114]) (ok := fun _ => True) (okp := fun _ => True) ?hr ?hp (fun _ hk => hk) trivial (Below.refl _ _) (Nat.le_refl _) (by simp) ?_; (case hd => rfl); (case hg => rfl); (case hr => first | (go_simp; done) | (go_simp; rfl)); (case hp => exact (Reps.one (show Kd.M (Kd.int .u8) _ _ _ 92 [.int .u8 92] from rfl) (Reps.one (show Kd.M (Kd.int .u8) _ _ _ 114 [.int .u8 114] from rfl) (Reps.none _ _)))); intro v138 gG ck hb hg_ hnew_; clear hg_ hnew_; (first | rw [← cz.out] at ck | (simp only [Int.reduceToNat] at ck; rw [← cz.out] at ck)); have bG := zam (Kd.R_lower (Kd.R_new' ck (Kd.R_lt (zkr HO_4.out))) (below_size (zbl HB.out))); replace HO_4 := zam (Kd.R_elder' (zkr HO_4.out) (Kd.R_base ck) hb); replace HB := zam (below_step (zbl HB.out) hb); clear hb ck; obtain ⟨fR, fS, eo44⟩ := Kd.R_slice bG.out; subst eo44) | ((with_reducible refine gate_builtin (b := .append) (xs := #[.tmp 49, .tmp 50]) rfl ?_); at_builtin; refine Kd.R_append_rows (Kd.int .u8) (w0 := w) w.heap.size rfl (.tmp 49) (.tmp 50) 25 5 (.int .u8 0) 1 rfl Tryz.underlying25 info5 rfl (by decide) (by omega) u4 bb bp _ _ _ (fun k_ => some k_ ≠ (.slice fR bp.length fS : Value).ownBlock) (fun _ => False) rfl rfl ?aO ?aR (fun _ _ h => h) (fun _ h => h.elim) ?aF ?aB ?aS ?aL ?_; (case aR => repeat (first | exact (Kd.R_reads' bG.out).2.2 | (with_reducible refine Kd.C_alloc ?_ _) | (with_reducible refine Kd.C_drewN ?_ _) | (with_reducible refine Kd.C_drew ?_))); (case aB => exact (zbl HB.out)); (case aF => exact (fun k_ hk => Kd.fresh' (Kd.R_lt (zkr bG.out)) k_ hk)); (case aO => exact (by refine zkr ?_; exact Kd.R_mono HO_4.out (fun _ hk => hk.2))); (case aS => exact (below_size (zbl HB.out))); (case aL => have := dD.out; omega); intro v141 gH ho hb hg hat; rw [← dF.out] at ho; have dG := zam (ho); replace bG := zam (Kd.R_after (ok := (fun _ => True)) (zkr bG.out) hg hat); replace HB := zam (hb); clear HO_4; clear ho hb hg hat))
              go_roundg kj6
              case measure => have := HK1.out; have := bJ.out; omega
              case rel => exact ⟨(fQ), (wrap64 (bc + 1)), zrs, H', ⟨zlo2 HK1.out bJ.out⟩, ⟨by refine zkr ?_; exact Kd.R_mono dG.out (fun _ hk => trivial)⟩, ⟨zbl HB.out⟩⟩
             ·rw [if_neg fh] at H
              exact absurd H (by simp)
            ·rw [if_neg cQ] at H
             have dB := beq_eq_false_iff_ne.mpr cQ
             have dC := bne_iff_ne.mpr cQ
             by_cases cR : (bt a0 bc) < 32
             ·rw [if_pos cR] at H
              have dH := decide_eq_true cR
              clear cR
              obtain ⟨bd, cB⟩ : ∃ j_ : Int, ((Int.tdiv (bt a0 bc) 16) % 256) = j_ := ⟨_, rfl⟩
              replace H : (if 0 ≤ (bd) then (if (bd) < ((⟨#[48, 49, 50, 51, 52, 53, 54, 55, 56, 57, 97, 98, 99, 100, 101, 102]⟩ : ByteArray).size : Int) then (if 0 ≤ (Int.tmod (bt a0 bc) 16) then (if (Int.tmod (bt a0 bc) 16) < ((⟨#[48, 49, 50, 51, 52, 53, 54, 55, 56, 57, 97, 98, 99, 100, 101, 102]⟩ : ByteArray).size : Int) then ((some (([92, 117, 48, 48, bt (⟨#[48, 49, 50, 51, 52, 53, 54, 55, 56, 57, 97, 98, 99, 100, 101, 102]⟩ : ByteArray) (bd), bt (⟨#[48, 49, 50, 51, 52, 53, 54, 55, 56, 57, 97, 98, 99, 100, 101, 102]⟩ : ByteArray) (Int.tmod (bt a0 bc) 16)] : List Int) : List Int)).bind fun bf => (if bb.length + bf.length < 140737488355328 then (spec_l1Quoted.l0 kj6 a0 (⟨#[48, 49, 50, 51, 52, 53, 54, 55, 56, 57, 97, 98, 99, 100, 101, 102]⟩ : ByteArray) (bb ++ bf) (wrap64 (bc + 1))) else (none))) else (none)) else (none)) else (none)) else (none)) = some r := by first | (rw [cB] at H; exact H) | (simp only [cB] at H ⊢; exact H)
              by_cases fj : 0 ≤ (bd)
              ·rw [if_pos fj] at H
               have gb := decide_eq_true fj
               clear fj
               by_cases fk : (bd) < ((⟨#[48, 49, 50, 51, 52, 53, 54, 55, 56, 57, 97, 98, 99, 100, 101, 102]⟩ : ByteArray).size : Int)
               ·rw [if_pos fk] at H
                have gc := decide_eq_true fk
                clear fk
                obtain ⟨bg, cC⟩ : ∃ j_ : Int, (Int.tmod (bt a0 bc) 16) = j_ := ⟨_, rfl⟩
                replace H : (if 0 ≤ (bg) then (if (bg) < ((⟨#[48, 49, 50, 51, 52, 53, 54, 55, 56, 57, 97, 98, 99, 100, 101, 102]⟩ : ByteArray).size : Int) then ((some (([92, 117, 48, 48, bt (⟨#[48, 49, 50, 51, 52, 53, 54, 55, 56, 57, 97, 98, 99, 100, 101, 102]⟩ : ByteArray) (bd), bt (⟨#[48, 49, 50, 51, 52, 53, 54, 55, 56, 57, 97, 98, 99, 100, 101, 102]⟩ : ByteArray) (bg)] : List Int) : List Int)).bind fun bf => (if bb.length + bf.length < 140737488355328 then (spec_l1Quoted.l0 kj6 a0 (⟨#[48, 49, 50, 51, 52, 53, 54, 55, 56, 57, 97, 98, 99, 100, 101, 102]⟩ : ByteArray) (bb ++ bf) (wrap64 (bc + 1))) else (none))) else (none)) else (none)) = some r := by first | (rw [cC] at H; exact H) | (simp only [cC] at H ⊢; exact H)
                by_cases fm : 0 ≤ (bg)
                ·rw [if_pos fm] at H
                 have gd := decide_eq_true fm
                 clear fm
                 by_cases fn : (bg) < ((⟨#[48, 49, 50, 51, 52, 53, 54, 55, 56, 57, 97, 98, 99, 100, 101, 102]⟩ : ByteArray).size : Int)
                 ·rw [if_pos fn] at H
                  have gf := decide_eq_true fn
                  clear fn
                  obtain ⟨bf, bV⟩ : ∃ y_ : List Int, y_ = (([92, 117, 48, 48, bt (⟨#[48, 49, 50, 51, 52, 53, 54, 55, 56, 57, 97, 98, 99, 100, 101, 102]⟩ : ByteArray) (bd), bt (⟨#[48, 49, 50, 51, 52, 53, 54, 55, 56, 57, 97, 98, 99, 100, 101, 102]⟩ : ByteArray) (bg)] : List Int)) := ⟨_, rfl⟩
                  first | rw [Option.bind_some, ← bV] at H | rw [← bV] at H
                  have cD := zam bV
                  clear bV
                  by_cases fp : bb.length + bf.length < 140737488355328
                  ·rw [if_pos fp] at H
                   have dJ := zam fp
                   clear fp
                   obtain ⟨fT, bW⟩ : ∃ y_ : List Int, y_ = (bb ++ bf) := ⟨_, rfl⟩
                   first | rw [Option.bind_some, ← bW] at H | rw [← bW] at H
                   have dK := zam bW
                   clear bW
                   have H' := zam H
                   clear H
                   try go_wp2
                   replace HO_4 := zam (Kd.R_drew HO_4.out); replace HB := zam (below_drew1 HB.out)
                   have gJ := zet (0 ≤ ((bd) : Int))
                   have gK := zet ((bd) < (16 : Int))
                   have gm := bt_at (⟨#[48, 49, 50, 51, 52, 53, 54, 55, 56, 57, 97, 98, 99, 100, 101, 102]⟩ : ByteArray) (bd)
                   have gL := zet (0 ≤ ((bg) : Int))
                   have gM := zet ((bg) < (16 : Int))
                   have gn := bt_at (⟨#[48, 49, 50, 51, 52, 53, 54, 55, 56, 57, 97, 98, 99, 100, 101, 102]⟩ : ByteArray) (bg)
                   refine start_ (n := 12) (S := fun w' => True) (ds := []) #[false, false, false, false, false, false, false, false, false, false, false, false] (by kernel_rfl) rfl rfl trivial (fun hHeld => ?_); refine with_tabW spec_l1Quoted.tab20 spec_l1Quoted.bits20 (fun HT_ HW_ => ?_)
                   generalize wc.drew = gN at HO_4 HB hHeld ⊢
                   refine zpv (i := 0) (N := some 54) HT_.out (zb 12 1) rfl rfl ?_
                   refine zpv (i := 1) (N := some 55) HT_.out (zb 12 3) rfl rfl ?_
                   refine zpv (i := 2) (N := some 56) HT_.out (zb 12 7) rfl rfl ?_
                   refine zpv (i := 3) (N := some 57) HT_.out (zb 12 15) rfl rfl ?_
                   refine zpv (i := 5) (N := some 59) HT_.out (zb 12 47) rfl rfl ?_
                   refine zpv (i := 6) (N := some 60) HT_.out (zb 12 111) rfl rfl ?_
                   refine zpv (i := 7) (N := some 61) HT_.out (zb 12 239) rfl rfl ?_
                   refine take_ (i := 4) (N := some 58) (v := ?_) (a' := ?_) (zb 12 255) rfl rfl (take_ofW HT_.out HW_.out (by kernel_rfl)) (fun _ _ _ h => h) (Or.inl ⟨by rfl, ?_⟩) hHeld ?_ ?_
                   rotate_left
                   ·intro w' _
                    go_simp
                    with_reducible rfl
                   rotate_left
                   ·simp only [Act.put, List.setIfInBounds_toArray, List.set_cons_zero, List.set_cons_succ, i64_w, i32_w, IntKind.wrap_u8, IntKind.wrap_u32]
                    rfl
                   refine take_ (i := 8) (N := some 62) (v := ?_) (a' := ?_) (zb 12 511) rfl rfl (take_ofW HT_.out HW_.out (by kernel_rfl)) (fun _ _ _ h => h) (Or.inl ⟨by rfl, ?_⟩) hHeld ?_ ?_
                   rotate_left
                   ·intro w' _
                    go_simp
                    with_reducible rfl
                   rotate_left
                   ·simp only [Act.put, List.setIfInBounds_toArray, List.set_cons_zero, List.set_cons_succ, i64_w, i32_w, IntKind.wrap_u8, IntKind.wrap_u32]
                    rfl
                   refine one_ (i := 9) (N := some 63) (zb 12 1023) rfl rfl (one_of HT_.out (by kernel_rfl)) (by decide) (fun K hK => ?_)
                   refine Kd.R_lit_step (Kd.int .u8) _ 5 ?hg (N := 63) ?hd (xs := ([92, 117, 48, 48, bt (⟨#[48, 49, 50, 51, 52, 53, 54, 55, 56, 57, 97, 98, 99, 100, 101, 102]⟩ : ByteArray) (bd), bt (⟨#[48, 49, 50, 51, 52, 53, 54, 55, 56, 57, 97, 98, 99, 100, 101, 102]⟩ : ByteArray) (bg)] : List Int)) (inner := [.int .u8 92, .int .u8 117, .int .u8 48, .int .u8 48, .int .u8 (bt (⟨#[48, 49, 50, 51, 52, 53, 54, 55, 56, 57, 97, 98, 99, 100, 101, 102]⟩ : ByteArray) (bd)), .int .u8 (bt (⟨#[48, 49, 50, 51, 52, 53, 54, 55, 56, 57, 97, 98, 99, 100, 101, 102]⟩ : ByteArray) (bg))]) (ok := fun _ => True) (okp := fun _ => True) ?hr ?hp (fun _ hk => hk) trivial (Below.refl _ _) (Nat.le_refl _) (by simp) ?_; (case hd => rfl); (case hg => rfl); (case hr => first | (go_simp; done) | (go_simp; rfl)); (case hp => exact (Reps.one (show Kd.M (Kd.int .u8) _ _ _ 92 [.int .u8 92] from rfl) (Reps.one (show Kd.M (Kd.int .u8) _ _ _ 117 [.int .u8 117] from rfl) (Reps.one (show Kd.M (Kd.int .u8) _ _ _ 48 [.int .u8 48] from rfl) (Reps.one (show Kd.M (Kd.int .u8) _ _ _ 48 [.int .u8 48] from rfl) (Reps.one (show Kd.M (Kd.int .u8) _ _ _ (bt (⟨#[48, 49, 50, 51, 52, 53, 54, 55, 56, 57, 97, 98, 99, 100, 101, 102]⟩ : ByteArray) (bd)) [.int .u8 (bt (⟨#[48, 49, 50, 51, 52, 53, 54, 55, 56, 57, 97, 98, 99, 100, 101, 102]⟩ : ByteArray) (bd))] from rfl) (Reps.one (show Kd.M (Kd.int .u8) _ _ _ (bt (⟨#[48, 49, 50, 51, 52, 53, 54, 55, 56, 57, 97, 98, 99, 100, 101, 102]⟩ : ByteArray) (bg)) [.int .u8 (bt (⟨#[48, 49, 50, 51, 52, 53, 54, 55, 56, 57, 97, 98, 99, 100, 101, 102]⟩ : ByteArray) (bg))] from rfl) (Reps.none _ _))))))))
                   intro v144 gP cm hb hg_ hnew_
                   clear hg_ hnew_
                   (first | rw [← cD.out] at cm | (simp only [Int.reduceToNat] at cm; rw [← cD.out] at cm))
                   have bH := zam (Kd.R_lower (Kd.R_new' cm (Kd.R_lt (zkr HO_4.out))) (below_size (zbl HB.out))); replace HO_4 := zam (Kd.R_elder' (zkr HO_4.out) (Kd.R_base cm) hb); replace HB := zam (below_step (zbl HB.out) hb)
                   clear hb cm
                   obtain ⟨fV, fW, eo59⟩ := Kd.R_slice bH.out
                   (first | subst eo59 | (injection eo59 with f1_ f2_ f3_; have f4_ := f1_.symm; have f5_ := f3_.symm; clear f1_ f2_ f3_; subst f4_; subst f5_))
                   refine hK.out _ _ trivial (fun hHeld => ?_)
                   clear hK K
                   refine norm_ (a' := ?_) ?_ ?_
                   rotate_left
                   ·show Act.put _ (some 63) _ = _
                    simp only [Act.put, List.setIfInBounds_toArray, List.set_cons_zero, List.set_cons_succ, i64_w, i32_w, IntKind.wrap_u8, IntKind.wrap_u32]
                    rfl
                   refine one_ (i := 10) (N := some 64) (zb 12 2047) rfl rfl (one_of HT_.out (by kernel_rfl)) (by decide) (fun K hK => ?_)
                   refine Kd.R_append_rows_step (Kd.int .u8) (w0 := w) w.heap.size (by rfl) (.tmp 54) (.tmp 63) 25 5 (.int .u8 0) 1 rfl Tryz.underlying25 info5 rfl (by decide) (by omega) u4 bb bf _ _ _ (fun k_ => some k_ ≠ (.slice fV bf.length fW : Value).ownBlock) (fun _ => False) rfl rfl ?aO ?aR (fun _ _ h => h) (fun _ h => h.elim) ?aF ?aB ?aS ?aL ?_
                   (case aR => repeat (first | exact (Kd.R_reads' bH.out).2.2 | (with_reducible refine Kd.C_alloc ?_ _) | (with_reducible refine Kd.C_drewN ?_ _) | (with_reducible refine Kd.C_drew ?_)))
                   (case aB => exact (zbl HB.out))
                   (case aF => exact (fun k_ hk => Kd.fresh' (Kd.R_lt (zkr bH.out)) k_ hk))
                   (case aO => exact (by refine zkr ?_; exact Kd.R_mono HO_4.out (fun _ hk => hk.2)))
                   (case aS => exact (below_size (zbl HB.out)))
                   (case aL => have := dJ.out; omega)
                   intro v147 gQ ho hb hg hat
                   rw [← dK.out] at ho
                   have dL := zam (ho); replace bH := zam (Kd.R_after (ok := (fun _ => True)) (zkr bH.out) hg hat); replace HB := zam (hb); clear HO_4
                   clear ho hb hg hat
                   refine hK.out _ _ trivial (fun hHeld => ?_)
                   clear hK K
                   refine norm_ (a' := ?_) ?_ ?_
                   rotate_left
                   ·show Act.put _ (some 64) _ = _
                    simp only [Act.put, List.setIfInBounds_toArray, List.set_cons_zero, List.set_cons_succ, i64_w, i32_w, IntKind.wrap_u8, IntKind.wrap_u32]
                    rfl
                   refine zpv (i := 11) (N := some 4) HT_.out (zb 12 4095) rfl rfl ?_
                   refine done_ (done_of HT_.out (by kernel_rfl)) ?_
                   try go_wp2
                   go_roundg kj6
                   case measure => have := HK1.out; have := bJ.out; omega
                   case rel => exact ⟨(fT), (wrap64 (bc + 1)), zrs, H', ⟨zlo2 HK1.out bJ.out⟩, ⟨by refine zkr ?_; exact Kd.R_mono dL.out (fun _ hk => trivial)⟩, ⟨zbl HB.out⟩⟩
                  ·rw [if_neg fp] at H
                   exact absurd H (by simp)
                 ·rw [if_neg fn] at H
                  exact absurd H (by simp)
                ·rw [if_neg fm] at H
                 exact absurd H (by simp)
               ·rw [if_neg fk] at H
                exact absurd H (by simp)
              ·rw [if_neg fj] at H
               exact absurd H (by simp)
             ·rw [if_neg cR] at H
              have dH := decide_eq_false cR
              clear cR
              by_cases fq : bb.length < 140737488355328
              ·rw [if_pos fq] at H
               have dM := zam fq
               clear fq
               obtain ⟨fX, bX⟩ : ∃ y_ : List Int, y_ = (bb ++ [(bt a0 bc)]) := ⟨_, rfl⟩
               first | rw [Option.bind_some, ← bX] at H | rw [← bX] at H
               have dN := zam bX
               clear bX
               have H' := zam H
               clear H
               go_wp2_with (first | ((with_reducible refine gate_builtin (b := .append) (xs := #[.tmp 65, .tmp 67]) rfl ?_); at_builtin; refine Kd.R_append (Kd.int .u8) (w0 := w) w.heap.size rfl (.tmp 65) (.tmp 67) 25 5 (.int .u8 0) 1 rfl Tryz.underlying25 info5 rfl (by decide) (by omega) u4 bb (bt a0 bc) [.int .u8 (bt a0 bc)] (fun _ => True) (fun _ => False) rfl rfl ?aP (fun _ hk => hk.elim) ?aF ?aO ?aB ?aS ?aL ?_; (case aP => exact rfl); (case aB => exact (zbl HB.out)); (case aF => exact (fun _ _ => trivial)); (case aO => exact (zkr HO_4.out)); (case aS => exact (below_size (zbl HB.out))); (case aL => have := dM.out; omega); intro v150 gR ho hb hg hat; rw [← dN.out] at ho; have dP := zam (ho); replace HB := zam (hb); clear HO_4; clear ho hb hg hat))
               go_roundg kj6
               case measure => have := HK1.out; have := bJ.out; omega
               case rel => exact ⟨(fX), (wrap64 (bc + 1)), zrs, H', ⟨zlo2 HK1.out bJ.out⟩, ⟨zkr dP.out⟩, ⟨zbl HB.out⟩⟩
              ·rw [if_neg fq] at H
               exact absurd H (by simp)
    ·rw [if_neg c5] at H
     exact absurd H (by simp)
   ·rw [if_neg c4] at H
    have cK := decide_eq_false c4
    clear c4
    by_cases fr : bb.length < 140737488355328
    ·rw [if_pos fr] at H
     have dQ := zam fr
     clear fr
     obtain ⟨gp, bY⟩ : ∃ y_ : List Int, y_ = (bb ++ [34]) := ⟨_, rfl⟩
     first | rw [Option.bind_some, ← bY] at H | rw [← bY] at H
     have dR := zam bY
     clear bY
     obtain rfl := Option.some.inj H
     go_wp2_with (first | ((with_reducible refine gate_builtin (b := .append) (xs := #[.tmp 69, .tmp 70]) rfl ?_); at_builtin; refine Kd.R_append (Kd.int .u8) (w0 := w) w.heap.size rfl (.tmp 69) (.tmp 70) 25 5 (.int .u8 0) 1 rfl Tryz.underlying25 info5 rfl (by decide) (by omega) u4 bb 34 [.int .u8 34] (fun _ => True) (fun _ => False) rfl rfl ?aP (fun _ hk => hk.elim) ?aF ?aO ?aB ?aS ?aL ?_; (case aP => exact rfl); (case aB => exact (zbl HB.out)); (case aF => exact (fun _ _ => trivial)); (case aO => exact (zkr HO_4.out)); (case aS => exact (below_size (zbl HB.out))); (case aL => have := dQ.out; omega); intro v105 gS ho hb hg hat; rw [← dR.out] at ho; have dS := zam (ho); replace HB := zam (hb); clear HO_4; clear ho hb hg hat; have hcv64 := own_string (P := Tryz.prog) Tryz.underlying25 Tryz.underlying5 Tryz.underlying9 (Kd.own_of_R dS.out)))
     go_ret
     exact ⟨zer, zbl HB.out⟩
    ·rw [if_neg fr] at H
     exact absurd H (by simp)
def spec_l1At.f (a0 : ByteArray) (a1 : Int) (a2 : Int) : Option (Bool) := if a1 < (a0.size : Int) then (if 0 ≤ a1 then (some ((bt a0 a1) == a2)) else (none)) else (some false)
set_option maxHeartbeats 8000000 in
set_option maxRecDepth 100000 in
theorem spec_l1At.calls (a0 : ByteArray) (a1 : Int) (a2 : Int) (r : Bool) (w : World) (h : spec_l1At.f a0 a1 a2 = some r) :
  Calls Tryz.prog 37 #[.string a0, .int .i64 a1, .int .u8 a2] w fun e w' => e = .returned (.bool r) ∧ Drawn0 w w' := by
 have H : (if a1 < (a0.size : Int) then (if 0 ≤ a1 then (some ((bt a0 a1) == a2)) else (none)) else (some false)) = some r := h
 clear h
 by_cases c4 : a1 < (a0.size : Int)
 ·rw [if_pos c4] at H
  have cK := decide_eq_true c4
  clear c4
  by_cases c5 : 0 ≤ a1
  ·rw [if_pos c5] at H
   have ft := decide_eq_true c5
   clear c5
   obtain rfl := Option.some.inj H
   have p6 := zet (0 ≤ (a1 : Int))
   have q6 := zet (a1 < (a0.size : Int))
   have gh := bt_at a0 a1
   go_enter Tryz.func37, Tryz.ntmps37
   go_wp2
   go_ret
   exact ⟨by first | rfl | (simp; done) | (simp [*]; done), by repeat (first | exact Drawn0.refl _ | apply Drawn0.step)⟩
  ·rw [if_neg c5] at H
   exact absurd H (by simp)
 ·rw [if_neg c4] at H
  have cK := decide_eq_false c4
  clear c4
  obtain rfl := Option.some.inj H
  go_enter Tryz.func37, Tryz.ntmps37
  go_wp2
  go_ret
  exact ⟨by first | rfl | (simp; done) | (simp [*]; done), by repeat (first | exact Drawn0.refl _ | apply Drawn0.step)⟩
def spec_l1Utf8.f (a0 : Int) : Option (ByteArray) := if a0 < 128 then (some (strOfNums (([(a0) % 256] : List Int)))) else (if a0 < 2048 then (some (strOfNums (([(wrap64 (192 + (wrap64 (Int.tdiv a0 64)))) % 256, (wrap64 (128 + (Int.tmod a0 64))) % 256] : List Int)))) else (if a0 < 65536 then (some (strOfNums (([(wrap64 (224 + (wrap64 (Int.tdiv a0 4096)))) % 256, (wrap64 (128 + (Int.tmod (wrap64 (Int.tdiv a0 64)) 64))) % 256, (wrap64 (128 + (Int.tmod a0 64))) % 256] : List Int)))) else (some (strOfNums (([(wrap64 (240 + (wrap64 (Int.tdiv a0 262144)))) % 256, (wrap64 (128 + (Int.tmod (wrap64 (Int.tdiv a0 4096)) 64))) % 256, (wrap64 (128 + (Int.tmod (wrap64 (Int.tdiv a0 64)) 64))) % 256, (wrap64 (128 + (Int.tmod a0 64))) % 256] : List Int))))))
set_option maxHeartbeats 8000000 in
set_option maxRecDepth 100000 in
theorem spec_l1Utf8.calls (a0 : Int) (r : ByteArray) (w : World) (h : spec_l1Utf8.f a0 = some r) :
  Calls Tryz.prog 75 #[.int .i64 a0] w fun e w' => e = .returned (.string r) ∧ Below w.heap.size w w' := by
 have HB := zam (Below.refl w.heap.size w)
 have H : (if a0 < 128 then (some (strOfNums (([(a0) % 256] : List Int)))) else (if a0 < 2048 then (some (strOfNums (([(wrap64 (192 + (wrap64 (Int.tdiv a0 64)))) % 256, (wrap64 (128 + (Int.tmod a0 64))) % 256] : List Int)))) else (if a0 < 65536 then (some (strOfNums (([(wrap64 (224 + (wrap64 (Int.tdiv a0 4096)))) % 256, (wrap64 (128 + (Int.tmod (wrap64 (Int.tdiv a0 64)) 64))) % 256, (wrap64 (128 + (Int.tmod a0 64))) % 256] : List Int)))) else (some (strOfNums (([(wrap64 (240 + (wrap64 (Int.tdiv a0 262144)))) % 256, (wrap64 (128 + (Int.tmod (wrap64 (Int.tdiv a0 4096)) 64))) % 256, (wrap64 (128 + (Int.tmod (wrap64 (Int.tdiv a0 64)) 64))) % 256, (wrap64 (128 + (Int.tmod a0 64))) % 256] : List Int))))))) = some r := h
 clear h
 by_cases c2 : a0 < 128
 ·rw [if_pos c2] at H
  have fY := decide_eq_true c2
  clear c2
  obtain ⟨gq, bZ⟩ : ∃ y_ : List Int, y_ = (([(a0) % 256] : List Int)) := ⟨_, rfl⟩
  first | rw [Option.bind_some, ← bZ] at H | rw [← bZ] at H
  have cF := zam bZ
  clear bZ
  obtain rfl := Option.some.inj H
  go_enter Tryz.func75, Tryz.ntmps75
  go_wp2_with (first | ((with_reducible refine gate_dst (N := 7) rfl ?_); refine Kd.R_lit (Kd.int .u8) _ 5 ?hg (N := 7) ?hd (xs := ([(a0) % 256] : List Int)) (inner := [.int .u8 ((a0) % 256)]) (ok := fun _ => True) (okp := fun _ => True) ?hr ?hp (fun _ hk => hk) trivial (Below.refl _ _) (Nat.le_refl _) (by simp) ?_; (case hd => rfl); (case hg => rfl); (case hr => first | (go_simp; done) | (go_simp; rfl)); (case hp => exact (Reps.one (show Kd.M (Kd.int .u8) _ _ _ ((a0) % 256) [.int .u8 ((a0) % 256)] from rfl) (Reps.none _ _))); intro v157 w3 dT hb hg_ hnew_; clear hg_ hnew_; (first | rw [← cF.out] at dT | (simp only [Int.reduceToNat] at dT; rw [← cF.out] at dT)); have dV := zam (Kd.R_lower dT (below_size (zbl HB.out))); replace HB := zam (below_step (zbl HB.out) hb); clear hb dT; have hcv5 := own_string (P := Tryz.prog) Tryz.underlying25 Tryz.underlying5 Tryz.underlying9 (Kd.own_of_R dV.out)))
  go_ret
  exact ⟨zer, zbl HB.out⟩
 ·rw [if_neg c2] at H
  have fY := decide_eq_false c2
  clear c2
  by_cases c6 : a0 < 2048
  ·rw [if_pos c6] at H
   have fZ := decide_eq_true c6
   clear c6
   obtain ⟨gr, cb⟩ : ∃ y_ : List Int, y_ = (([(wrap64 (192 + (wrap64 (Int.tdiv a0 64)))) % 256, (wrap64 (128 + (Int.tmod a0 64))) % 256] : List Int)) := ⟨_, rfl⟩
   first | rw [Option.bind_some, ← cb] at H | rw [← cb] at H
   have cG := zam cb
   clear cb
   obtain rfl := Option.some.inj H
   go_enter Tryz.func75, Tryz.ntmps75
   go_wp2_with (first | ((with_reducible refine gate_dst (N := 19) rfl ?_); refine Kd.R_lit (Kd.int .u8) _ 5 ?hg (N := 19) ?hd (xs := ([(wrap64 (192 + (wrap64 (Int.tdiv a0 64)))) % 256, (wrap64 (128 + (Int.tmod a0 64))) % 256] : List Int)) (inner := [.int .u8 ((wrap64 (192 + (wrap64 (Int.tdiv a0 64)))) % 256), .int .u8 ((wrap64 (128 + (Int.tmod a0 64))) % 256)]) (ok := fun _ => True) (okp := fun _ => True) ?hr ?hp (fun _ hk => hk) trivial (Below.refl _ _) (Nat.le_refl _) (by simp) ?_; (case hd => rfl); (case hg => rfl); (case hr => first | (go_simp; done) | (go_simp; rfl)); (case hp => exact (Reps.one (show Kd.M (Kd.int .u8) _ _ _ ((wrap64 (192 + (wrap64 (Int.tdiv a0 64)))) % 256) [.int .u8 ((wrap64 (192 + (wrap64 (Int.tdiv a0 64)))) % 256)] from rfl) (Reps.one (show Kd.M (Kd.int .u8) _ _ _ ((wrap64 (128 + (Int.tmod a0 64))) % 256) [.int .u8 ((wrap64 (128 + (Int.tmod a0 64))) % 256)] from rfl) (Reps.none _ _)))); intro v160 w7 dW hb hg_ hnew_; clear hg_ hnew_; (first | rw [← cG.out] at dW | (simp only [Int.reduceToNat] at dW; rw [← cG.out] at dW)); have dX := zam (Kd.R_lower dW (below_size (zbl HB.out))); replace HB := zam (below_step (zbl HB.out) hb); clear hb dW; have hcv9 := own_string (P := Tryz.prog) Tryz.underlying25 Tryz.underlying5 Tryz.underlying9 (Kd.own_of_R dX.out)))
   go_ret
   exact ⟨zer, zbl HB.out⟩
  ·rw [if_neg c6] at H
   have fZ := decide_eq_false c6
   clear c6
   by_cases cp : a0 < 65536
   ·rw [if_pos cp] at H
    have dY := decide_eq_true cp
    clear cp
    obtain ⟨gs, cc⟩ : ∃ y_ : List Int, y_ = (([(wrap64 (224 + (wrap64 (Int.tdiv a0 4096)))) % 256, (wrap64 (128 + (Int.tmod (wrap64 (Int.tdiv a0 64)) 64))) % 256, (wrap64 (128 + (Int.tmod a0 64))) % 256] : List Int)) := ⟨_, rfl⟩
    first | rw [Option.bind_some, ← cc] at H | rw [← cc] at H
    have cH := zam cc
    clear cc
    obtain rfl := Option.some.inj H
    go_enter Tryz.func75, Tryz.ntmps75
    go_wp2_with (first | ((with_reducible refine gate_dst (N := 36) rfl ?_); refine Kd.R_lit (Kd.int .u8) _ 5 ?hg (N := 36) ?hd (xs := ([(wrap64 (224 + (wrap64 (Int.tdiv a0 4096)))) % 256, (wrap64 (128 + (Int.tmod (wrap64 (Int.tdiv a0 64)) 64))) % 256, (wrap64 (128 + (Int.tmod a0 64))) % 256] : List Int)) (inner := [.int .u8 ((wrap64 (224 + (wrap64 (Int.tdiv a0 4096)))) % 256), .int .u8 ((wrap64 (128 + (Int.tmod (wrap64 (Int.tdiv a0 64)) 64))) % 256), .int .u8 ((wrap64 (128 + (Int.tmod a0 64))) % 256)]) (ok := fun _ => True) (okp := fun _ => True) ?hr ?hp (fun _ hk => hk) trivial (Below.refl _ _) (Nat.le_refl _) (by simp) ?_; (case hd => rfl); (case hg => rfl); (case hr => first | (go_simp; done) | (go_simp; rfl)); (case hp => exact (Reps.one (show Kd.M (Kd.int .u8) _ _ _ ((wrap64 (224 + (wrap64 (Int.tdiv a0 4096)))) % 256) [.int .u8 ((wrap64 (224 + (wrap64 (Int.tdiv a0 4096)))) % 256)] from rfl) (Reps.one (show Kd.M (Kd.int .u8) _ _ _ ((wrap64 (128 + (Int.tmod (wrap64 (Int.tdiv a0 64)) 64))) % 256) [.int .u8 ((wrap64 (128 + (Int.tmod (wrap64 (Int.tdiv a0 64)) 64))) % 256)] from rfl) (Reps.one (show Kd.M (Kd.int .u8) _ _ _ ((wrap64 (128 + (Int.tmod a0 64))) % 256) [.int .u8 ((wrap64 (128 + (Int.tmod a0 64))) % 256)] from rfl) (Reps.none _ _))))); intro v163 gj bh hb hg_ hnew_; clear hg_ hnew_; (first | rw [← cH.out] at bh | (simp only [Int.reduceToNat] at bh; rw [← cH.out] at bh)); have dZ := zam (Kd.R_lower bh (below_size (zbl HB.out))); replace HB := zam (below_step (zbl HB.out) hb); clear hb bh; have hcv13 := own_string (P := Tryz.prog) Tryz.underlying25 Tryz.underlying5 Tryz.underlying9 (Kd.own_of_R dZ.out)))
    go_ret
    exact ⟨zer, zbl HB.out⟩
   ·rw [if_neg cp] at H
    have dY := decide_eq_false cp
    clear cp
    obtain ⟨gt, cd⟩ : ∃ y_ : List Int, y_ = (([(wrap64 (240 + (wrap64 (Int.tdiv a0 262144)))) % 256, (wrap64 (128 + (Int.tmod (wrap64 (Int.tdiv a0 4096)) 64))) % 256, (wrap64 (128 + (Int.tmod (wrap64 (Int.tdiv a0 64)) 64))) % 256, (wrap64 (128 + (Int.tmod a0 64))) % 256] : List Int)) := ⟨_, rfl⟩
    first | rw [Option.bind_some, ← cd] at H | rw [← cd] at H
    have cJ := zam cd
    clear cd
    obtain rfl := Option.some.inj H
    go_enter Tryz.func75, Tryz.ntmps75
    go_wp2_with (first | ((with_reducible refine gate_dst (N := 56) rfl ?_); refine Kd.R_lit (Kd.int .u8) _ 5 ?hg (N := 56) ?hd (xs := ([(wrap64 (240 + (wrap64 (Int.tdiv a0 262144)))) % 256, (wrap64 (128 + (Int.tmod (wrap64 (Int.tdiv a0 4096)) 64))) % 256, (wrap64 (128 + (Int.tmod (wrap64 (Int.tdiv a0 64)) 64))) % 256, (wrap64 (128 + (Int.tmod a0 64))) % 256] : List Int)) (inner := [.int .u8 ((wrap64 (240 + (wrap64 (Int.tdiv a0 262144)))) % 256), .int .u8 ((wrap64 (128 + (Int.tmod (wrap64 (Int.tdiv a0 4096)) 64))) % 256), .int .u8 ((wrap64 (128 + (Int.tmod (wrap64 (Int.tdiv a0 64)) 64))) % 256), .int .u8 ((wrap64 (128 + (Int.tmod a0 64))) % 256)]) (ok := fun _ => True) (okp := fun _ => True) ?hr ?hp (fun _ hk => hk) trivial (Below.refl _ _) (Nat.le_refl _) (by simp) ?_; (case hd => rfl); (case hg => rfl); (case hr => first | (go_simp; done) | (go_simp; rfl)); (case hp => exact (Reps.one (show Kd.M (Kd.int .u8) _ _ _ ((wrap64 (240 + (wrap64 (Int.tdiv a0 262144)))) % 256) [.int .u8 ((wrap64 (240 + (wrap64 (Int.tdiv a0 262144)))) % 256)] from rfl) (Reps.one (show Kd.M (Kd.int .u8) _ _ _ ((wrap64 (128 + (Int.tmod (wrap64 (Int.tdiv a0 4096)) 64))) % 256) [.int .u8 ((wrap64 (128 + (Int.tmod (wrap64 (Int.tdiv a0 4096)) 64))) % 256)] from rfl) (Reps.one (show Kd.M (Kd.int .u8) _ _ _ ((wrap64 (128 + (Int.tmod (wrap64 (Int.tdiv a0 64)) 64))) % 256) [.int .u8 ((wrap64 (128 + (Int.tmod (wrap64 (Int.tdiv a0 64)) 64))) % 256)] from rfl) (Reps.one (show Kd.M (Kd.int .u8) _ _ _ ((wrap64 (128 + (Int.tmod a0 64))) % 256) [.int .u8 ((wrap64 (128 + (Int.tmod a0 64))) % 256)] from rfl) (Reps.none _ _)))))); intro v166 gT cq hb hg_ hnew_; clear hg_ hnew_; (first | rw [← cJ.out] at cq | (simp only [Int.reduceToNat] at cq; rw [← cJ.out] at cq)); have fb := zam (Kd.R_lower cq (below_size (zbl HB.out))); replace HB := zam (below_step (zbl HB.out) hb); clear hb cq; have hcv16 := own_string (P := Tryz.prog) Tryz.underlying25 Tryz.underlying5 Tryz.underlying9 (Kd.own_of_R fb.out)))
    go_ret
    exact ⟨zer, zbl HB.out⟩
end Go.Proofs.YtbonodglnilkfaaGreatDoor.PJs
