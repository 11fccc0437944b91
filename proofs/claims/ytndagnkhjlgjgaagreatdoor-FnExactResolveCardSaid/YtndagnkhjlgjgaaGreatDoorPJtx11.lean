-- Printed
import Derived.Test.YtndagnkhjlgjgaaGreatDoorReadF
namespace Go.Proofs.YtndagnkhjlgjgaaGreatDoor.PJt
open Go.RowKit Own Xtra YtndagnkhjlgjgaaGreatDoorW.PrintWords YtndagnkhjlgjgaaGreatDoorW.PrintLast YtndagnkhjlgjgaaGreatDoorW.PrintMore
attribute [local go_sem] max2_int min2_int max_two min_two max_three min_three max_four min_four
set_option linter.unusedVariables false
set_option linter.unusedSimpArgs false
def impl_quoted.l0 : Nat → List Int → ByteArray → Int → Int → Option (List Int)
 | 0, _, _, _, _ => none
 | k + 1, x0, x1, ch, bn => if bn < ch then (if 0 ≤ bn then (if bn < (x1.size : Int) then ((strings_IndexByte.f (⟨#[34, 92, 8, 9, 10, 12, 13]⟩ : ByteArray) (bt x1 bn)).bind fun bc => (if bc ≥ 0 then (if 0 ≤ bc then (if bc < 7 then ((some (([92, bt (⟨#[34, 92, 98, 116, 110, 102, 114]⟩ : ByteArray) bc] : List Int) : List Int)).bind fun bp => (if x0.length + bp.length < 140737488355328 then (impl_quoted.l0 k (x0 ++ bp) x1 ch (wrap64 (bn + 1))) else (none))) else (none)) else (none)) else (if (bt x1 bn) < 32 then (if x0.length + 4 < 140737488355328 then ((some (x0 ++ bytesOf (⟨#[92, 117, 48, 48]⟩ : ByteArray) : List Int)).bind fun bj => (if 0 ≤ ((bt x1 bn) / 16) then (if ((bt x1 bn) / 16) < 16 then (if 0 ≤ (Go.bits .and .u8 (bt x1 bn) 15) then (if (Go.bits .and .u8 (bt x1 bn) 15) < 16 then ((some (([bt (⟨#[48, 49, 50, 51, 52, 53, 54, 55, 56, 57, 97, 98, 99, 100, 101, 102]⟩ : ByteArray) ((bt x1 bn) / 16), bt (⟨#[48, 49, 50, 51, 52, 53, 54, 55, 56, 57, 97, 98, 99, 100, 101, 102]⟩ : ByteArray) (Go.bits .and .u8 (bt x1 bn) 15)] : List Int) : List Int)).bind fun bh => (if bj.length + bh.length < 140737488355328 then (impl_quoted.l0 k (bj ++ bh) x1 ch (wrap64 (bn + 1))) else (none))) else (none)) else (none)) else (none)) else (none))) else (none)) else (if x0.length < 140737488355328 then (impl_quoted.l0 k (x0 ++ [bt x1 bn]) x1 ch (wrap64 (bn + 1))) else (none))))) else (none)) else (none)) else (if x0.length < 140737488355328 then (some (x0 ++ [34])) else (none))
def impl_quoted.f (k : Nat) (l0 : List Int) (a1 : ByteArray) : Option (List Int) := if l0.length < 140737488355328 then (impl_quoted.l0 k (l0 ++ [34]) a1 (a1.size : Int) 0) else (none)
def impl_quoted.T11 : Bool × List (List Nat × List Nat) := (true, [([], []), ([], []), ([1], [1]), ([2], [2]), ([], []), ([4], [4]), ([5], [5]), ([3, 6], [3, 6]), ([0, 7], [0, 7]), ([8, 8, 0, 1, 2, 3, 4, 5, 6, 7, 8], [0, 8])])
def impl_quoted.B11 : List Nat := [0, 0, 2, 6, 0, 16, 48, 126, 255, 511]
theorem impl_quoted.tab11 : rtab .any (opsOf Tryz.f110 11) = impl_quoted.T11 := by kernel_rfl
theorem impl_quoted.bits11 : waitsOk impl_quoted.T11.2 impl_quoted.B11 = true := by kernel_rfl
set_option maxHeartbeats 8000000 in
set_option maxRecDepth 100000 in
theorem impl_quoted.calls (k : Nat) (P0_ : Nat → Prop) (u9000_ : Value) (l0 : List Int) (a1 : ByteArray) (r : List Int) (w0 w : World) (hB : Below w0.heap.size w0 w) (cY : Kd.R (Kd.int .u8) 5 w w0.heap.size P0_ u9000_ l0) (h : impl_quoted.f k l0 a1 = some r) :
  Calls Tryz.prog 110 #[u9000_, .string a1] w fun e w' => ∃ v0_ : Value, e = .returned (v0_) ∧ Kd.R (Kd.int .u8) 5 w' w0.heap.size (fun k_ => (P0_ k_ ∨ w.heap.size ≤ k_)) v0_ r ∧ Below w0.heap.size w0 w' ∧ Kept w w' (fun k_ => P0_ k_) := by
 have cy := zam (show Kd.R (Kd.int .u8) 5 w w0.heap.size (fun k_ => (P0_ k_ ∨ w.heap.size ≤ k_)) u9000_ l0 from Kd.R_mono cY (fun k_ hk => (.inl hk))); have HK := zam (Kept.refl w (fun k_ => P0_ k_)); have HW0 := zam hB.size; have HB := zam hB; clear hB; have H : (if l0.length < 140737488355328 then (impl_quoted.l0 k (l0 ++ [34]) a1 (a1.size : Int) 0) else (none)) = some r := h; clear h
 by_cases c3 : l0.length < 140737488355328
 ·rw [if_pos c3] at H
  have cz := zam c3; clear c3
  obtain ⟨cB, bq⟩ : ∃ y_ : List Int, y_ = (l0 ++ [34]) := ⟨_, rfl⟩
  first | rw [Option.bind_some, ← bq] at H | rw [← bq] at H
  have bL := zam bq; clear bq; have H' := zam H; clear H
  go_enter Tryz.func110, Tryz.ntmps110
  go_wp2_with (first | ((with_reducible refine gate_builtin (b := .append) (xs := #[.tmp 8, .tmp 9]) rfl ?_); at_builtin; refine Kd.R_append (Kd.int .u8) (w0 := w0) w0.heap.size rfl (.tmp 8) (.tmp 9) 44 5 (.int .u8 0) 1 rfl Tryz.underlying44 info5 rfl (by decide) (by omega) u9000_ l0 34 [.int .u8 34] (fun k_ => (P0_ k_ ∨ w.heap.size ≤ k_)) (fun _ => False) rfl rfl ?aP (fun _ hk => hk.elim) ?aF ?aO ?aB ?aS ?aL ?_; (case aP => exact rfl); (case aB => exact (zbl HB.out)); (case aF => exact (fun k_ hk => (.inr (Nat.le_trans (by first | exact HK.out.1 | exact (show Kept w _ (fun k_ => P0_ k_) from by repeat (first | (with_reducible first | exact HK.out | apply Kept.alloc | apply Kept.drewN | apply Kept.drew) | exact HK.out)).1) hk)))); (case aO => exact (zkr cy.out)); (case aS => exact (below_size (zbl HB.out))); (case aL => have := cz.out; omega); intro v303 w4 ho hb hg hat; rw [← bL.out] at ho; have bM := zam (ho); replace HB := zam (hb); replace HK := zam (Kept.of_grown (S := (fun k_ => P0_ k_)) hg (by repeat (first | (with_reducible first | exact HK.out | apply Kept.alloc | apply Kept.drewN | apply Kept.drew) | exact HK.out)) (fun k_ e_ => (cy.out.1 k_ e_))); clear cy; clear ho hb hg hat))
  (try simp only [Act.put, List.setIfInBounds_toArray, List.set_cons_zero, List.set_cons_succ])
  go_loopg [0, 13] k (fun kq v0 v13 w' => ∃ (bd : List Int) (bb : Int), v13 = .int .i64 bb ∧ Aside0 (impl_quoted.l0 kq bd a1 (a1.size : Int) bb = some r) ∧ Aside0 (kq ≤ k) ∧ Aside0 (Kd.R (Kd.int .u8) 5 w' w0.heap.size (fun k_ => (P0_ k_ ∨ w.heap.size ≤ k_)) v0 bd) ∧ Aside0 (Kept w w' (fun k_ => P0_ k_)) ∧ Aside0 (Below w0.heap.size w0 w'))
  case atStart => exact ⟨(cB), (0), zrs, H', ⟨Nat.le_refl _⟩, ⟨zkr bM.out⟩, ⟨by repeat (first | (with_reducible first | exact HK.out | apply Kept.alloc | apply Kept.drewN | apply Kept.drew) | exact HK.out)⟩, ⟨zbl HB.out⟩⟩
  case round =>
   clear H'; obtain ⟨bd, bb, rfl, HA, HK1, HO_0, HK, HB⟩ := hrel
   cases gk with
   | zero => exact absurd HA.out (by simp [impl_quoted.l0])
   | succ k1 =>
    have H := HA.out; clear HA
    simp only [impl_quoted.l0] at H
    by_cases c5 : bb < (a1.size : Int)
    ·rw [if_pos c5] at H
     have cC := decide_eq_true c5; clear c5
     by_cases c6 : 0 ≤ bb
     ·rw [if_pos c6] at H
      have cZ := decide_eq_true c6; clear c6
      by_cases c7 : bb < (a1.size : Int)
      ·rw [if_pos c7] at H
       have db := decide_eq_true c7; clear c7; replace H := Option.bind_eq_some_iff.mp H; obtain ⟨bc, cM, H⟩ := H; have A9 := zam cM; clear cM
       by_cases bJ : bc ≥ 0
       ·rw [if_pos bJ] at H
        have bN := zge bJ; clear bJ
        by_cases cj : 0 ≤ bc
        ·rw [if_pos cj] at H
         have cN := decide_eq_true cj; clear cj
         by_cases ck : bc < 7
         ·rw [if_pos ck] at H
          have cP := decide_eq_true ck; clear ck
          obtain ⟨bp, br⟩ : ∃ y_ : List Int, y_ = (([92, bt (⟨#[34, 92, 98, 116, 110, 102, 114]⟩ : ByteArray) bc] : List Int)) := ⟨_, rfl⟩
          first | rw [Option.bind_some, ← br] at H | rw [← br] at H
          have bG := zam br; clear br
          by_cases cm : bd.length + bp.length < 140737488355328
          ·rw [if_pos cm] at H
           have bP := zam cm; clear cm
           obtain ⟨cD, bs⟩ : ∃ y_ : List Int, y_ = (bd ++ bp) := ⟨_, rfl⟩
           first | rw [Option.bind_some, ← bs] at H | rw [← bs] at H
           have bQ := zam bs; clear bs; have H' := zam H; clear H; have p8 := zet (0 ≤ (bb : Int)); have q8 := zet (bb < (a1.size : Int)); have cQ := bt_at a1 bb
           go_wp2_with (first | ((with_reducible refine gate_callee (f := 134) rfl ?_); refine goesL_ (some 20) rfl rfl Tryz.func134 (by kernel_rfl) rfl #[.string (⟨#[34, 92, 8, 9, 10, 12, 13]⟩ : ByteArray), .int .u8 (bt a1 bb)] rfl zar ?_; (with_reducible refine (strings_IndexByte.calls (⟨#[34, 92, 8, 9, 10, 12, 13]⟩ : ByteArray) (bt a1 bb) bc _ A9.out).mono ?_); rintro e w' ⟨rfl, ⟨nd, rfl⟩⟩; refine ⟨_, rfl, ?_⟩; have cR : 0 ≤ (bc : Int) := of_decide_eq_true zas; have cS : bc < (7 : Int) := of_decide_eq_true zas; have dc := bt_at (⟨#[34, 92, 98, 116, 110, 102, 114]⟩ : ByteArray) bc; replace cR := eq_true cR; replace cS := eq_true cS) | ((with_reducible refine gate_dst (N := 26) rfl ?_); refine Kd.R_lit (Kd.int .u8) _ 5 ?hg (N := 26) ?hd (xs := ([92, bt (⟨#[34, 92, 98, 116, 110, 102, 114]⟩ : ByteArray) bc] : List Int)) (inner := [.int .u8 92, .int .u8 (bt (⟨#[34, 92, 98, 116, 110, 102, 114]⟩ : ByteArray) bc)]) (ok := fun _ => True) (okp := fun _ => True) ?hr ?hp (fun _ hk => hk) trivial (Below.refl _ _) (Nat.le_refl _) (by simp) ?_; (case hd => rfl); (case hg => rfl); (case hr => first | (go_simp; done) | (go_simp; rfl)); (case hp => exact (Reps.one (show Kd.M (Kd.int .u8) _ _ _ 92 [.int .u8 92] from rfl) (Reps.one (show Kd.M (Kd.int .u8) _ _ _ (bt (⟨#[34, 92, 98, 116, 110, 102, 114]⟩ : ByteArray) bc) [.int .u8 (bt (⟨#[34, 92, 98, 116, 110, 102, 114]⟩ : ByteArray) bc)] from rfl) (Reps.none _ _)))); intro v310 dj bC hb hg_ hnew_; clear hg_ hnew_; (first | rw [← bG.out] at bC | (simp only [Int.reduceToNat] at bC; rw [← bG.out] at bC)); have bk := zam (Kd.R_lower (Kd.R_new' (Kd.R_newM (M := fun k_ => (P0_ k_ ∨ w.heap.size ≤ k_)) bC (by first | exact HK.out.1 | exact (show Kept w _ (fun k_ => P0_ k_) from by repeat (first | (with_reducible first | exact HK.out | apply Kept.alloc | apply Kept.drewN | apply Kept.drew) | exact HK.out)).1) (fun k_ h_ => .inr h_)) (Kd.R_lt (zkr HO_0.out))) (below_size (zbl HB.out))); replace HO_0 := zam (Kd.R_elder' (zkr HO_0.out) (Kd.R_base bC) hb); replace HK := zam (Kept.below (S := (fun k_ => P0_ k_)) (by repeat (first | (with_reducible first | exact HK.out | apply Kept.alloc | apply Kept.drewN | apply Kept.drew) | exact HK.out)) hb); replace HB := zam (below_step (zbl HB.out) hb); clear hb bC; obtain ⟨cF, cG, eo18⟩ := Kd.R_slice bk.out; subst eo18) | ((with_reducible refine gate_builtin (b := .append) (xs := #[.tmp 23, .tmp 26]) rfl ?_); at_builtin; refine Kd.R_append_rows (Kd.int .u8) (w0 := w0) w0.heap.size rfl (.tmp 23) (.tmp 26) 44 5 (.int .u8 0) 1 rfl Tryz.underlying44 info5 rfl (by decide) (by omega) u0 bd bp _ _ _ (fun k_ => (P0_ k_ ∨ w.heap.size ≤ k_) ∧ some k_ ≠ (.slice cF bp.length cG : Value).ownBlock) (fun _ => False) rfl rfl ?aO ?aR (fun _ _ h => h) (fun _ h => h.elim) ?aF ?aB ?aS ?aL ?_; (case aR => repeat (first | exact (Kd.R_reads' bk.out).2.2 | (with_reducible refine Kd.C_alloc ?_ _) | (with_reducible refine Kd.C_drewN ?_ _) | (with_reducible refine Kd.C_drew ?_))); (case aB => exact (zbl HB.out)); (case aF => exact (fun k_ hk => ⟨(.inr (Nat.le_trans (by first | exact HK.out.1 | exact (show Kept w _ (fun k_ => P0_ k_) from by repeat (first | (with_reducible first | exact HK.out | apply Kept.alloc | apply Kept.drewN | apply Kept.drew) | exact HK.out)).1) hk)), Kd.fresh' (Kd.R_lt (zkr bk.out)) k_ hk⟩)); (case aO => exact (zkr HO_0.out)); (case aS => exact (below_size (zbl HB.out))); (case aL => have := bP.out; omega); intro v313 dk ho hb hg hat; rw [← bQ.out] at ho; have bR := zam (ho); replace bk := zam (Kd.R_after (ok := (fun k_ => (P0_ k_ ∨ w.heap.size ≤ k_))) (by refine zkr ?_; exact Kd.R_mono bk.out (fun _ hk => ⟨hk.1.1, hk.2⟩)) hg hat); replace HB := zam (hb); replace HK := zam (Kept.of_grown (S := (fun k_ => P0_ k_)) hg (by repeat (first | (with_reducible first | exact HK.out | apply Kept.alloc | apply Kept.drewN | apply Kept.drew) | exact HK.out)) (fun k_ e_ => (HO_0.out.1 k_ e_).1)); clear HO_0; clear ho hb hg hat))
           go_roundg k1
           case measure => have := HK1.out; omega
           case rel => exact ⟨(cD), (wrap64 (bb + 1)), zrs, H', ⟨zlo HK1.out⟩, ⟨by refine zkr ?_; exact Kd.R_mono bR.out (fun _ hk => hk.1)⟩, ⟨by repeat (first | (with_reducible first | exact HK.out | apply Kept.alloc | apply Kept.drewN | apply Kept.drew) | exact HK.out)⟩, ⟨zbl HB.out⟩⟩
          ·rw [if_neg cm] at H
           exact absurd H (by simp)
         ·rw [if_neg ck] at H
          exact absurd H (by simp)
        ·rw [if_neg cj] at H
         exact absurd H (by simp)
       ·rw [if_neg bJ] at H
        have bN := zge' bJ; clear bJ
        by_cases bK : (bt a1 bb) < 32
        ·rw [if_pos bK] at H
         have bS := decide_eq_true bK; clear bK
         by_cases cn : bd.length + 4 < 140737488355328
         ·rw [if_pos cn] at H
          have bT := zam cn; clear cn
          obtain ⟨bj, bv⟩ : ∃ y_ : List Int, y_ = (bd ++ bytesOf (⟨#[92, 117, 48, 48]⟩ : ByteArray)) := ⟨_, rfl⟩
          first | rw [Option.bind_some, ← bv] at H | rw [← bv] at H
          have bV := zam bv; clear bv
          obtain ⟨bg, bF⟩ : ∃ j_ : Int, ((bt a1 bb) / 16) = j_ := ⟨_, rfl⟩
          replace H : (if 0 ≤ (bg) then (if (bg) < 16 then (if 0 ≤ (Go.bits .and .u8 (bt a1 bb) 15) then (if (Go.bits .and .u8 (bt a1 bb) 15) < 16 then ((some (([bt (⟨#[48, 49, 50, 51, 52, 53, 54, 55, 56, 57, 97, 98, 99, 100, 101, 102]⟩ : ByteArray) (bg), bt (⟨#[48, 49, 50, 51, 52, 53, 54, 55, 56, 57, 97, 98, 99, 100, 101, 102]⟩ : ByteArray) (Go.bits .and .u8 (bt a1 bb) 15)] : List Int) : List Int)).bind fun bh => (if bj.length + bh.length < 140737488355328 then (impl_quoted.l0 k1 (bj ++ bh) a1 (a1.size : Int) (wrap64 (bb + 1))) else (none))) else (none)) else (none)) else (none)) else (none)) = some r := by first | (rw [bF] at H; exact H) | (simp only [bF] at H ⊢; exact H)
          (try rw [bF] at A9)
          by_cases cp : 0 ≤ (bg)
          ·rw [if_pos cp] at H
           have cT := decide_eq_true cp; clear cp
           by_cases cq : (bg) < 16
           ·rw [if_pos cq] at H
            have cV := decide_eq_true cq; clear cq
            by_cases cr : 0 ≤ (Go.bits .and .u8 (bt a1 bb) 15)
            ·rw [if_pos cr] at H
             have cW := decide_eq_true cr; clear cr
             by_cases ct : (Go.bits .and .u8 (bt a1 bb) 15) < 16
             ·rw [if_pos ct] at H
              have cX := decide_eq_true ct; clear ct
              obtain ⟨bh, bw⟩ : ∃ y_ : List Int, y_ = (([bt (⟨#[48, 49, 50, 51, 52, 53, 54, 55, 56, 57, 97, 98, 99, 100, 101, 102]⟩ : ByteArray) (bg), bt (⟨#[48, 49, 50, 51, 52, 53, 54, 55, 56, 57, 97, 98, 99, 100, 101, 102]⟩ : ByteArray) (Go.bits .and .u8 (bt a1 bb) 15)] : List Int)) := ⟨_, rfl⟩
              first | rw [Option.bind_some, ← bw] at H | rw [← bw] at H
              have bH := zam bw; clear bw
              by_cases cv : bj.length + bh.length < 140737488355328
              ·rw [if_pos cv] at H
               have bW := zam cv; clear cv
               obtain ⟨cH, bx⟩ : ∃ y_ : List Int, y_ = (bj ++ bh) := ⟨_, rfl⟩
               first | rw [Option.bind_some, ← bx] at H | rw [← bx] at H
               have bX := zam bx; clear bx; have H' := zam H; clear H; have p8 := zet (0 ≤ (bb : Int)); have q8 := zet (bb < (a1.size : Int)); have cQ := bt_at a1 bb
               try go_wp2_with (first | ((with_reducible refine gate_callee (f := 134) rfl ?_); refine goesL_ (some 20) rfl rfl Tryz.func134 (by kernel_rfl) rfl #[.string (⟨#[34, 92, 8, 9, 10, 12, 13]⟩ : ByteArray), .int .u8 (bt a1 bb)] rfl zar ?_; (with_reducible refine (strings_IndexByte.calls (⟨#[34, 92, 8, 9, 10, 12, 13]⟩ : ByteArray) (bt a1 bb) bc _ A9.out).mono ?_); rintro e w' ⟨rfl, ⟨nd, rfl⟩⟩; refine ⟨_, rfl, ?_⟩) | (at_builtin; refine append_str_ok (w0 := w0) w0.heap.size rfl (.tmp 30) _ 44 9 5 rfl Tryz.underlying44 Tryz.underlying9 info5 u0 bd (⟨#[92, 117, 48, 48]⟩ : ByteArray) (fun k_ => (P0_ k_ ∨ w.heap.size ≤ k_)) rfl rfl ?aF ?aO ?aB ?aS ?aL ?_; (case aB => exact (zbl HB.out)); (case aF => exact (fun k_ hk => (.inr (Nat.le_trans (by first | exact HK.out.1 | exact (show Kept w _ (fun k_ => P0_ k_) from by repeat (first | (with_reducible first | exact HK.out | apply Kept.alloc | apply Kept.drewN | apply Kept.drew) | exact HK.out)).1) hk)))); (case aO => exact (zkr HO_0.out)); (case aS => exact (below_size (zbl HB.out))); (case aL => have := bT.out; first | omega | (simp [ByteArray.size]; omega)); intro v316 dd ho hb hg hat; rw [← bV.out] at ho; have bf := zam (ho); replace HB := zam (hb); replace HK := zam (Kept.of_grown (S := (fun k_ => P0_ k_)) hg (by repeat (first | (with_reducible first | exact HK.out | apply Kept.alloc | apply Kept.drewN | apply Kept.drew) | exact HK.out)) (fun k_ e_ => (HO_0.out.1 k_ e_))); clear HO_0; clear ho hb hg hat))
               replace bf := zam (Kd.R_drew bf.out); replace HK := zam (Kept.drew HK.out); replace HB := zam (below_drew1 HB.out)
               have dm := zet (0 ≤ ((bg) : Int)); have dn := zet ((bg) < (16 : Int)); have df := bt_at (⟨#[48, 49, 50, 51, 52, 53, 54, 55, 56, 57, 97, 98, 99, 100, 101, 102]⟩ : ByteArray) (bg); have dp := zet (0 ≤ ((Go.bits .and .u8 (bt a1 bb) 15) : Int)); have dq := zet ((Go.bits .and .u8 (bt a1 bb) 15) < (16 : Int)); have dg := bt_at (⟨#[48, 49, 50, 51, 52, 53, 54, 55, 56, 57, 97, 98, 99, 100, 101, 102]⟩ : ByteArray) (Go.bits .and .u8 (bt a1 bb) 15)
               refine start_ (n := 10) (S := fun w' => True) (ds := []) #[false, false, false, false, false, false, false, false, false, false] (by kernel_rfl) rfl rfl trivial (fun hHeld => ?_); refine with_tabW impl_quoted.tab11 impl_quoted.bits11 (fun HT_ HW_ => ?_)
               generalize dd.drew = dr at bf HK HB hHeld ⊢
               refine zpv (i := 0) (N := some 32) HT_.out (zb 10 1) rfl rfl ?_
               refine zpv (i := 1) (N := some 33) HT_.out (zb 10 3) rfl rfl ?_
               refine zpv (i := 2) (N := some 34) HT_.out (zb 10 7) rfl rfl ?_
               refine zpv (i := 4) (N := some 36) HT_.out (zb 10 23) rfl rfl ?_
               refine zpv (i := 5) (N := some 37) HT_.out (zb 10 55) rfl rfl ?_
               refine take_ (i := 3) (N := some 35) (v := ?_) (a' := ?_) (zb 10 63) rfl rfl (take_ofW HT_.out HW_.out (by kernel_rfl)) (fun _ _ _ h => h) (Or.inl ⟨by rfl, ?_⟩) hHeld ?_ ?_
               rotate_left
               ·intro w' _
                go_simp
                with_reducible rfl
               rotate_left
               ·simp only [Act.put, List.setIfInBounds_toArray, List.set_cons_zero, List.set_cons_succ, i64_w, i32_w, IntKind.wrap_u8, IntKind.wrap_u32]
                rfl
               refine take_ (i := 6) (N := some 38) (v := ?_) (a' := ?_) (zb 10 127) rfl rfl (take_ofW HT_.out HW_.out (by kernel_rfl)) (fun _ _ _ h => h) (Or.inl ⟨by rfl, ?_⟩) hHeld ?_ ?_
               rotate_left
               ·intro w' _
                go_simp
                with_reducible rfl
               rotate_left
               ·simp only [Act.put, List.setIfInBounds_toArray, List.set_cons_zero, List.set_cons_succ, i64_w, i32_w, IntKind.wrap_u8, IntKind.wrap_u32]
                rfl
               refine one_ (i := 7) (N := some 39) (zb 10 255) rfl rfl (one_of HT_.out (by kernel_rfl)) (by decide) (fun K hK => ?_)
               refine Kd.R_lit_step (Kd.int .u8) _ 5 ?hg (N := 39) ?hd (xs := ([bt (⟨#[48, 49, 50, 51, 52, 53, 54, 55, 56, 57, 97, 98, 99, 100, 101, 102]⟩ : ByteArray) (bg), bt (⟨#[48, 49, 50, 51, 52, 53, 54, 55, 56, 57, 97, 98, 99, 100, 101, 102]⟩ : ByteArray) (Go.bits .and .u8 (bt a1 bb) 15)] : List Int)) (inner := [.int .u8 (bt (⟨#[48, 49, 50, 51, 52, 53, 54, 55, 56, 57, 97, 98, 99, 100, 101, 102]⟩ : ByteArray) (bg)), .int .u8 (bt (⟨#[48, 49, 50, 51, 52, 53, 54, 55, 56, 57, 97, 98, 99, 100, 101, 102]⟩ : ByteArray) (Go.bits .and .u8 (bt a1 bb) 15))]) (ok := fun _ => True) (okp := fun _ => True) ?hr ?hp (fun _ hk => hk) trivial (Below.refl _ _) (Nat.le_refl _) (by simp) ?_; (case hd => rfl); (case hg => rfl); (case hr => first | (go_simp; done) | (go_simp; rfl)); (case hp => exact (Reps.one (show Kd.M (Kd.int .u8) _ _ _ (bt (⟨#[48, 49, 50, 51, 52, 53, 54, 55, 56, 57, 97, 98, 99, 100, 101, 102]⟩ : ByteArray) (bg)) [.int .u8 (bt (⟨#[48, 49, 50, 51, 52, 53, 54, 55, 56, 57, 97, 98, 99, 100, 101, 102]⟩ : ByteArray) (bg))] from rfl) (Reps.one (show Kd.M (Kd.int .u8) _ _ _ (bt (⟨#[48, 49, 50, 51, 52, 53, 54, 55, 56, 57, 97, 98, 99, 100, 101, 102]⟩ : ByteArray) (Go.bits .and .u8 (bt a1 bb) 15)) [.int .u8 (bt (⟨#[48, 49, 50, 51, 52, 53, 54, 55, 56, 57, 97, 98, 99, 100, 101, 102]⟩ : ByteArray) (Go.bits .and .u8 (bt a1 bb) 15))] from rfl) (Reps.none _ _))))
               intro v319 dt bD hb hg_ hnew_
               clear hg_ hnew_
               (first | rw [← bH.out] at bD | (simp only [Int.reduceToNat] at bD; rw [← bH.out] at bD))
               have bm := zam (Kd.R_lower (Kd.R_new' (Kd.R_newM (M := fun k_ => (P0_ k_ ∨ w.heap.size ≤ k_)) bD (by first | exact HK.out.1 | exact (show Kept w _ (fun k_ => P0_ k_) from by repeat (first | (with_reducible first | exact HK.out | apply Kept.alloc | apply Kept.drewN | apply Kept.drew) | exact HK.out)).1) (fun k_ h_ => .inr h_)) (Kd.R_lt (zkr bf.out))) (below_size (zbl HB.out))); replace bf := zam (Kd.R_elder' (zkr bf.out) (Kd.R_base bD) hb); replace HK := zam (Kept.below (S := (fun k_ => P0_ k_)) (by repeat (first | (with_reducible first | exact HK.out | apply Kept.alloc | apply Kept.drewN | apply Kept.drew) | exact HK.out)) hb); replace HB := zam (below_step (zbl HB.out) hb)
               clear hb bD; obtain ⟨cJ, cK, eo34⟩ := Kd.R_slice bm.out
               (first | subst eo34 | (injection eo34 with f1_ f2_ f3_; have f4_ := f1_.symm; have f5_ := f3_.symm; clear f1_ f2_ f3_; subst f4_; subst f5_))
               refine hK.out _ _ trivial (fun hHeld => ?_)
               clear hK K
               refine norm_ (a' := ?_) ?_ ?_
               rotate_left
               ·show Act.put _ (some 39) _ = _
                simp only [Act.put, List.setIfInBounds_toArray, List.set_cons_zero, List.set_cons_succ, i64_w, i32_w, IntKind.wrap_u8, IntKind.wrap_u32]
                rfl
               refine one_ (i := 8) (N := some 40) (zb 10 511) rfl rfl (one_of HT_.out (by kernel_rfl)) (by decide) (fun K hK => ?_)
               refine Kd.R_append_rows_step (Kd.int .u8) (w0 := w0) w0.heap.size (by rfl) (.tmp 32) (.tmp 39) 44 5 (.int .u8 0) 1 rfl Tryz.underlying44 info5 rfl (by decide) (by omega) v316 bj bh _ _ _ (fun k_ => (P0_ k_ ∨ w.heap.size ≤ k_) ∧ some k_ ≠ (.slice cJ bh.length cK : Value).ownBlock) (fun _ => False) rfl rfl ?aO ?aR (fun _ _ h => h) (fun _ h => h.elim) ?aF ?aB ?aS ?aL ?_
               (case aR => repeat (first | exact (Kd.R_reads' bm.out).2.2 | (with_reducible refine Kd.C_alloc ?_ _) | (with_reducible refine Kd.C_drewN ?_ _) | (with_reducible refine Kd.C_drew ?_)))
               (case aB => exact (zbl HB.out))
               (case aF => exact (fun k_ hk => ⟨(.inr (Nat.le_trans (by first | exact HK.out.1 | exact (show Kept w _ (fun k_ => P0_ k_) from by repeat (first | (with_reducible first | exact HK.out | apply Kept.alloc | apply Kept.drewN | apply Kept.drew) | exact HK.out)).1) hk)), Kd.fresh' (Kd.R_lt (zkr bm.out)) k_ hk⟩))
               (case aO => exact (zkr bf.out))
               (case aS => exact (below_size (zbl HB.out)))
               (case aL => have := bW.out; omega)
               intro v322 dv ho hb hg hat
               rw [← bX.out] at ho
               have bY := zam (ho); replace bm := zam (Kd.R_after (ok := (fun k_ => (P0_ k_ ∨ w.heap.size ≤ k_))) (by refine zkr ?_; exact Kd.R_mono bm.out (fun _ hk => ⟨hk.1.1, hk.2⟩)) hg hat); replace HB := zam (hb); replace HK := zam (Kept.of_grown (S := (fun k_ => P0_ k_)) hg (by repeat (first | (with_reducible first | exact HK.out | apply Kept.alloc | apply Kept.drewN | apply Kept.drew) | exact HK.out)) (fun k_ e_ => (bf.out.1 k_ e_).1)); clear bf
               clear ho hb hg hat
               refine hK.out _ _ trivial (fun hHeld => ?_)
               clear hK K
               refine norm_ (a' := ?_) ?_ ?_
               rotate_left
               ·show Act.put _ (some 40) _ = _
                simp only [Act.put, List.setIfInBounds_toArray, List.set_cons_zero, List.set_cons_succ, i64_w, i32_w, IntKind.wrap_u8, IntKind.wrap_u32]
                rfl
               refine zpv (i := 9) (N := some 0) HT_.out (zb 10 1023) rfl rfl ?_
               refine done_ (done_of HT_.out (by kernel_rfl)) ?_
               try go_wp2
               go_roundg k1
               case measure => have := HK1.out; omega
               case rel => exact ⟨(cH), (wrap64 (bb + 1)), zrs, H', ⟨zlo HK1.out⟩, ⟨by refine zkr ?_; exact Kd.R_mono bY.out (fun _ hk => hk.1)⟩, ⟨by repeat (first | (with_reducible first | exact HK.out | apply Kept.alloc | apply Kept.drewN | apply Kept.drew) | exact HK.out)⟩, ⟨zbl HB.out⟩⟩
              ·rw [if_neg cv] at H
               exact absurd H (by simp)
             ·rw [if_neg ct] at H
              exact absurd H (by simp)
            ·rw [if_neg cr] at H
             exact absurd H (by simp)
           ·rw [if_neg cq] at H
            exact absurd H (by simp)
          ·rw [if_neg cp] at H
           exact absurd H (by simp)
         ·rw [if_neg cn] at H
          exact absurd H (by simp)
        ·rw [if_neg bK] at H
         have bS := decide_eq_false bK; clear bK
         by_cases cw : bd.length < 140737488355328
         ·rw [if_pos cw] at H
          have bZ := zam cw; clear cw
          obtain ⟨cL, bz⟩ : ∃ y_ : List Int, y_ = (bd ++ [bt a1 bb]) := ⟨_, rfl⟩
          first | rw [Option.bind_some, ← bz] at H | rw [← bz] at H
          have cb := zam bz; clear bz; have H' := zam H; clear H; have p8 := zet (0 ≤ (bb : Int)); have q8 := zet (bb < (a1.size : Int)); have cQ := bt_at a1 bb
          go_wp2_with (first | ((with_reducible refine gate_callee (f := 134) rfl ?_); refine goesL_ (some 20) rfl rfl Tryz.func134 (by kernel_rfl) rfl #[.string (⟨#[34, 92, 8, 9, 10, 12, 13]⟩ : ByteArray), .int .u8 (bt a1 bb)] rfl zar ?_; (with_reducible refine (strings_IndexByte.calls (⟨#[34, 92, 8, 9, 10, 12, 13]⟩ : ByteArray) (bt a1 bb) bc _ A9.out).mono ?_); rintro e w' ⟨rfl, ⟨nd, rfl⟩⟩; refine ⟨_, rfl, ?_⟩) | ((with_reducible refine gate_builtin (b := .append) (xs := #[.tmp 41, .tmp 43]) rfl ?_); at_builtin; refine Kd.R_append (Kd.int .u8) (w0 := w0) w0.heap.size rfl (.tmp 41) (.tmp 43) 44 5 (.int .u8 0) 1 rfl Tryz.underlying44 info5 rfl (by decide) (by omega) u0 bd (bt a1 bb) [.int .u8 (bt a1 bb)] (fun k_ => (P0_ k_ ∨ w.heap.size ≤ k_)) (fun _ => False) rfl rfl ?aP (fun _ hk => hk.elim) ?aF ?aO ?aB ?aS ?aL ?_; (case aP => exact rfl); (case aB => exact (zbl HB.out)); (case aF => exact (fun k_ hk => (.inr (Nat.le_trans (by first | exact HK.out.1 | exact (show Kept w _ (fun k_ => P0_ k_) from by repeat (first | (with_reducible first | exact HK.out | apply Kept.alloc | apply Kept.drewN | apply Kept.drew) | exact HK.out)).1) hk)))); (case aO => exact (zkr HO_0.out)); (case aS => exact (below_size (zbl HB.out))); (case aL => have := bZ.out; omega); intro v325 dw ho hb hg hat; rw [← cb.out] at ho; have cc := zam (ho); replace HB := zam (hb); replace HK := zam (Kept.of_grown (S := (fun k_ => P0_ k_)) hg (by repeat (first | (with_reducible first | exact HK.out | apply Kept.alloc | apply Kept.drewN | apply Kept.drew) | exact HK.out)) (fun k_ e_ => (HO_0.out.1 k_ e_))); clear HO_0; clear ho hb hg hat))
          go_roundg k1
          case measure => have := HK1.out; omega
          case rel => exact ⟨(cL), (wrap64 (bb + 1)), zrs, H', ⟨zlo HK1.out⟩, ⟨zkr cc.out⟩, ⟨by repeat (first | (with_reducible first | exact HK.out | apply Kept.alloc | apply Kept.drewN | apply Kept.drew) | exact HK.out)⟩, ⟨zbl HB.out⟩⟩
         ·rw [if_neg cw] at H
          exact absurd H (by simp)
      ·rw [if_neg c7] at H
       exact absurd H (by simp)
     ·rw [if_neg c6] at H
      exact absurd H (by simp)
    ·rw [if_neg c5] at H
     have cC := decide_eq_false c5; clear c5
     by_cases cx : bd.length < 140737488355328
     ·rw [if_pos cx] at H
      have cd := zam cx; clear cx
      obtain ⟨dh, bB⟩ : ∃ y_ : List Int, y_ = (bd ++ [34]) := ⟨_, rfl⟩
      first | rw [Option.bind_some, ← bB] at H | rw [← bB] at H
      have cf := zam bB; clear bB; obtain rfl := Option.some.inj H
      go_wp2_with (first | ((with_reducible refine gate_builtin (b := .append) (xs := #[.tmp 46, .tmp 47]) rfl ?_); at_builtin; refine Kd.R_append (Kd.int .u8) (w0 := w0) w0.heap.size rfl (.tmp 46) (.tmp 47) 44 5 (.int .u8 0) 1 rfl Tryz.underlying44 info5 rfl (by decide) (by omega) u0 bd 34 [.int .u8 34] (fun k_ => (P0_ k_ ∨ w.heap.size ≤ k_)) (fun _ => False) rfl rfl ?aP (fun _ hk => hk.elim) ?aF ?aO ?aB ?aS ?aL ?_; (case aP => exact rfl); (case aB => exact (zbl HB.out)); (case aF => exact (fun k_ hk => (.inr (Nat.le_trans (by first | exact HK.out.1 | exact (show Kept w _ (fun k_ => P0_ k_) from by repeat (first | (with_reducible first | exact HK.out | apply Kept.alloc | apply Kept.drewN | apply Kept.drew) | exact HK.out)).1) hk)))); (case aO => exact (zkr HO_0.out)); (case aS => exact (below_size (zbl HB.out))); (case aL => have := cd.out; omega); intro v306 dx ho hb hg hat; rw [← cf.out] at ho; have cg := zam (ho); replace HB := zam (hb); replace HK := zam (Kept.of_grown (S := (fun k_ => P0_ k_)) hg (by repeat (first | (with_reducible first | exact HK.out | apply Kept.alloc | apply Kept.drewN | apply Kept.drew) | exact HK.out)) (fun k_ e_ => (HO_0.out.1 k_ e_))); clear HO_0; clear ho hb hg hat))
      go_ret
      exact ⟨_, zer, by refine zkr ?_; exact cg.out, zbl HB.out, by repeat (first | (with_reducible first | exact HK.out | apply Kept.alloc | apply Kept.drewN | apply Kept.drew) | exact HK.out)⟩
     ·rw [if_neg cx] at H
      exact absurd H (by simp)
 ·rw [if_neg c3] at H
  exact absurd H (by simp)
end Go.Proofs.YtndagnkhjlgjgaaGreatDoor.PJt
