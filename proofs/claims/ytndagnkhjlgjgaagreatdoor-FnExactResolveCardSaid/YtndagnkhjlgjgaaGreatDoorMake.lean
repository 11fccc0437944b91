/- The reference's l1Make: the contract by hand. -/
import Derived.Test.YtndagnkhjlgjgaaGreatDoorPiece
import Derived.Test.YtndagnkhjlgjgaaGreatDoorItems
namespace Go.Proofs.YtndagnkhjlgjgaaGreatDoor.Read
open Go Go.RowKit YtndagnkhjlgjgaaGreatDoorW.PrintWords YtndagnkhjlgjgaaGreatDoorW.PrintLast Str Tchs Tree PJt
set_option linter.unusedVariables false
set_option linter.unusedSimpArgs false
section
variable {P : Program} {ops : Array Oper} {o : Oper} {a : Act} {Q : Exit → Act → World → Prop} {Kc : Act → World → Prop}
theorem step_append_row {W : World} (base : Nat) (hw : Region.wanted o (yielded ops a.tmps) = true) (s x : Operand) (t e : TypeId)
  (ho : o.op = .call { callee := .builtin .append, args := #[s, x], argTypes := #[t, t] })
  (ht : P.underlying t = some (.slice e)) (hinfo : (P.info? e).map (fun i => (i.zero, i.size, i.bytes)) = some (some (.int .u8 0), 1, 1))
  (v : Value) (xs : List Int) (ad : Addr) (m c : Nat) (ys : List Int) (hm : ys.length = m) (hs : a.eval s = v) (hx : a.eval x = .slice (some ad) m c)
  (HO : W.ownsRow base e 1 v xs.length (nums .u8 xs)) (hn : ∀ (j : Nat) (u : Value), (nums .u8 ys)[j]? = some u → W.cell? (ad.add j) = some u) (hbase : base ≤ W.heap.size) (hl : xs.length + ys.length ≤ 140737488355328)
  (h : ∀ v1 w1, w1.ownsRow base e 1 v1 (xs ++ ys).length (nums .u8 (xs ++ ys)) → W.grownBy w1 v.ownBlock → Kc (a.put o.dst v1) w1) :
  if Region.wanted o (yielded ops a.tmps) = true then Oper.wp P o a W Kc Q else Kc (a.put o.dst undef) W := by
 subst hm
 obtain ⟨i0, hi, hzz⟩ := Option.map_eq_some_iff.1 hinfo
 simp only [Prod.mk.injEq] at hzz
 obtain ⟨hz0, hz1, hz2⟩ := hzz
 rw [if_pos hw]
 obtain ⟨v1, w1, hr, h2, h3, h4, h5⟩ := run_append_own_at (P := P) (w := W) base t o.type e i0 (.int .u8 0) 1 1 ht hi hz0 hz1 hz2 rfl (by decide) v xs.length (nums .u8 xs) HO ad ys.length c (nums .u8 ys) (by simp [nums]) hn (fun u hu => by obtain ⟨x, _, rfl⟩ := List.mem_map.1 hu; rfl) (by simp only [maxLen]; omega) (by omega) hbase
 unfold Oper.wp execOp
 simp only [ho, resolve, invoke, builtin, Sem.run_bind, Sem.run_pure, Result.andThen_ok, List.map_toArray, List.map_cons, List.map_nil, hs, hx, hr]
 exact h v1 w1 (by rw [List.length_append, nums_append]; exact h2) h3
theorem step_convert_text {W : World} (hw : Region.wanted o (yielded ops a.tmps) = true) (x : Operand) (t u e : TypeId) (ho : o.op = .convert t u x)
  (ht : P.underlying t = some .string) (hu : P.underlying u = some (.slice e)) (he : P.underlying e = some (.int .u8)) (y : ByteArray) (hx : a.eval x = .string y) (m : Nat) (hm : y.size = m)
  (h : Kc (a.put o.dst (.slice (some ⟨W.heap.size, 0, none⟩) m (grownCap W m 0 e))) (Lib.bytesWorld W e y)) :
  if Region.wanted o (yielded ops a.tmps) = true then Oper.wp P o a W Kc Q else Kc (a.put o.dst undef) W := by
 subst hm
 rw [if_pos hw]
 have hr := Lib.run_convert_string_bytes (P := P) W t u e y ht hu he
 unfold Oper.wp execOp
 simp only [ho, hx, hr, Sem.run_bind, Sem.run_pure, Result.andThen_ok]
 exact h
theorem wp_append_bytes {rest : List Oper} {w : World} (hgd : o.guard = none) (base : Nat) (s x : Operand) (t e : TypeId)
  (ho : o.op = .call { callee := .builtin .append, args := #[s, x], argTypes := #[t, t] })
  (ht : P.underlying t = some (.slice e)) (hinfo : (P.info? e).map (fun i => (i.zero, i.size, i.bytes)) = some (some (.int .u8 0), 1, 1))
  (v : Value) (xs : List Int) (ad : Addr) (c : Nat) (ys : List Int) (hs : a.eval s = v) (hx : a.eval x = .slice (some ad) ys.length c)
  (HO : w.ownsRow base e 1 v xs.length (nums .u8 xs)) (hn : ∀ (j : Nat) (u : Value), (nums .u8 ys)[j]? = some u → w.cell? (ad.add j) = some u) (hbase : base ≤ w.heap.size) (hl : xs.length + ys.length ≤ 140737488355328)
  (h : ∀ v1 w1, w1.ownsRow base e 1 v1 (xs ++ ys).length (nums .u8 (xs ++ ys)) → w.grownBy w1 v.ownBlock → wpList P ops Q rest (a.put o.dst v1) w1) :
  wpList P ops Q (o :: rest) a w := by
 obtain ⟨i0, hi, hzz⟩ := Option.map_eq_some_iff.1 hinfo
 simp only [Prod.mk.injEq] at hzz
 obtain ⟨hz0, hz1, hz2⟩ := hzz
 refine wpList_append_own_at w hgd s x t ho base e i0 (.int .u8 0) 1 1 ht hi hz0 hz1 hz2 rfl (by decide) v xs.length (nums .u8 xs) hs HO ad ys.length c (nums .u8 ys) hx (by simp [nums]) hn (fun u hu => by obtain ⟨x, _, rfl⟩ := List.mem_map.1 hu; rfl) (by simp only [maxLen]; omega) (by omega) hbase ?_
 intro v1 w1 h2 h3 _ _
 exact h v1 w1 (by rw [List.length_append, nums_append]; exact h2) h3
theorem wp_append_byte {rest : List Oper} {w : World} (hgd : o.guard = none) (base : Nat) (s x : Operand) (t e : TypeId)
  (ho : o.op = .call { callee := .builtin .append, args := #[s, x], argTypes := #[t, t] })
  (ht : P.underlying t = some (.slice e)) (hinfo : (P.info? e).map (fun i => (i.zero, i.size, i.bytes)) = some (some (.int .u8 0), 1, 1))
  (v : Value) (xs : List Int) (y : Int) (hs : a.eval s = v) (hx : a.eval x = .slice (some ⟨w.heap.size, 0, none⟩) 1 1)
  (HO : w.ownsRow base e 1 v xs.length (nums .u8 xs)) (hbase : base ≤ w.heap.size) (hl : xs.length + 1 ≤ 140737488355328)
  (h : ∀ v1 w1, w1.ownsRow base e 1 v1 (xs ++ [y]).length (nums .u8 (xs ++ [y])) → w.grownBy w1 v.ownBlock → wpList P ops Q rest (a.put o.dst v1) w1) :
  wpList P ops Q (o :: rest) a (w.alloc (.cells #[.int .u8 y] e)) := by
 refine wp_append_bytes (w := w.alloc (.cells #[.int .u8 y] e)) hgd base s x t e ho ht hinfo v xs ⟨w.heap.size, 0, none⟩ 1 [y] hs hx ?_ (cell_one_new w (.int .u8 y) e) (by rw [World.size_alloc]; omega) (by simpa using hl) ?_
 ·exact HO.alloc _
 ·intro v1 w1 h1 h2
  refine h v1 w1 h1 ⟨h2.os, h2.tape, h2.output, Nat.le_trans (by rw [World.size_alloc]; omega) h2.size, fun i hi hne => (h2.block i (by rw [World.size_alloc]; omega) hne).trans (Below.heap_alloc _ _ i hi)⟩
end
theorem str_app (a b : List Int) : strOfNums (a ++ b) = strOfNums a ++ strOfNums b := by
 apply ByteArray.ext
 unfold strOfNums
 simp
def joinP (ps : List S92) : List Int := ps.flatMap fun p => 44 :: (quo p.f0 ++ 58 :: byt p.f1)
def mkT (ps : List S92) : List Int := 123 :: ((joinP ps).drop 1 ++ [125])
theorem joinP_snoc (ps : List S92) (p : S92) : joinP (ps ++ [p]) = joinP ps ++ 44 :: (quo p.f0 ++ 58 :: byt p.f1) := by unfold joinP; simp
theorem joinP_take (ps : List S92) (k : Nat) : (joinP (ps.take k)).length ≤ (joinP ps).length := by
 conv => rhs; rw [← List.take_append_drop k ps]
 unfold joinP
 rw [List.flatMap_append, List.length_append]
 omega
theorem joinP_next (ps : List S92) (k : Nat) (hk : k < ps.length) : joinP (ps.take (k + 1)) = joinP (ps.take k) ++ 44 :: (quo (rd_T92 ps (k : Int)).f0 ++ 58 :: byt (rd_T92 ps (k : Int)).f1) := by
 rw [List.take_succ_eq_append_getElem hk, joinP_snoc]
 unfold rd_T92
 simp [hk]
theorem joinP_ne (ps : List S92) (k : Nat) (hk : 0 < k) (hkn : k ≤ ps.length) : ∃ l, joinP (ps.take k) = 44 :: l := by
 match ps, k with
 | [], k => simp at hkn; omega
 | p :: r, 0 => omega
 | p :: r, k + 1 => exact ⟨_, by rw [List.take_succ_cons]; unfold joinP; rw [List.flatMap_cons]; rfl⟩
set_option maxRecDepth 100000 in
set_option maxHeartbeats 8000000 in
theorem l1Make (A0 : Option Addr) (c0 : Nat) (ps : List S92) (w : World) (hr0 : Kd.C k92 w A0 ps.length ps) (hc0 : ps.length ≤ c0) (hl : (joinP ps).length ≤ 100000000) (hn : ps.length ≤ 100000000) :
  Calls Tryz.prog 120 #[.slice A0 ps.length c0] w fun e w' => e = .returned (.string (strOfNums (mkT ps))) ∧ Below w.heap.size w w' := by
 have HC := Lib.hid hr0
 clear hr0
 go_enter Tryz.func120, Tryz.ntmps120
 go_wp2_with fail
 obtain ⟨B, hB⟩ : ∃ B, B = w.heap.size := ⟨_, rfl⟩
 have HB := Lib.hid hB
 have HO := Lib.hid (show (w.alloc (.cells #[.int .u8 123] 5)).ownsRow B 5 1 (.slice (some ⟨w.heap.size, 0, none⟩) 1 1) ([123] : List Int).length (nums .u8 [123]) from ⟨rfl, .inr ⟨w.heap.size, 1, #[.int .u8 123], rfl, by omega, heap_alloc_new w _, Nat.le_refl _, by decide, rfl, rfl⟩⟩)
 clear hB
 have HBL := Lib.hid (show Below w.heap.size w (w.alloc (.cells #[.int .u8 123] 5)) from below_alloc (Below.refl _ _) _)
 generalize (w.alloc (.cells #[.int .u8 123] 5)) = wL at HO HBL ⊢
 go_loopw [3, 4] (fun v3 v4 wr => ∃ (k : Nat) (acc : List Int), v4 = .int .i64 (k : Int) ∧ Hid (k ≤ ps.length) ∧ Hid (acc = 123 :: (joinP (ps.take k)).drop 1) ∧ Hid (wr.ownsRow B 5 1 v3 acc.length (nums .u8 acc)) ∧ Hid (Below w.heap.size w wr)) (fun _ v4 _ => ps.length - (intOf v4).toNat)
 case atStart => exact ⟨0, [123], by simp, Lib.hid (Nat.zero_le _), Lib.hid (by simp [joinP]), HO, HBL⟩
 case round =>
  clear HO HBL
  obtain ⟨k, acc, rfl, HK, HE, HO, HBL⟩ := hrel
  obtain ⟨A, n, rfl⟩ := own_slice HO.out
  have hk := HK.out
  have hacc : acc.length ≤ 100000001 := by rw [HE.out, List.length_cons, List.length_drop]; have := joinP_take ps k; omega
  have hbz : B ≤ wr.heap.size := by rw [HB.out]; exact HBL.out.size
  by_cases hkn : k < ps.length
  ·have d1 : decide ((k : Int) < (ps.length : Int)) = true := decide_eq_true (by omega)
   obtain ⟨ad, e0, hc0_, hc1_⟩ := at_T92 HC.out (k : Int) (by omega) (by omega)
   rw [Int.toNat_natCast] at hc0_ hc1_
   have HNX := Lib.hid (joinP_next ps k hkn)
   have hsz : (rd_T92 ps (k : Int)).f0.size ≤ 100000000 ∧ (rd_T92 ps (k : Int)).f1.size ≤ 100000000 := by
    have h1 := joinP_take ps (k + 1)
    rw [HNX.out, List.length_append, List.length_cons, List.length_append, List.length_cons, byt_len, quo_len] at h1
    have h2 : (byt (rd_T92 ps (k : Int)).f0).length ≤ ((byt (rd_T92 ps (k : Int)).f0).flatMap escI).length := by
     generalize byt (rd_T92 ps (k : Int)).f0 = l
     induction l with
     | nil => simp
     | cons c l ih =>
      rw [List.flatMap_cons, List.length_append, List.length_cons]
      have : 1 ≤ (escI c).length := by
       unfold escI
       repeat' split
       all_goals simp
      omega
    rw [byt_len] at h2
    omega
   have HSZ := Lib.hid hsz
   have HCK := Lib.hid (show ∀ W, Below w.heap.size w W → W.cell? (ad.add (k * 2)) = some (.string (rd_T92 ps (k : Int)).f0) ∧ W.cell? ⟨(ad.add (k * 2)).block, (ad.add (k * 2)).off + 1, none⟩ = some (.string (rd_T92 ps (k : Int)).f1) from fun W hb => ⟨(hb.cell (World.block_lt_of_cell? w _ hc0_)).trans hc0_, (hb.cell (World.block_lt_of_cell? w _ hc1_)).trans hc1_⟩)
   cases e0
   clear hc0_ hc1_ hsz
   have p4 : ((0 : Int) ≤ (k : Int)) = True := eq_true (by omega)
   have q4 : ((k : Int) < (ps.length : Int)) = True := eq_true (by omega)
   generalize (rd_T92 ps (k : Int)).f0 = s0 at HNX HSZ HCK
   generalize (rd_T92 ps (k : Int)).f1 = s1 at HNX HSZ HCK
   have HQ := Lib.hid (show ∀ W : World, Calls Tryz.prog 93 #[.string s0] W fun e w' => e = .returned (.string (strOfNums (quo s0))) ∧ Below W.heap.size W w' from fun W => PJs.spec_l1Quoted.calls (2 * s0.size + 1) s0 _ W (quoted_f s0 HSZ.out.1 _ (Nat.le_refl _)))
   obtain ⟨q0, hq0⟩ : ∃ q0, q0 = strOfNums (quo s0) := ⟨_, rfl⟩
   have hz0 : q0.size ≤ 600000002 := by
    rw [hq0, strOfNums_size]
    have h1 := quo_le s0
    have h2 := HSZ.out.1
    omega
   have a0 : q0.size + 1 ≤ 9223372036854775807 := by omega
   have a1 : q0.size + 1 + s1.size ≤ 9223372036854775807 := by have := HSZ.out.2; omega
   have a0d : decide (q0.size + 1 ≤ 9223372036854775807) = true := decide_eq_true a0
   have a0l : (9223372036854775807 < q0.size + 1) = False := eq_false (Nat.not_lt.2 a0)
   have a1d : decide (q0.size + 1 + s1.size ≤ 9223372036854775807) = true := decide_eq_true a1
   have a1l : (9223372036854775807 < q0.size + 1 + s1.size) = False := eq_false (Nat.not_lt.2 a1)
   rw [← hq0] at HQ
   have HQ0 := Lib.hid hq0
   have HZ0 := Lib.hid hz0
   have hT : q0 ++ ⟨#[58]⟩ ++ s1 = strOfNums (quo s0 ++ (58 :: byt s1)) := by
    rw [hq0, str_app, show (58 :: byt s1) = [58] ++ byt s1 from rfl, str_app, str_byt, ByteArray.append_assoc]
    rfl
   obtain ⟨m, hm⟩ : ∃ m, (quo s0 ++ (58 :: byt s1)).length = m := ⟨_, rfl⟩
   have HM2 := Lib.hid (show (q0 ++ ⟨#[58]⟩ ++ s1).size = m by rw [hT, strOfNums_size, hm])
   have HT := Lib.hid hT
   have HM := Lib.hid hm
   have HNW := Lib.hid (show ∀ W : World, ∀ (j : Nat) (u : Value), (nums .u8 (quo s0 ++ (58 :: byt s1)))[j]? = some u → (Lib.bytesWorld W 5 (q0 ++ ⟨#[58]⟩ ++ s1)).cell? ((⟨W.heap.size, 0, none⟩ : Addr).add j) = some u from fun W => by
    rw [hT]
    refine nums_news _ (fun x hx => ?_) W 5
    rcases List.mem_append.1 hx with hx | hx
    ·exact quo_range _ x hx
    ·rcases List.mem_cons.1 hx with rfl | hx
     ·omega
     ·exact byt_range _ x hx)
   have HBB := Lib.hid (show ∀ W : World, Below w.heap.size w W → B ≤ (Lib.bytesWorld W 5 (q0 ++ ⟨#[58]⟩ ++ s1)).heap.size from fun W hb => by
    have h1 := hb.size
    have h2 := (Lib.bytesWorld_below W 5 (q0 ++ ⟨#[58]⟩ ++ s1)).size
    have h3 := HB.out
    omega)
   have HLM := Lib.hid (show ∀ a : List Int, a.length ≤ 100000005 → a.length + (quo s0 ++ (58 :: byt s1)).length ≤ 140737488355328 from fun a ha => by
    have h1 := quo_le s0
    have h2 := HSZ.out
    rw [List.length_append, List.length_cons, byt_len]
    omega)
   clear hq0 hz0 hT hm
   by_cases hk0 : k = 0
   ·have d2 : decide ((0 : Int) < (k : Int)) = false := decide_eq_false (by omega)
    have d2n : decide (0 < k) = false := decide_eq_false (by omega)
    have HK0 := Lib.hid hk0
    clear hk0
    have HBLW := Lib.hid (HCK.out wr HBL.out)
    obtain ⟨x0, x1⟩ := HBLW.out
    go_wp2_with fail
    have HOc := HO
    have HBLc := HBL
    refine start_ (n := 17) (S := fun w' => w'.cell? (ad.add (k * 2)) = some (.string s0) ∧ w'.cell? ⟨(ad.add (k * 2)).block, (ad.add (k * 2)).off + 1, none⟩ = some (.string s1)) (ds := []) #[false, false, false, false, false, false, false, false, false, false, false, false, false, false, false, false, false] (by kernel_rfl) rfl rfl ⟨x0, x1⟩ (fun hH => ?_)
    refine take_ (i := 0) (N := some 17) (v := .slice A acc.length n) (a' := ?_) #[true, false, false, false, false, false, false, false, false, false, false, false, false, false, false, false, false] rfl rfl (by kernel_rfl) (fun _ _ _ h => h) (Or.inl ⟨by rfl, ?_⟩) hH ?_ ?_
    ·rintro w2 ⟨y0, y1⟩
     go_simp
    rotate_left
    ·simp only [Act.put, List.setIfInBounds_toArray, List.set_cons_zero, List.set_cons_succ]
     rfl
    refine take_ (i := 1) (N := some 18) (v := .slice (some ad) ps.length c0) (a' := ?_) #[true, true, false, false, false, false, false, false, false, false, false, false, false, false, false, false, false] rfl rfl (by kernel_rfl) (fun _ _ _ h => h) (Or.inl ⟨by rfl, ?_⟩) hH ?_ ?_
    ·rintro w2 ⟨y0, y1⟩
     go_simp
    rotate_left
    ·simp only [Act.put, List.setIfInBounds_toArray, List.set_cons_zero, List.set_cons_succ]
     rfl
    refine take_ (i := 2) (N := some 19) (v := .int .i64 (k : Int)) (a' := ?_) #[true, true, true, false, false, false, false, false, false, false, false, false, false, false, false, false, false] rfl rfl (by kernel_rfl) (fun _ _ _ h => h) (Or.inl ⟨by rfl, ?_⟩) hH ?_ ?_
    ·rintro w2 ⟨y0, y1⟩
     go_simp
    rotate_left
    ·simp only [Act.put, List.setIfInBounds_toArray, List.set_cons_zero, List.set_cons_succ]
     rfl
    refine take_ (i := 3) (N := some 20) (v := .pointer (some (ad.add (k * 2)))) (a' := ?_) #[true, true, true, true, false, false, false, false, false, false, false, false, false, false, false, false, false] rfl rfl (by kernel_rfl) (fun _ _ _ h => h) (Or.inl ⟨by rfl, ?_⟩) hH ?_ ?_
    ·rintro w2 ⟨y0, y1⟩
     go_simp
    rotate_left
    ·simp only [Act.put, List.setIfInBounds_toArray, List.set_cons_zero, List.set_cons_succ]
     rfl
    refine take_ (i := 4) (N := some 21) (v := .pointer (some (ad.add (k * 2)))) (a' := ?_) #[true, true, true, true, true, false, false, false, false, false, false, false, false, false, false, false, false] rfl rfl (by kernel_rfl) (fun _ _ _ h => h) (Or.inl ⟨by rfl, ?_⟩) hH ?_ ?_
    ·rintro w2 ⟨y0, y1⟩
     go_simp
    rotate_left
    ·simp only [Act.put, List.setIfInBounds_toArray, List.set_cons_zero, List.set_cons_succ]
     rfl
    refine take_ (i := 5) (N := some 22) (v := .string s0) (a' := ?_) #[true, true, true, true, true, true, false, false, false, false, false, false, false, false, false, false, false] rfl rfl (by kernel_rfl) (fun _ _ _ h => h) (Or.inl ⟨by rfl, ?_⟩) hH ?_ ?_
    ·rintro w2 ⟨y0, y1⟩
     go_simp
    rotate_left
    ·simp only [Act.put, List.setIfInBounds_toArray, List.set_cons_zero, List.set_cons_succ]
     rfl
    refine take_ (i := 8) (N := some 25) (v := .slice (some ad) ps.length c0) (a' := ?_) #[true, true, true, true, true, true, false, false, true, false, false, false, false, false, false, false, false] rfl rfl (by kernel_rfl) (fun _ _ _ h => h) (Or.inl ⟨by rfl, ?_⟩) hH ?_ ?_
    ·rintro w2 ⟨y0, y1⟩
     go_simp
    rotate_left
    ·simp only [Act.put, List.setIfInBounds_toArray, List.set_cons_zero, List.set_cons_succ]
     rfl
    refine take_ (i := 9) (N := some 26) (v := .int .i64 (k : Int)) (a' := ?_) #[true, true, true, true, true, true, false, false, true, true, false, false, false, false, false, false, false] rfl rfl (by kernel_rfl) (fun _ _ _ h => h) (Or.inl ⟨by rfl, ?_⟩) hH ?_ ?_
    ·rintro w2 ⟨y0, y1⟩
     go_simp
    rotate_left
    ·simp only [Act.put, List.setIfInBounds_toArray, List.set_cons_zero, List.set_cons_succ]
     rfl
    refine take_ (i := 10) (N := some 27) (v := .pointer (some (ad.add (k * 2)))) (a' := ?_) #[true, true, true, true, true, true, false, false, true, true, true, false, false, false, false, false, false] rfl rfl (by kernel_rfl) (fun _ _ _ h => h) (Or.inl ⟨by rfl, ?_⟩) hH ?_ ?_
    ·rintro w2 ⟨y0, y1⟩
     go_simp
    rotate_left
    ·simp only [Act.put, List.setIfInBounds_toArray, List.set_cons_zero, List.set_cons_succ]
     rfl
    refine take_ (i := 11) (N := some 28) (v := .pointer (some ⟨(ad.add (k * 2)).block, (ad.add (k * 2)).off + 1, none⟩)) (a' := ?_) #[true, true, true, true, true, true, false, false, true, true, true, true, false, false, false, false, false] rfl rfl (by kernel_rfl) (fun _ _ _ h => h) (Or.inl ⟨by rfl, ?_⟩) hH ?_ ?_
    ·rintro w2 ⟨y0, y1⟩
     go_simp
    rotate_left
    ·simp only [Act.put, List.setIfInBounds_toArray, List.set_cons_zero, List.set_cons_succ]
     rfl
    refine take_ (i := 12) (N := some 29) (v := .string s1) (a' := ?_) #[true, true, true, true, true, true, false, false, true, true, true, true, true, false, false, false, false] rfl rfl (by kernel_rfl) (fun _ _ _ h => h) (Or.inl ⟨by rfl, ?_⟩) hH ?_ ?_
    ·rintro w2 ⟨y0, y1⟩
     go_simp
    rotate_left
    ·simp only [Act.put, List.setIfInBounds_toArray, List.set_cons_zero, List.set_cons_succ]
     rfl
    refine one_ (i := 6) (N := some 23) #[true, true, true, true, true, true, true, false, true, true, true, true, true, false, false, false, false] rfl rfl (by kernel_rfl) (by decide) (fun K hK => ?_)
    refine goes_ Tryz.func93 (by kernel_rfl) rfl #[.string s0] (by rfl) rfl rfl (by (try simp only [List.map_toArray, List.map_cons, List.map_nil]); rfl) ?_
    refine (HQ.out _).mono ?_
    rintro e w5 ⟨rfl, hb5⟩
    have HBL5 := Lib.hid (below_then (below_drew HBL.out) (below_drew HBL.out).size hb5)
    have HO5 := Lib.hid (own_below HO.out (below_then (below_drew (Below.refl _ _)) (Nat.le_refl _) hb5))
    clear hb5
    refine ⟨_, rfl, hK.out _ _ (HCK.out _ HBL5.out) (fun hH2 => ?_)⟩
    clear hK K hH
    have hH := hH2
    clear hH2
    refine norm_ (a' := ?_) ?_ ?_
    rotate_left
    ·show Act.put _ (some 23) _ = _
     simp only [Act.put, List.setIfInBounds_toArray, List.set_cons_zero, List.set_cons_succ]
     rfl
    refine take_ (i := 7) (N := some 24) (v := .string (q0 ++ ⟨#[58]⟩)) (a' := ?_) #[true, true, true, true, true, true, true, true, true, true, true, true, true, false, false, false, false] rfl rfl (by kernel_rfl) (fun _ _ _ h => h) (Or.inl ⟨by rfl, ?_⟩) hH ?_ ?_
    ·rintro w2 ⟨y0, y1⟩
     go_simp
    rotate_left
    ·simp only [Act.put, List.setIfInBounds_toArray, List.set_cons_zero, List.set_cons_succ]
     rfl
    refine take_ (i := 13) (N := some 30) (v := .string (q0 ++ ⟨#[58]⟩ ++ s1)) (a' := ?_) #[true, true, true, true, true, true, true, true, true, true, true, true, true, true, false, false, false] rfl rfl (by kernel_rfl) (fun _ _ _ h => h) (Or.inl ⟨by rfl, ?_⟩) hH ?_ ?_
    ·rintro w2 ⟨y0, y1⟩
     go_simp
    rotate_left
    ·simp only [Act.put, List.setIfInBounds_toArray, List.set_cons_zero, List.set_cons_succ]
     rfl
    refine one_ (i := 14) (N := some 31) #[true, true, true, true, true, true, true, true, true, true, true, true, true, true, true, false, false] rfl rfl (by kernel_rfl) (by decide) (fun K hK => ?_)
    refine step_convert_text (by rfl) (.tmp 30) 9 44 5 (by rfl) Tryz.underlying9 Tryz.underlying44 Tryz.underlying5 (q0 ++ ⟨#[58]⟩ ++ s1) (by rfl) m HM2.out ?_
    refine hK.out _ _ (HCK.out _ (below_then HBL5.out HBL5.out.size (Lib.bytesWorld_below _ _ _))) (fun hH2 => ?_)
    clear hK K hH
    have hH := hH2
    clear hH2
    refine norm_ (a' := ?_) ?_ ?_
    rotate_left
    ·show Act.put _ (some 31) _ = _
     simp only [Act.put, List.setIfInBounds_toArray, List.set_cons_zero, List.set_cons_succ]
     rfl
    refine one_ (i := 15) (N := some 32) #[true, true, true, true, true, true, true, true, true, true, true, true, true, true, true, true, false] rfl rfl (by kernel_rfl) (by decide) (fun K hK => ?_)
    refine step_append_row B (by rfl) (.tmp 17) (.tmp 31) 44 5 (by rfl) Tryz.underlying44 info5 (.slice A acc.length n) acc ⟨w5.heap.size, 0, none⟩ m _ (quo s0 ++ (58 :: byt s1)) HM.out (by rfl) (by rfl) (own_below HO5.out (Lib.bytesWorld_below _ _ _)) (HNW.out w5) (HBB.out w5 HBL5.out) (HLM.out acc (by omega)) ?_
    intro v6 w6 hown6 hg6
    have HO6 := Lib.hid hown6
    have HBL6 := Lib.hid (Below.grown (below_then HBL5.out HBL5.out.size (Lib.bytesWorld_below _ _ _)) hg6 (Nat.le_trans HBL5.out.size (Lib.bytesWorld_below _ _ _).size) (fun k hk => by have h1 := own_base HO5.out k hk; have h2 := HB.out; omega))
    clear hown6 hg6
    refine hK.out _ _ (HCK.out _ HBL6.out) (fun hH2 => ?_)
    clear hK K hH
    have hH := hH2
    clear hH2
    refine norm_ (a' := ?_) ?_ ?_
    rotate_left
    ·show Act.put _ (some 32) _ = _
     simp only [Act.put, List.setIfInBounds_toArray, List.set_cons_zero, List.set_cons_succ]
     rfl
    refine take_ (i := 16) (N := some 3) (v := v6) (a' := ?_) #[true, true, true, true, true, true, true, true, true, true, true, true, true, true, true, true, true] rfl rfl (by kernel_rfl) (fun _ _ _ h => h) (Or.inl ⟨by rfl, ?_⟩) hH ?_ ?_
    ·rintro w2 ⟨y0, y1⟩
     go_simp
    rotate_left
    ·simp only [Act.put, List.setIfInBounds_toArray, List.set_cons_zero, List.set_cons_succ]
     rfl
    refine done_ (by kernel_rfl) ?_
    have HE6 := Lib.hid (show acc ++ (quo s0 ++ (58 :: byt s1)) = 123 :: (joinP (ps.take (k + 1))).drop 1 by
     rw [HNX.out, HE.out, HK0.out]
     simp [joinP])
    go_wp2_with fail
    go_roundw
    case rel => exact ⟨k + 1, _, by simp, Lib.hid (by omega), HE6, HO6, HBL6⟩
    case measure => simp [intOf]; omega
   ·have d2 : decide ((0 : Int) < (k : Int)) = true := decide_eq_true (by omega)
    have d2n : decide (0 < k) = true := decide_eq_true (by omega)
    have HK0 := Lib.hid hk0
    have HZ := Lib.hid hbz
    clear hk0
    obtain ⟨acc1, hacc1⟩ : ∃ a, a = acc ++ [44] := ⟨_, rfl⟩
    have hl1 : acc1.length ≤ 100000005 := by rw [hacc1, List.length_append, List.length_cons, List.length_nil]; omega
    have HA1 := Lib.hid hacc1
    clear hacc1
    go_wp2_with (first | (at_builtin; refine wp_append_byte rfl B (.tmp 14) (.tmp 15) 44 5 rfl Tryz.underlying44 info5 (.slice A acc.length n) acc 44 rfl rfl HO.out HZ.out (by omega) ?_; intro w1v w1 hown1 hg1; rw [← HA1.out] at hown1; obtain ⟨A2, n2, rfl⟩ := own_slice hown1; have HOc := Lib.hid hown1; have HBLc := Lib.hid (Below.grown HBL.out hg1 HBL.out.size (fun k hk => by have h1 := own_base HO.out k hk; have h2 := HB.out; omega)); clear hown1 hg1))
    obtain ⟨x0, x1⟩ := HCK.out w1 HBLc.out
    refine start_ (n := 17) (S := fun w' => w'.cell? (ad.add (k * 2)) = some (.string s0) ∧ w'.cell? ⟨(ad.add (k * 2)).block, (ad.add (k * 2)).off + 1, none⟩ = some (.string s1)) (ds := []) #[false, false, false, false, false, false, false, false, false, false, false, false, false, false, false, false, false] (by kernel_rfl) rfl rfl ⟨x0, x1⟩ (fun hH => ?_)
    refine take_ (i := 0) (N := some 17) (v := .slice A2 acc1.length n2) (a' := ?_) #[true, false, false, false, false, false, false, false, false, false, false, false, false, false, false, false, false] rfl rfl (by kernel_rfl) (fun _ _ _ h => h) (Or.inl ⟨by rfl, ?_⟩) hH ?_ ?_
    ·rintro w2 ⟨y0, y1⟩
     go_simp
    rotate_left
    ·simp only [Act.put, List.setIfInBounds_toArray, List.set_cons_zero, List.set_cons_succ]
     rfl
    refine take_ (i := 1) (N := some 18) (v := .slice (some ad) ps.length c0) (a' := ?_) #[true, true, false, false, false, false, false, false, false, false, false, false, false, false, false, false, false] rfl rfl (by kernel_rfl) (fun _ _ _ h => h) (Or.inl ⟨by rfl, ?_⟩) hH ?_ ?_
    ·rintro w2 ⟨y0, y1⟩
     go_simp
    rotate_left
    ·simp only [Act.put, List.setIfInBounds_toArray, List.set_cons_zero, List.set_cons_succ]
     rfl
    refine take_ (i := 2) (N := some 19) (v := .int .i64 (k : Int)) (a' := ?_) #[true, true, true, false, false, false, false, false, false, false, false, false, false, false, false, false, false] rfl rfl (by kernel_rfl) (fun _ _ _ h => h) (Or.inl ⟨by rfl, ?_⟩) hH ?_ ?_
    ·rintro w2 ⟨y0, y1⟩
     go_simp
    rotate_left
    ·simp only [Act.put, List.setIfInBounds_toArray, List.set_cons_zero, List.set_cons_succ]
     rfl
    refine take_ (i := 3) (N := some 20) (v := .pointer (some (ad.add (k * 2)))) (a' := ?_) #[true, true, true, true, false, false, false, false, false, false, false, false, false, false, false, false, false] rfl rfl (by kernel_rfl) (fun _ _ _ h => h) (Or.inl ⟨by rfl, ?_⟩) hH ?_ ?_
    ·rintro w2 ⟨y0, y1⟩
     go_simp
    rotate_left
    ·simp only [Act.put, List.setIfInBounds_toArray, List.set_cons_zero, List.set_cons_succ]
     rfl
    refine take_ (i := 4) (N := some 21) (v := .pointer (some (ad.add (k * 2)))) (a' := ?_) #[true, true, true, true, true, false, false, false, false, false, false, false, false, false, false, false, false] rfl rfl (by kernel_rfl) (fun _ _ _ h => h) (Or.inl ⟨by rfl, ?_⟩) hH ?_ ?_
    ·rintro w2 ⟨y0, y1⟩
     go_simp
    rotate_left
    ·simp only [Act.put, List.setIfInBounds_toArray, List.set_cons_zero, List.set_cons_succ]
     rfl
    refine take_ (i := 5) (N := some 22) (v := .string s0) (a' := ?_) #[true, true, true, true, true, true, false, false, false, false, false, false, false, false, false, false, false] rfl rfl (by kernel_rfl) (fun _ _ _ h => h) (Or.inl ⟨by rfl, ?_⟩) hH ?_ ?_
    ·rintro w2 ⟨y0, y1⟩
     go_simp
    rotate_left
    ·simp only [Act.put, List.setIfInBounds_toArray, List.set_cons_zero, List.set_cons_succ]
     rfl
    refine take_ (i := 8) (N := some 25) (v := .slice (some ad) ps.length c0) (a' := ?_) #[true, true, true, true, true, true, false, false, true, false, false, false, false, false, false, false, false] rfl rfl (by kernel_rfl) (fun _ _ _ h => h) (Or.inl ⟨by rfl, ?_⟩) hH ?_ ?_
    ·rintro w2 ⟨y0, y1⟩
     go_simp
    rotate_left
    ·simp only [Act.put, List.setIfInBounds_toArray, List.set_cons_zero, List.set_cons_succ]
     rfl
    refine take_ (i := 9) (N := some 26) (v := .int .i64 (k : Int)) (a' := ?_) #[true, true, true, true, true, true, false, false, true, true, false, false, false, false, false, false, false] rfl rfl (by kernel_rfl) (fun _ _ _ h => h) (Or.inl ⟨by rfl, ?_⟩) hH ?_ ?_
    ·rintro w2 ⟨y0, y1⟩
     go_simp
    rotate_left
    ·simp only [Act.put, List.setIfInBounds_toArray, List.set_cons_zero, List.set_cons_succ]
     rfl
    refine take_ (i := 10) (N := some 27) (v := .pointer (some (ad.add (k * 2)))) (a' := ?_) #[true, true, true, true, true, true, false, false, true, true, true, false, false, false, false, false, false] rfl rfl (by kernel_rfl) (fun _ _ _ h => h) (Or.inl ⟨by rfl, ?_⟩) hH ?_ ?_
    ·rintro w2 ⟨y0, y1⟩
     go_simp
    rotate_left
    ·simp only [Act.put, List.setIfInBounds_toArray, List.set_cons_zero, List.set_cons_succ]
     rfl
    refine take_ (i := 11) (N := some 28) (v := .pointer (some ⟨(ad.add (k * 2)).block, (ad.add (k * 2)).off + 1, none⟩)) (a' := ?_) #[true, true, true, true, true, true, false, false, true, true, true, true, false, false, false, false, false] rfl rfl (by kernel_rfl) (fun _ _ _ h => h) (Or.inl ⟨by rfl, ?_⟩) hH ?_ ?_
    ·rintro w2 ⟨y0, y1⟩
     go_simp
    rotate_left
    ·simp only [Act.put, List.setIfInBounds_toArray, List.set_cons_zero, List.set_cons_succ]
     rfl
    refine take_ (i := 12) (N := some 29) (v := .string s1) (a' := ?_) #[true, true, true, true, true, true, false, false, true, true, true, true, true, false, false, false, false] rfl rfl (by kernel_rfl) (fun _ _ _ h => h) (Or.inl ⟨by rfl, ?_⟩) hH ?_ ?_
    ·rintro w2 ⟨y0, y1⟩
     go_simp
    rotate_left
    ·simp only [Act.put, List.setIfInBounds_toArray, List.set_cons_zero, List.set_cons_succ]
     rfl
    refine one_ (i := 6) (N := some 23) #[true, true, true, true, true, true, true, false, true, true, true, true, true, false, false, false, false] rfl rfl (by kernel_rfl) (by decide) (fun K hK => ?_)
    refine goes_ Tryz.func93 (by kernel_rfl) rfl #[.string s0] (by rfl) rfl rfl (by (try simp only [List.map_toArray, List.map_cons, List.map_nil]); rfl) ?_
    refine (HQ.out _).mono ?_
    rintro e w5 ⟨rfl, hb5⟩
    have HBL5 := Lib.hid (below_then (below_drew HBLc.out) (below_drew HBLc.out).size hb5)
    have HO5 := Lib.hid (own_below HOc.out (below_then (below_drew (Below.refl _ _)) (Nat.le_refl _) hb5))
    clear hb5
    refine ⟨_, rfl, hK.out _ _ (HCK.out _ HBL5.out) (fun hH2 => ?_)⟩
    clear hK K hH
    have hH := hH2
    clear hH2
    refine norm_ (a' := ?_) ?_ ?_
    rotate_left
    ·show Act.put _ (some 23) _ = _
     simp only [Act.put, List.setIfInBounds_toArray, List.set_cons_zero, List.set_cons_succ]
     rfl
    refine take_ (i := 7) (N := some 24) (v := .string (q0 ++ ⟨#[58]⟩)) (a' := ?_) #[true, true, true, true, true, true, true, true, true, true, true, true, true, false, false, false, false] rfl rfl (by kernel_rfl) (fun _ _ _ h => h) (Or.inl ⟨by rfl, ?_⟩) hH ?_ ?_
    ·rintro w2 ⟨y0, y1⟩
     go_simp
    rotate_left
    ·simp only [Act.put, List.setIfInBounds_toArray, List.set_cons_zero, List.set_cons_succ]
     rfl
    refine take_ (i := 13) (N := some 30) (v := .string (q0 ++ ⟨#[58]⟩ ++ s1)) (a' := ?_) #[true, true, true, true, true, true, true, true, true, true, true, true, true, true, false, false, false] rfl rfl (by kernel_rfl) (fun _ _ _ h => h) (Or.inl ⟨by rfl, ?_⟩) hH ?_ ?_
    ·rintro w2 ⟨y0, y1⟩
     go_simp
    rotate_left
    ·simp only [Act.put, List.setIfInBounds_toArray, List.set_cons_zero, List.set_cons_succ]
     rfl
    refine one_ (i := 14) (N := some 31) #[true, true, true, true, true, true, true, true, true, true, true, true, true, true, true, false, false] rfl rfl (by kernel_rfl) (by decide) (fun K hK => ?_)
    refine step_convert_text (by rfl) (.tmp 30) 9 44 5 (by rfl) Tryz.underlying9 Tryz.underlying44 Tryz.underlying5 (q0 ++ ⟨#[58]⟩ ++ s1) (by rfl) m HM2.out ?_
    refine hK.out _ _ (HCK.out _ (below_then HBL5.out HBL5.out.size (Lib.bytesWorld_below _ _ _))) (fun hH2 => ?_)
    clear hK K hH
    have hH := hH2
    clear hH2
    refine norm_ (a' := ?_) ?_ ?_
    rotate_left
    ·show Act.put _ (some 31) _ = _
     simp only [Act.put, List.setIfInBounds_toArray, List.set_cons_zero, List.set_cons_succ]
     rfl
    refine one_ (i := 15) (N := some 32) #[true, true, true, true, true, true, true, true, true, true, true, true, true, true, true, true, false] rfl rfl (by kernel_rfl) (by decide) (fun K hK => ?_)
    refine step_append_row B (by rfl) (.tmp 17) (.tmp 31) 44 5 (by rfl) Tryz.underlying44 info5 (.slice A2 acc1.length n2) acc1 ⟨w5.heap.size, 0, none⟩ m _ (quo s0 ++ (58 :: byt s1)) HM.out (by rfl) (by rfl) (own_below HO5.out (Lib.bytesWorld_below _ _ _)) (HNW.out w5) (HBB.out w5 HBL5.out) (HLM.out acc1 hl1) ?_
    intro v6 w6 hown6 hg6
    have HO6 := Lib.hid hown6
    have HBL6 := Lib.hid (Below.grown (below_then HBL5.out HBL5.out.size (Lib.bytesWorld_below _ _ _)) hg6 (Nat.le_trans HBL5.out.size (Lib.bytesWorld_below _ _ _).size) (fun k hk => by have h1 := own_base HO5.out k hk; have h2 := HB.out; omega))
    clear hown6 hg6
    refine hK.out _ _ (HCK.out _ HBL6.out) (fun hH2 => ?_)
    clear hK K hH
    have hH := hH2
    clear hH2
    refine norm_ (a' := ?_) ?_ ?_
    rotate_left
    ·show Act.put _ (some 32) _ = _
     simp only [Act.put, List.setIfInBounds_toArray, List.set_cons_zero, List.set_cons_succ]
     rfl
    refine take_ (i := 16) (N := some 3) (v := v6) (a' := ?_) #[true, true, true, true, true, true, true, true, true, true, true, true, true, true, true, true, true] rfl rfl (by kernel_rfl) (fun _ _ _ h => h) (Or.inl ⟨by rfl, ?_⟩) hH ?_ ?_
    ·rintro w2 ⟨y0, y1⟩
     go_simp
    rotate_left
    ·simp only [Act.put, List.setIfInBounds_toArray, List.set_cons_zero, List.set_cons_succ]
     rfl
    refine done_ (by kernel_rfl) ?_
    have HE6 := Lib.hid (show acc1 ++ (quo s0 ++ (58 :: byt s1)) = 123 :: (joinP (ps.take (k + 1))).drop 1 by
     obtain ⟨l, hl⟩ := joinP_ne ps k (by have := HK0.out; omega) HK.out
     rw [HA1.out, HNX.out, HE.out, hl]
     simp)
    go_wp2_with fail
    go_roundw
    case rel => exact ⟨k + 1, _, by simp, Lib.hid (by omega), HE6, HO6, HBL6⟩
    case measure => simp [intOf]; omega
  ·have d1 : decide ((k : Int) < (ps.length : Int)) = false := decide_eq_false (by omega)
   have HZ := Lib.hid hbz
   go_wp2_with (first | (at_builtin; refine wp_append_byte rfl B (.tmp 33) (.tmp 34) 44 5 rfl Tryz.underlying44 info5 (.slice A acc.length n) acc 125 rfl rfl HO.out HZ.out (by omega) ?_; intro v1 w1 hown1 hg1; obtain ⟨A1, n1, rfl⟩ := own_slice hown1; have hcv := own_string (P := Tryz.prog) Tryz.underlying44 Tryz.underlying5 Tryz.underlying9 hown1; simp only [List.length_append, List.length_cons, List.length_nil, Nat.zero_add] at hcv; have HBL1 := Lib.hid (Below.grown HBL.out hg1 HBL.out.size (fun k hk => by have h1 := own_base HO.out k hk; have h2 := HB.out; omega)); clear hown1 hg1))
   have hk2 : k = ps.length := by omega
   go_wp2_with fail
   refine bodyPost_ret (v := .string (strOfNums (acc ++ [125]))) (by simp [results, Tryz.results120, go_sem]) rfl ?_
   refine ⟨?_, HBL1.out⟩
   rw [HE.out, hk2, List.take_length]
   rfl
end Go.Proofs.YtndagnkhjlgjgaaGreatDoor.Read
