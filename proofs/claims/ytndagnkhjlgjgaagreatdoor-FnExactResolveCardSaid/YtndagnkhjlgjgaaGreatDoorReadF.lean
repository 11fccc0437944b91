/- impl.read: its contract by hand (a deferred closure that recovers). -/
import Derived.Test.YtndagnkhjlgjgaaGreatDoorValW
import Derived.Tactics2
import Derived.Defers
import Derived.Recover
import Derived.Laws.Pointers
import Derived.RegionTactic
import Derived.ChangeAlike
import Derived.BigRegion
import Derived.Lib.AppendStr
namespace Go.Proofs.YtndagnkhjlgjgaaGreatDoor.Read
open Go Go.RowKit YtndagnkhjlgjgaaGreatDoorW.PrintWords Str Tchs Tree Val
set_option linter.unusedVariables false
set_option linter.unusedSimpArgs false
set_option maxRecDepth 100000 in
set_option maxHeartbeats 4000000 in
theorem catchV_panicking (a b : Nat) (x : Value) (y : Bool) (w : World) (ha : w.heap[a]? = some (.cells #[x] 55 (0, 0))) (hb : w.heap[b]? = some (.cells #[.bool y] 4 (0, 0))) (hab : a ≠ b) :
  CallsD Tryz.prog 101 #[.pointer (some ⟨a, 0, none⟩), .pointer (some ⟨b, 0, none⟩)] (.panicking noForm) w fun e u' w' =>
   e = .returned (.tuple #[]) ∧ u' = .panicking [{ v := .iface 151 (.agg #[]), recovered := true }] ∧ w'.heap[a]? = some (.cells #[.nilIface] 55 (0, 0)) ∧ w'.heap[b]? = some (.cells #[.bool false] 4 (0, 0)) ∧ Tch w w' (fun k => k = a ∨ k = b) := by
 refine callsD_of_wpS Tryz.func101 rfl fun c₀ cs hu => ?_
 apply wpS_seq
 apply wpS_region
 simp [wpOpsS, go_sem, recoverD, hu, Tryz.ntmps101, Exit.thenS]
 apply wpS_seq
 apply wpS_region
 simp [wpOpsS, go_sem, Exit.thenS]
 refine wpS_cond (t := true) (by simp [Act.eval, Array.replicate]) ?_
 simp only [if_true]
 refine wpS_of_wp ?_
 have h0 := blk_cell (blk_alloc ha (.cells #[] 151)) 0
 have h1 := blk_cell (blk_alloc hb (.cells #[] 151)) 0
 have f0 := blk_frozen (blk_alloc ha (.cells #[] 151)) 0
 have f1 := blk_frozen (blk_alloc hb (.cells #[] 151)) 0
 have has : ∀ W : World, (Instr.typeAssert (.iface 151 (.agg #[])) 20 151 true).run Tryz.prog W = .ok (.tuple #[.agg #[], .bool true]) W := fun W => by kernel_rfl
 go_wp2_with fail
 refine ⟨rfl, _, rfl, .tuple #[], ?_, rfl, rfl, ?_, ?_, ?_⟩
 ·simp [results, Tryz.results101, go_sem]
 ·exact blk_far (blk_set (blk_alloc ha (.cells #[] 151)) 0 .nilIface) hab _
 ·exact blk_set (blk_far (blk_alloc hb (.cells #[] 151)) (fun h => hab h.symm) _) 0 (.bool false)
 ·exact Tch.setCell (Tch.setCell (Tch.alloc (Tch.refl w _) _) (p := ⟨a, 0, none⟩) (.inl (.inl rfl)) _) (p := ⟨b, 0, none⟩) (.inl (.inr rfl)) _
set_option maxRecDepth 100000 in
theorem catchV_idle (a b : Nat) (w : World) :
  CallsD Tryz.prog 101 #[.pointer (some ⟨a, 0, none⟩), .pointer (some ⟨b, 0, none⟩)] .returning w fun e u' w' => e = .returned (.tuple #[]) ∧ u' = .returning ∧ w' = w := by
 refine callsD_of_wpS Tryz.func101 rfl fun c₀ cs hu => ?_
 apply wpS_seq
 apply wpS_region
 simp [wpOpsS, go_sem, recoverD, hu, Tryz.ntmps101, Exit.thenS]
 apply wpS_seq
 apply wpS_region
 simp [wpOpsS, go_sem, Exit.thenS]
 refine wpS_cond (t := false) (by simp [Act.eval, Array.replicate]) ?_
 simp only [Bool.false_eq_true, if_false]
 refine wpS_of_wp (wp_skip ?_)
 cases c₀
 simp_all [bodyPostS, results, Tryz.results101]
def readT (s : ByteArray) : Option (T × Nat) := val s (s.size + 1) (skip s 0)
set_option maxRecDepth 100000 in
set_option maxHeartbeats 4000000 in
theorem read (s : ByteArray) (w : World) (hs : s.size ≤ 1048576) (hT : Lib.Utf8Tabs 1 2 w) (hE : EV w) (hz : 4 < w.heap.size ∧ 2 < w.heap.size) :
  Calls Tryz.prog 58 #[.string s] w fun e w' =>
   (∀ t q, readT s = some (t, q) → ∃ g v, e = .returned (.tuple #[.pointer (some ⟨g, 0, none⟩), v, .bool (decide (skip s q = s.size))]) ∧ V w' (fun k => w.heap.size ≤ k) (norm t) v ∧ Rdr w' g s (skip s q) (big bigB t) (twice t) ∧ w.heap.size ≤ g) ∧
   (readT s = none → ∃ g, e = .returned (.tuple #[.pointer (some ⟨g, 0, none⟩), .nilIface, .bool false])) ∧ Below w.heap.size w w' := by
 have hmf : ∀ (fn : Fn) (first cap : Array Value) (w : World), (Instr.makeFunc fn first cap).run Tryz.prog w = .ok (.func fn first cap) w := fun _ _ _ _ => rfl
 go_enter_defers Tryz.func58, Tryz.ntmps58
 have hR0 := heap_alloc_new ((w.alloc (.cells #[.nilIface] 55)).alloc (.cells #[.bool false] 4)) (.cells #[.string s, .int .i64 0, .bool false, .bool false] 99)
 simp only [World.size_alloc] at hR0
 have HR := Lib.hid (show Rdr (((w.alloc (.cells #[.nilIface] 55)).alloc (.cells #[.bool false] 4)).alloc (.cells #[.string s, .int .i64 0, .bool false, .bool false] 99)) (w.heap.size + 1 + 1) s 0 false false from hR0)
 have HA := Lib.hid (blk_alloc (blk_alloc (heap_alloc_new w (.cells #[.nilIface] 55)) (.cells #[.bool false] 4)) (.cells #[.string s, .int .i64 0, .bool false, .bool false] 99))
 have hb0 := blk_alloc (heap_alloc_new (w.alloc (.cells #[.nilIface] 55)) (.cells #[.bool false] 4)) (.cells #[.string s, .int .i64 0, .bool false, .bool false] 99)
 simp only [World.size_alloc] at hb0
 have HBK := Lib.hid hb0
 have HB := Lib.hid (show Below w.heap.size w (((w.alloc (.cells #[.nilIface] 55)).alloc (.cells #[.bool false] 4)).alloc (.cells #[.string s, .int .i64 0, .bool false, .bool false] 99)) from below_alloc (below_alloc (below_alloc (Below.refl _ _) _) _) _)
 have HT3 := Lib.hid (tabs_tch hT (Tch.of_below HB.out (fun _ => False)) (fun h => h) (fun h => h))
 have HE3 := Lib.hid (EV.tch hE (Tch.of_below HB.out (fun _ => False)) (fun h => h))
 clear hR0 hb0 hT hE
 go_wp2_with fail
 refine (valAt (w.heap.size + 1 + 1) s hs ⟨by omega, by omega⟩ (s.size + 1) _ 0 false false HR.out (Nat.zero_le _) (by omega) HT3.out HE3.out).mono ?_
 rintro e w1 ⟨hok, hno, ht1⟩
 have HA1 := Lib.hid (blk_kept HA.out ht1.kept (by omega))
 have HBK1 := Lib.hid (blk_kept HBK.out ht1.kept (by omega))
 have HB1 := Lib.hid (HB.out.trans (Tch.to_below ht1 (B := w.heap.size) HB.out.size (fun k hk => by omega)))
 have HRT := Lib.hid (show readT s = val s (s.size + 1) (skip s 0) from rfl)
 cases hx : val s (s.size + 1) (skip s 0) with
 | none =>
  obtain rfl := hno hx
  have HN := Lib.hid (show readT s = none from HRT.out.trans hx)
  clear hok hno ht1 hx HRT
  go_wp2_with fail
  refine leaves_cons (f := 101) (args := #[.pointer (some ⟨w.heap.size, 0, none⟩), .pointer (some ⟨w.heap.size + 1, 0, none⟩)]) (by simp) (by simp [go_sem]) ?_
  refine (catchV_panicking w.heap.size (w.heap.size + 1) _ _ _ HA1.out HBK1.out (by omega)).mono ?_
  rintro e u' w2 ⟨rfl, rfl, ha2, hb2, ht2⟩
  have c0 := blk_cell ha2 0
  have c1 := blk_cell hb2 0
  simp only [List.getElem?_toArray, List.getElem?_cons_zero] at c0 c1
  simp [Leaves, settle, results, Tryz.results58, go_sem, c0, c1]
  refine ⟨fun t q hh => (by rw [HN.out] at hh; cases hh), HB1.out.trans (Tch.to_below ht2 (B := w.heap.size) HB1.out.size (fun k hk => by omega))⟩
 | some tq =>
  obtain ⟨t, q⟩ := tq
  obtain ⟨v, rfl, hv, hr⟩ := hok t q hx
  obtain ⟨T', x', rfl⟩ := V_iface hv
  have hle := val_le s _ _ t q hx
  have HS := Lib.hid (show readT s = some (t, q) from HRT.out.trans hx)
  have HV := Lib.hid hv
  have HR1 := Lib.hid hr
  have c0 := blk_cell HA1.out 0
  have f0 := blk_frozen HA1.out 0
  simp only [List.getElem?_toArray, List.getElem?_cons_zero] at c0
  clear hok hno ht1 hx HRT hv hr
  go_wp2_with fail
  have HA2 := Lib.hid (blk_set HA1.out 0 (.iface T' x'))
  have HBK2 := Lib.hid (blk_far HBK1.out (p := ⟨w.heap.size, 0, none⟩) (by show w.heap.size + 1 ≠ w.heap.size; omega) (.iface T' x'))
  have HR2 := Lib.hid (show Rdr _ _ _ _ _ _ from blk_far HR1.out (p := ⟨w.heap.size, 0, none⟩) (by show w.heap.size + 1 + 1 ≠ w.heap.size; omega) (.iface T' x'))
  have HV2 := Lib.hid (V_tch HV.out (Tch.setCell (Tch.refl w1 (fun k => k = w.heap.size)) (p := ⟨w.heap.size, 0, none⟩) (.inl rfl) (.iface T' x')) (fun k hk e => by have := HB.out.size; have e : k = w.heap.size := e; simp only [World.size_alloc] at hk; omega))
  have HB2 := Lib.hid (HB1.out.setCell (p := ⟨w.heap.size, 0, none⟩) (by show w.heap.size ≤ w.heap.size; omega) (.iface T' x'))
  clear c0 f0
  refine (blanks (w.heap.size + 1 + 1) s q _ _ _ HR2.out hle.2 hs).mono ?_
  rintro e w2 ⟨rfl, hr3, ht3⟩
  have HR3 := Lib.hid hr3
  have HA3 := Lib.hid (blk_kept HA2.out ht3.kept (by omega))
  have HBK3 := Lib.hid (blk_kept HBK2.out ht3.kept (by omega))
  have HV3 := Lib.hid (V_tch HV2.out ht3 (fun k hk e => by have e : k = w.heap.size + 1 + 1 := e; simp only [World.size_alloc] at hk; omega))
  have HB3 := Lib.hid (HB2.out.trans (Tch.to_below ht3 (B := w.heap.size) HB2.out.size (fun k hk => by omega)))
  have c0 := blk_cell HA3.out 0
  have f0 := blk_frozen HA3.out 0
  have f1 := blk_frozen HBK3.out 0
  have c1 := blk_cell HBK3.out 0
  simp only [List.getElem?_toArray, List.getElem?_cons_zero] at c0 c1
  obtain ⟨r0, r1, _⟩ := hr3.at_
  clear hr3 ht3 HV HV2 HR1 HR2 HA1 HA2 HBK1 HBK2
  generalize hq2 : skip s q = q2 at HR3 r1
  have HQ2 := Lib.hid hq2
  clear hq2
  go_wp2_with fail
  go_region
  have HA5 := Lib.hid (blk_far (blk_set HA3.out 0 (.iface T' x')) (p := ⟨w.heap.size + 1, 0, none⟩) (by show w.heap.size ≠ w.heap.size + 1; omega) (.bool ((q2 : Int) == (s.size : Int))))
  have HBK5 := Lib.hid (blk_set (blk_far HBK3.out (p := ⟨w.heap.size, 0, none⟩) (by show w.heap.size + 1 ≠ w.heap.size; omega) (.iface T' x')) 0 (.bool ((q2 : Int) == (s.size : Int))))
  have HR5 := Lib.hid (show Rdr _ _ _ _ _ _ from blk_far (blk_far HR3.out (p := ⟨w.heap.size, 0, none⟩) (by show w.heap.size + 1 + 1 ≠ w.heap.size; omega) (.iface T' x')) (p := ⟨w.heap.size + 1, 0, none⟩) (by show w.heap.size + 1 + 1 ≠ w.heap.size + 1; omega) (.bool ((q2 : Int) == (s.size : Int))))
  have HV5 := Lib.hid (V_tch HV3.out (Tch.setCell (Tch.setCell (Tch.refl w2 (fun k => k = w.heap.size ∨ k = w.heap.size + 1)) (p := ⟨w.heap.size, 0, none⟩) (.inl (.inl rfl)) (.iface T' x')) (p := ⟨w.heap.size + 1, 0, none⟩) (.inl (.inr rfl)) (.bool ((q2 : Int) == (s.size : Int)))) (fun k hk e => by simp only [World.size_alloc] at hk; omega))
  have HB5 := Lib.hid ((HB3.out.setCell (p := ⟨w.heap.size, 0, none⟩) (by show w.heap.size ≤ w.heap.size; omega) (.iface T' x')).setCell (p := ⟨w.heap.size + 1, 0, none⟩) (by show w.heap.size ≤ w.heap.size + 1; omega) (.bool ((q2 : Int) == (s.size : Int))))
  clear HA3 HBK3 HR3 HV3 HB3 c0 c1 f0 f1 r0 r1
  generalize (w2.setCell ⟨w.heap.size, 0, none⟩ (.iface T' x')).setCell ⟨w.heap.size + 1, 0, none⟩ (.bool ((q2 : Int) == (s.size : Int))) = w5 at HA5 HBK5 HR5 HV5 HB5 ⊢
  have c0 : w5.cell? ⟨w.heap.size, 0, none⟩ = some (.iface T' x') := blk_cell HA5.out 0
  have c1 : w5.cell? ⟨w.heap.size + 1, 0, none⟩ = some (.bool ((q2 : Int) == (s.size : Int))) := blk_cell HBK5.out 0
  have HEQ := Lib.hid (show ((q2 : Int) == (s.size : Int)) = decide (q2 = s.size) from by rw [Bool.eq_iff_iff, beq_iff_eq, decide_eq_true_eq]; omega)
  go_wp2_with fail
  refine leaves_cons (f := 101) (args := #[.pointer (some ⟨w.heap.size, 0, none⟩), .pointer (some ⟨w.heap.size + 1, 0, none⟩)]) (by simp) (by simp [go_sem]) ?_
  refine (catchV_idle w.heap.size (w.heap.size + 1) _).mono ?_
  rintro e u' w6 ⟨rfl, rfl, rfl⟩
  have d0 : w5.drew.cell? ⟨w.heap.size, 0, none⟩ = some (.iface T' x') := c0
  have d1 : w5.drew.cell? ⟨w.heap.size + 1, 0, none⟩ = some (.bool ((q2 : Int) == (s.size : Int))) := c1
  simp [Leaves, settle, results, Tryz.results58, go_sem, d0, d1]
  refine ⟨fun t' q' hh => ?_, by rw [HS.out]; simp, below_drew HB5.out⟩
  rw [HS.out] at hh
  injection hh with hh
  injection hh with hh1 hh2
  subst hh1
  subst hh2
  refine ⟨_, _, ⟨rfl, rfl, by rw [HEQ.out, HQ2.out]⟩, V_mono (V_below HV5.out (below_drew (Below.refl _ _))) (fun k hk => by simp only [World.size_alloc] at hk; omega), ?_, by omega⟩
  have h5 := HR5.out
  rw [Bool.false_or, Bool.false_or] at h5
  rw [HQ2.out]
  exact h5
end Go.Proofs.YtndagnkhjlgjgaaGreatDoor.Read
namespace Go.Proofs.YtndagnkhjlgjgaaGreatDoor.Xtra
open Go.RowKit YtndagnkhjlgjgaaGreatDoorW.PrintWords
section
variable {P : Program}
theorem run_append_str_at (w : World) (base : Nat) (t u ty e : TypeId) (i : TypeInfo) (ht : P.underlying t = some (.slice e)) (hu : P.underlying u = some .string) (hi : P.info? e = some i) (hz : i.zero = some (.int .u8 0))
  (hsize : i.size = 1) (hby : i.bytes = 1)
  (v : Value) (n : Nat) (xs : List Value) (hown : w.ownsRow base e 1 v n xs) (s : ByteArray)
  (h63 : n + s.size ≤ maxLen) (hbytes : n + s.size ≤ 140737488355328) (hbase : base ≤ w.heap.size) :
  ∃ v' w', (Builtin.append_ #[t, u] ty #[v, .string s]).run P w = .ok v' w' ∧ w'.ownsRow base e 1 v' (n + s.size) (xs ++ Lib.strCells s) ∧ w.grownBy w' v.ownBlock ∧
   (v'.ownBlock = v.ownBlock ∨ ∃ b, v'.ownBlock = some b ∧ w.heap.size ≤ b) := by
 obtain ⟨v', w', hr, ho, hg, hn⟩ := Lib.run_append_own_string (P := P) w base t u ty e i ht hu hi hz hsize hby v n xs hown s h63 hbytes hbase
 refine ⟨v', w', hr, ho, hg, ?_⟩
 rcases hown.2 with ⟨rfl, rfl⟩ | ⟨g, cap, cur, rfl, hbg, hgg, hnc, hcm, hcs, htake⟩
 ·have hx : xs = [] := List.eq_nil_of_length_eq_zero (by simpa using hown.1)
  subst hx
  obtain ⟨v2, w2, hr2, ho2, _, _⟩ := Lib.run_append_own_string (P := P) w w.heap.size t u ty e i ht hu hi hz hsize hby (.slice none 0 0) 0 [] (World.ownsRow_nil w w.heap.size e 1) s h63 hbytes (Nat.le_refl _)
  rw [hr] at hr2
  injection hr2 with e1 e2
  subst e1
  subst e2
  cases hv : v'.ownBlock with
  | none => exact .inl rfl
  | some b => exact .inr ⟨b, rfl, own_base ho2 b hv⟩
 ·by_cases hroom : n + s.size ≤ cap
  ·have hr2 := Lib.run_append_room_string (P := P) w t u ty e i ht hu hi hsize g n cap cur hgg s hroom (by simp at hcs; omega)
   rw [hr] at hr2
   injection hr2 with e1 _
   subst e1
   exact .inl rfl
  ·have hxl : xs.length = n := by simpa using hown.1
   have holds : ∀ j u, xs[j]? = some u → w.cell? ((⟨g, 0, none⟩ : Addr).add j) = some u := hown.cells (g := g) rfl
   have hm : n + s.size ≤ 9223372036854775807 := by simp only [maxLen] at h63; omega
   have hr2 := Lib.run_append_grow_string (P := P) w t u ty e i (.int .u8 0) ht hu hi hz ⟨g, 0, none⟩ n cap xs (by rw [hsize]; simpa using hxl) holds s (by omega) (by omega) (by rw [hby]; exact growslice_fits (by omega) (by omega))
   rw [hr] at hr2
   injection hr2 with e1 _
   subst e1
   exact .inr ⟨_, rfl, Nat.le_refl _⟩
variable {ops : Array Oper} {rest : List Oper} {o : Oper} {a : Act} {Q : Exit → Act → World → Prop}
theorem append_str_ok {w0 W : World} (base : Nat) (hgd : o.guard = none) (s x : Operand) (t u e : TypeId)
  (ho : o.op = .call { callee := .builtin .append, args := #[s, x], argTypes := #[t, u] })
  (ht : P.underlying t = some (.slice e)) (hu : P.underlying u = some .string) (hinfo : (P.info? e).map (fun i => (i.zero, i.size, i.bytes)) = some (some (.int .u8 0), 1, 1))
  (v : Value) (xs : List Int) (y : ByteArray) (ok : Nat → Prop) (hs : a.eval s = v) (hx : a.eval x = .string y) (hfresh : ∀ k, W.heap.size ≤ k → ok k)
  (HO : Kd.R (Kd.int .u8) e W base ok v xs) (HB : Below base w0 W) (hbase : base ≤ W.heap.size) (hl : xs.length + y.size ≤ 140737488355328)
  (h : ∀ v1 w1, Kd.R (Kd.int .u8) e w1 base ok v1 (xs ++ bytesOf y) → Below base w0 w1 → W.grownBy w1 v.ownBlock → (v1.ownBlock = v.ownBlock ∨ ∃ b, v1.ownBlock = some b ∧ W.heap.size ≤ b) → wpList P ops Q rest (a.put o.dst v1) w1) :
  wpList P ops Q (o :: rest) a W := by
 obtain ⟨i0, hi, hzz⟩ := Option.map_eq_some_iff.1 hinfo
 simp only [Prod.mk.injEq] at hzz
 obtain ⟨hz0, hz1, hz2⟩ := hzz
 have ho1 : W.ownsRow base e 1 v xs.length (nums .u8 xs) := Kd.own_of_R HO
 refine wpList_plain hgd fun K hK => ?_
 obtain ⟨v1, w1, hr, h2, h3, h4⟩ := run_append_str_at (P := P) W base t u o.type e i0 ht hu hi hz0 hz1 hz2 v xs.length (nums .u8 xs) ho1 y (by simp only [maxLen]; omega) hl hbase
 unfold Oper.wp execOp
 simp only [ho, resolve, invoke, builtin, Sem.run_bind, Sem.run_pure, Result.andThen_ok, List.map_toArray, List.map_cons, List.map_nil, hs, hx, hr]
 have hl2 : (xs ++ bytesOf y).length = xs.length + y.size := by rw [List.length_append, bytesOf_length]
 have hc : nums .u8 (xs ++ bytesOf y) = nums .u8 xs ++ Lib.strCells y := by
  rw [nums_append]
  congr 1
  simp [nums, bytesOf, Lib.strCells]
 have hown : w1.ownsRow base e 1 v1 (xs ++ bytesOf y).length (nums .u8 (xs ++ bytesOf y)) := by rw [hl2, hc]; exact h2
 refine hK _ _ (h v1 w1 (Kd.R_of_own (h1 := fun _ => rfl) (ok := ok) hown ?_) (HB.grown h3 hbase (own_base ho1)) h3 h4)
 intro k hk
 rcases h4 with h4 | ⟨b, hb, hle⟩
 ·exact HO.1 k (h4 ▸ hk)
 ·rw [hb] at hk
  injection hk with hk
  exact hfresh k (by omega)
end
end Go.Proofs.YtndagnkhjlgjgaaGreatDoor.Xtra
namespace Go.Proofs.YtndagnkhjlgjgaaGreatDoor.PJt
open Go.RowKit Own Xtra YtndagnkhjlgjgaaGreatDoorW.PrintWords YtndagnkhjlgjgaaGreatDoorW.PrintLast YtndagnkhjlgjgaaGreatDoorW.PrintMore
attribute [local go_sem] max2_int min2_int max_two min_two max_three min_three max_four min_four
set_option linter.unusedVariables false
set_option linter.unusedSimpArgs false
abbrev spec_l1At.f (a0 : ByteArray) (a1 : Int) (a2 : Int) : Option (Bool) := Go.Proofs.YtndagnkhjlgjgaaGreatDoor.PJs.spec_l1At.f a0 a1 a2
theorem spec_l1At.calls (a0 : ByteArray) (a1 : Int) (a2 : Int) (r : Bool) (w : World) (h : spec_l1At.f a0 a1 a2 = some r) :
  Calls Tryz.prog 89 #[.string a0, .int .i64 a1, .int .u8 a2] w fun e w' => e = .returned (.bool r) ∧ Drawn0 w w' := Go.Proofs.YtndagnkhjlgjgaaGreatDoor.PJs.spec_l1At.calls a0 a1 a2 r w h
def spec_l1Skip.l0 : Nat → ByteArray → Int → Option (Int)
 | 0, _, _ => none
 | k + 1, x0, x1 => if x1 < (x0.size : Int) then (if 0 ≤ x1 then (if (bt x0 x1) = 32 then (spec_l1Skip.l0 k x0 (wrap64 (x1 + 1))) else (if (bt x0 x1) = 9 then (spec_l1Skip.l0 k x0 (wrap64 (x1 + 1))) else (if (bt x0 x1) = 10 then (spec_l1Skip.l0 k x0 (wrap64 (x1 + 1))) else (if (bt x0 x1) = 13 then (spec_l1Skip.l0 k x0 (wrap64 (x1 + 1))) else (some x1))))) else (none)) else (some x1)
def spec_l1Skip.f (k : Nat) (a0 : ByteArray) (a1 : Int) : Option (Int) := spec_l1Skip.l0 k a0 a1
set_option maxHeartbeats 8000000 in
set_option maxRecDepth 100000 in
theorem spec_l1Skip.calls (k : Nat) (a0 : ByteArray) (a1 : Int) (r : Int) (w : World) (h : spec_l1Skip.f k a0 a1 = some r) :
  Calls Tryz.prog 50 #[.string a0, .int .i64 a1] w fun e w' => e = .returned (.int .i64 r) ∧ Drawn0 w w' := by
 have H : (spec_l1Skip.l0 k a0 a1) = some r := h; clear h; have H' := zam H; clear H
 go_enter Tryz.func50, Tryz.ntmps50
 go_wp2
 (try simp only [Act.put, List.setIfInBounds_toArray, List.set_cons_zero, List.set_cons_succ])
 go_loopg [1] k (fun kq v1 w' => ∃ (bb : Int), v1 = .int .i64 bb ∧ Aside0 (spec_l1Skip.l0 kq a0 bb = some r) ∧ Aside0 (kq ≤ k) ∧ Drawn0 w w')
 case atStart => exact ⟨(a1), zrs, H', ⟨Nat.le_refl _⟩, by repeat (first | exact Drawn0.refl _ | apply Drawn0.step)⟩
 case round =>
  clear H'; obtain ⟨bb, rfl, HA, HK1, ⟨m1, rfl⟩⟩ := hrel
  cases gk with
  | zero => exact absurd HA.out (by simp [spec_l1Skip.l0])
  | succ k1 =>
   have H := HA.out; clear HA
   simp only [spec_l1Skip.l0] at H
   by_cases c3 : bb < (a0.size : Int)
   ·rw [if_pos c3] at H
    have bn := decide_eq_true c3; clear c3
    by_cases c4 : 0 ≤ bb
    ·rw [if_pos c4] at H
     have bf := decide_eq_true c4; clear c4
     by_cases c6 : (bt a0 bb) = 32
     ·rw [if_pos c6] at H
      have bp := beq_iff_eq.mpr c6; have bq := bne_eq_false_iff_eq.mpr c6; clear c6; have H' := zam H; clear H; have p5 := zet (0 ≤ (bb : Int)); have q5 := zet (bb < (a0.size : Int)); have bm := bt_at a0 bb
      go_wp2
      go_roundg k1
      case measure => have := HK1.out; omega
      case rel => exact ⟨(wrap64 (bb + 1)), zrs, H', ⟨zlo HK1.out⟩, by repeat (first | exact Drawn0.refl _ | apply Drawn0.step)⟩
     ·rw [if_neg c6] at H
      have bp := beq_eq_false_iff_ne.mpr c6; have bq := bne_iff_ne.mpr c6
      by_cases c8 : (bt a0 bb) = 9
      ·rw [if_pos c8] at H
       have br := beq_iff_eq.mpr c8; have bs := bne_eq_false_iff_eq.mpr c8; clear c8; have H' := zam H; clear H; have p5 := zet (0 ≤ (bb : Int)); have q5 := zet (bb < (a0.size : Int)); have bm := bt_at a0 bb; have p7 := zet (0 ≤ (bb : Int)); have q7 := zet (bb < (a0.size : Int)); have bv := bt_at a0 bb
       go_wp2
       go_roundg k1
       case measure => have := HK1.out; omega
       case rel => exact ⟨(wrap64 (bb + 1)), zrs, H', ⟨zlo HK1.out⟩, by repeat (first | exact Drawn0.refl _ | apply Drawn0.step)⟩
      ·rw [if_neg c8] at H
       have br := beq_eq_false_iff_ne.mpr c8; have bs := bne_iff_ne.mpr c8
       by_cases bc : (bt a0 bb) = 10
       ·rw [if_pos bc] at H
        have bg := beq_iff_eq.mpr bc; have bh := bne_eq_false_iff_eq.mpr bc; clear bc; have H' := zam H; clear H; have p5 := zet (0 ≤ (bb : Int)); have q5 := zet (bb < (a0.size : Int)); have bm := bt_at a0 bb; have p7 := zet (0 ≤ (bb : Int)); have q7 := zet (bb < (a0.size : Int)); have bv := bt_at a0 bb; have p9 := zet (0 ≤ (bb : Int)); have q9 := zet (bb < (a0.size : Int)); have bx := bt_at a0 bb
        go_wp2
        go_roundg k1
        case measure => have := HK1.out; omega
        case rel => exact ⟨(wrap64 (bb + 1)), zrs, H', ⟨zlo HK1.out⟩, by repeat (first | exact Drawn0.refl _ | apply Drawn0.step)⟩
       ·rw [if_neg bc] at H
        have bg := beq_eq_false_iff_ne.mpr bc; have bh := bne_iff_ne.mpr bc
        by_cases bd : (bt a0 bb) = 13
        ·rw [if_pos bd] at H
         have bj := beq_iff_eq.mpr bd; have bk := bne_eq_false_iff_eq.mpr bd; clear bd; have H' := zam H; clear H; have p5 := zet (0 ≤ (bb : Int)); have q5 := zet (bb < (a0.size : Int)); have bm := bt_at a0 bb; have p7 := zet (0 ≤ (bb : Int)); have q7 := zet (bb < (a0.size : Int)); have bv := bt_at a0 bb; have p9 := zet (0 ≤ (bb : Int)); have q9 := zet (bb < (a0.size : Int)); have bx := bt_at a0 bb; have bB := zet (0 ≤ (bb : Int)); have bC := zet (bb < (a0.size : Int)); have bw := bt_at a0 bb
         go_wp2
         go_roundg k1
         case measure => have := HK1.out; omega
         case rel => exact ⟨(wrap64 (bb + 1)), zrs, H', ⟨zlo HK1.out⟩, by repeat (first | exact Drawn0.refl _ | apply Drawn0.step)⟩
        ·rw [if_neg bd] at H
         have bj := beq_eq_false_iff_ne.mpr bd; have bk := bne_iff_ne.mpr bd; obtain rfl := Option.some.inj H; have p5 := zet (0 ≤ (bb : Int)); have q5 := zet (bb < (a0.size : Int)); have bm := bt_at a0 bb; have p7 := zet (0 ≤ (bb : Int)); have q7 := zet (bb < (a0.size : Int)); have bv := bt_at a0 bb; have p9 := zet (0 ≤ (bb : Int)); have q9 := zet (bb < (a0.size : Int)); have bx := bt_at a0 bb; have bB := zet (0 ≤ (bb : Int)); have bC := zet (bb < (a0.size : Int)); have bw := bt_at a0 bb
         go_wp2
         go_ret
         exact ⟨by first | rfl | (simp; done) | (simp [*]; done), by repeat (first | exact Drawn0.refl _ | apply Drawn0.step)⟩
    ·rw [if_neg c4] at H
     exact absurd H (by simp)
   ·rw [if_neg c3] at H
    have bn := decide_eq_false c3; clear c3; obtain rfl := Option.some.inj H
    go_wp2
    go_ret
    exact ⟨by first | rfl | (simp; done) | (simp [*]; done), by repeat (first | exact Drawn0.refl _ | apply Drawn0.step)⟩
end Go.Proofs.YtndagnkhjlgjgaaGreatDoor.PJt
