/- The reader of draws, and the small texts that are drawn. -/
import Derived.Test.YtbonodglnilkfaaGreatDoorPfX
import Derived.Test.YtbonodglnilkfaaGreatDoorWTab
import Derived.Maps.AppendAt
import Derived.Laws.BytesArg
import Derived.Outline
import Derived.LoopTactic
import Derived.Test.YtbonodglnilkfaaGreatDoorRead4
import Derived.Tactics2
import Derived.Defers
import Derived.Recover
import Derived.Laws.Pointers
namespace Go.Proofs.YtbonodglnilkfaaGreatDoor.Draw
open Go Go.Proofs Go.RowKit Go.Proofs.YtbonodglnilkfaaGreatDoorW.PrintWords Go.Proofs.YtbonodglnilkfaaGreatDoorW.PrintLast Go.Proofs.YtbonodglnilkfaaGreatDoor.Tree Go.Proofs.YtbonodglnilkfaaGreatDoor.Pf Go.Proofs.YtbonodglnilkfaaGreatDoor.Impl Go.Proofs.YtbonodglnilkfaaGreatDoor.Read Go.Proofs.YtbonodglnilkfaaGreatDoor.Tchs
set_option linter.unusedVariables false
set_option linter.unusedSimpArgs false
def Row (w : World) (A : Option Addr) (n : Nat) (xs : List Int) : Prop :=
 xs.length = n ∧ (∀ x ∈ xs, 0 ≤ x ∧ x ≤ 255) ∧ (0 < n → ∃ a, A = some a ∧ a.block < w.heap.size ∧ ∀ j, j < n → w.cell? (a.add j) = some (.int .u8 (xs.getD j 0)))
theorem add_block (a : Addr) (j : Nat) : (a.add j).block = a.block := by unfold Addr.add; split <;> rfl
theorem Row.tch {w w1 : World} {A : Option Addr} {n : Nat} {xs : List Int} {S : Nat → Prop} (h : Row w A n xs) (ht : Tch w w1 S) (hs : ∀ a, A = some a → ¬ S a.block) : Row w1 A n xs := by
 refine ⟨h.1, h.2.1, fun hn => ?_⟩
 obtain ⟨a, rfl, hb, hc⟩ := h.2.2 hn
 refine ⟨a, rfl, Nat.lt_of_lt_of_le hb ht.kept.1, fun j hj => ?_⟩
 rw [← hc j hj]
 have hk := ht.kept.2 a.block hb (hs a rfl)
 simp only [World.cell?, add_block, hk]
theorem Row.below {w w1 : World} {A : Option Addr} {n : Nat} {xs : List Int} (h : Row w A n xs) (hb : Below w.heap.size w w1) : Row w1 A n xs := h.tch (Tch.of_below hb (fun _ => False)) (fun _ _ h => h)
theorem Row.take {w : World} {A : Option Addr} {n m : Nat} {xs : List Int} (h : Row w A n xs) (hm : m ≤ n) : Row w A m (xs.take m) := by
 refine ⟨by rw [List.length_take, h.1]; omega, fun x hx => h.2.1 x (List.mem_of_mem_take hx), fun hn => ?_⟩
 obtain ⟨a, ha, hb, hc⟩ := h.2.2 (by omega)
 exact ⟨a, ha, hb, fun j hj => by rw [hc j (by omega)]; simp only [List.getD_eq_getElem?_getD, List.getElem?_take, if_pos hj]⟩
theorem Row.lt {w : World} {A : Option Addr} {n : Nat} {xs : List Int} (h : Row w A n xs) (hn : 0 < n) (a : Addr) (ha : A = some a) : a.block < w.heap.size := by
 obtain ⟨a', h1, h2, _⟩ := h.2.2 hn
 cases ha.symm.trans h1
 exact h2
def Rd (w : World) (g : Nat) (A : Option Addr) (n c : Nat) (xs : List Int) (p : Nat) : Prop :=
 w.heap[g]? = some (.cells #[.slice A n c, .int .i64 (p : Int)] 77 (0, 0)) ∧ Row w A n xs ∧ n ≤ c ∧ n ≤ 1200 ∧ p ≤ n ∧ (0 < n → ∀ a, A = some a → a.block < g)
theorem Rd.below {w w1 : World} {g : Nat} {A : Option Addr} {n c p : Nat} {xs : List Int} (h : Rd w g A n c xs p) (hb : Below w.heap.size w w1) : Rd w1 g A n c xs p :=
 ⟨blk_below h.1 hb, h.2.1.below hb, h.2.2⟩
theorem getD_range {xs : List Int} {j : Nat} (h : ∀ x ∈ xs, 0 ≤ x ∧ x ≤ 255) : 0 ≤ xs.getD j 0 ∧ xs.getD j 0 ≤ 255 := by
 rw [List.getD_eq_getElem?_getD]
 cases hx : xs[j]? with
 | none => simp
 | some y => exact h y (List.mem_of_getElem? hx)
def Nx (w : World) (g : Nat) (A : Option Addr) (n c : Nat) (xs : List Int) (p : Nat) (e : Ending) (w' : World) : Prop :=
 ∃ (v : Int) (q : Nat), e = .returned (.int .i64 v) ∧ 0 ≤ v ∧ v ≤ 255 ∧ Rd w' g A n c xs q ∧ (if p < n then q = p + 1 else q = p) ∧ Tch w w' (fun k => k = g)
set_option maxRecDepth 100000 in
set_option maxHeartbeats 4000000 in
theorem next (g : Nat) (A : Option Addr) (n c : Nat) (xs : List Int) (p : Nat) (w : World) (h : Rd w g A n c xs p) :
  Calls Tryz.prog 23 #[.pointer (some ⟨g, 0, none⟩)] w fun e w' => Nx w g A n c xs p e w' := by
 have HR := Lib.hid h
 have x0 : w.cell? ⟨g, 0, none⟩ = some (.slice A n c) := (blk_cell h.1 0).trans rfl
 have x1 : w.cell? ⟨g, 1, none⟩ = some (.int .i64 (p : Int)) := (blk_cell h.1 1).trans rfl
 have f1 := blk_frozen h.1 1
 clear h
 go_enter Tryz.func23, Tryz.ntmps23
 by_cases hp : p < n
 ·have d1 : decide ((p : Int) < (n : Int)) = true := decide_eq_true (by omega)
  have d2 : decide (p < n) = true := decide_eq_true hp
  obtain ⟨a, rfl, hb, hc⟩ := HR.out.2.1.2.2 (by omega)
  have y0 := hc p hp
  have hg := getD_range (j := p) HR.out.2.1.2.1
  have i0 : (0 : Int) ≤ (p : Int) := by omega
  have i1 : (p : Int) < (n : Int) := by omega
  have hw : IntKind.i64.wrap (xs.getD p 0) = xs.getD p 0 := by rw [i64_w]; unfold wrap64; omega
  have hw2 : IntKind.i64.wrap ((p : Int) + 1) = (p : Int) + 1 := by have := HR.out.2.2.2.1; rw [i64_w]; unfold wrap64; omega
  generalize xs.getD p 0 = v at y0 hg hw
  have HV := Lib.hid hg
  have HP := Lib.hid hp
  clear hc hg hp
  go_wp2_with fail
  go_quiet (fail)
  go_wp2_with fail
  go_quiet (fail)
  go_wp2_with fail
  go_ret
  obtain ⟨h1, h2, h3, h4, h5, h6⟩ := HR.out
  have HT := fun m => Tch.setCell (Tch.drewN (Tch.refl w (fun k => k = g)) m) (p := ⟨g, 1, none⟩) (.inl rfl) (.int .i64 ((p : Int) + 1))
  exact ⟨v, p + 1, rfl, HV.out.1, HV.out.2, ⟨blk_put (cs' := #[.slice (some a) n c, .int .i64 ((p + 1 : Nat) : Int)]) (blk_drewN h1 _) 1 _ rfl, h2.tch (HT _) (fun a' ha e => by have := h6 (by have := HP.out; omega) a' ha; omega), h3, h4, HP.out, h6⟩, by rw [if_pos HP.out], HT _⟩
 ·have d1 : decide ((p : Int) < (n : Int)) = false := decide_eq_false (by omega)
  have d2 : decide (p < n) = false := decide_eq_false hp
  have HP := Lib.hid hp
  clear hp
  go_wp2_with fail
  go_quiet (fail)
  go_wp2_with fail
  go_ret
  exact ⟨0, p, rfl, by decide, by decide, HR.out.below (pw_below_drewN (Below.refl _ _) _), by rw [if_neg HP.out], Tch.drewN (Tch.refl _ _) _⟩
theorem left (g : Nat) (A : Option Addr) (n c : Nat) (xs : List Int) (p : Nat) (w : World) (h : Rd w g A n c xs p) :
  Calls Tryz.prog 24 #[.pointer (some ⟨g, 0, none⟩)] w fun e w' => e = .returned (.int .i64 ((n : Int) - (p : Int))) ∧ Below w.heap.size w w' := by
 have x0 : w.cell? ⟨g, 0, none⟩ = some (.slice A n c) := (blk_cell h.1 0).trans rfl
 have x1 : w.cell? ⟨g, 1, none⟩ = some (.int .i64 (p : Int)) := (blk_cell h.1 1).trans rfl
 have hw2 : IntKind.i64.wrap ((n : Int) - (p : Int)) = (n : Int) - (p : Int) := by have := h.2.2.2.1; have := h.2.2.2.2.1; rw [i64_w]; unfold wrap64; omega
 clear h
 go_enter Tryz.func24, Tryz.ntmps24
 go_wp2_with fail
 go_quiet (fail)
 go_wp2_with fail
 go_ret
 exact ⟨rfl, pw_below_drewN (Below.refl _ _) _⟩
theorem rem_range (k m : Int) (h0 : 0 ≤ k) (hm : 0 < m) : 0 ≤ Int.tmod k m ∧ Int.tmod k m < m := by
 rw [Int.tmod_eq_emod_of_nonneg h0]
 exact ⟨Int.emod_nonneg _ (by omega), Int.emod_lt_of_pos _ hm⟩
set_option maxRecDepth 100000 in
set_option maxHeartbeats 4000000 in
theorem key (k : Int) (h0 : 0 ≤ k) (w : World) :
  Calls Tryz.prog 47 #[.int .i64 k] w fun e w' => ∃ s : ByteArray, e = .returned (.string s) ∧ s.size ≤ 7 ∧ w' = w := by
 have hr := rem_range k 12 h0 (by decide)
 go_enter Tryz.func47, Tryz.ntmps47
 generalize hm : Int.tmod k 12 = m at hr
 by_cases c1 : m < 4
 ·have d1 : decide (m < 4) = true := decide_eq_true c1
  have hw2 : IntKind.i64.wrap (m + 1) = m + 1 := by rw [i64_w]; unfold wrap64; omega
  have i0 : 0 ≤ m := hr.1
  have i1 : m ≤ m + 1 := by omega
  have i2 : m + 1 ≤ 4 := by omega
  go_wp2_with fail
  go_ret
  exact ⟨_, rfl, by rw [ByteArray.size_extract]; omega, rfl⟩
 ·have d1 : decide (m < 4) = false := decide_eq_false c1
  rcases (show m = 4 ∨ m = 5 ∨ m = 6 ∨ m = 7 ∨ m = 8 ∨ m = 9 ∨ m = 10 ∨ m = 11 by omega) with rfl | rfl | rfl | rfl | rfl | rfl | rfl | rfl
  all_goals
   go_wp2_with fail
   go_ret
   exact ⟨_, rfl, by decide, rfl⟩
set_option maxRecDepth 100000 in
set_option maxHeartbeats 4000000 in
theorem str (k : Int) (h0 : 0 ≤ k) (hk : k ≤ 255) (w : World) :
  Calls Tryz.prog 25 #[.int .i64 k] w fun e w' => ∃ s : ByteArray, e = .returned (.string s) ∧ s.size ≤ 7 ∧ w' = w := by
 have hr := rem_range k 8 h0 (by decide)
 have hw : wrap64 (Int.tdiv k 8) = Int.tdiv k 8 := by rw [Int.tdiv_eq_ediv_of_nonneg h0]; unfold wrap64; omega
 have hd : 0 ≤ Int.tdiv k 8 := by rw [Int.tdiv_eq_ediv_of_nonneg h0]; omega
 have hw2 : IntKind.i64.wrap (Int.tdiv k 8) = Int.tdiv k 8 := by rw [i64_w]; exact hw
 go_enter Tryz.func25, Tryz.ntmps25
 generalize hm : Int.tmod k 8 = m at hr
 by_cases c1 : m < 5
 ·have d1 : decide (m < 5) = true := decide_eq_true c1
  go_wp2_with fail
  refine (key _ hd w).mono ?_
  rintro e w' ⟨s, rfl, hs, rfl⟩
  go_wp2_with fail
  go_ret
  exact ⟨s, rfl, hs, rfl⟩
 ·have d1 : decide (m < 5) = false := decide_eq_false c1
  rcases (show m = 5 ∨ m = 6 ∨ m = 7 by omega) with rfl | rfl | rfl
  all_goals
   go_wp2_with fail
   go_ret
   exact ⟨_, rfl, by decide, rfl⟩
set_option maxRecDepth 100000 in
set_option maxHeartbeats 4000000 in
theorem odd (k : Int) (h0 : 0 ≤ k) (w : World) :
  Calls Tryz.prog 48 #[.int .i64 k] w fun e w' => ∃ s : ByteArray, e = .returned (.string s) ∧ s.size ≤ 100 ∧ Below w.heap.size w w' := by
 have hr := rem_range k 20 h0 (by decide)
 go_enter Tryz.func48, Tryz.ntmps48
 generalize hm : Int.tmod k 20 = m at hr
 rcases (show m = 0 ∨ m = 1 ∨ m = 2 ∨ m = 3 ∨ m = 4 ∨ m = 5 ∨ m = 6 ∨ m = 7 ∨ m = 8 ∨ m = 9 ∨ m = 10 ∨ m = 11 ∨ m = 12 ∨ m = 13 ∨ m = 14 ∨ m = 15 ∨ m = 16 ∨ m = 17 ∨ m = 18 ∨ m = 19 by omega) with rfl | rfl | rfl | rfl | rfl | rfl | rfl | rfl | rfl | rfl | rfl | rfl | rfl | rfl | rfl | rfl | rfl | rfl | rfl | rfl
 all_goals
  go_wp2_with fail
  go_ret
  exact ⟨_, rfl, by decide, below_alloc (Below.refl _ _) _⟩
end Go.Proofs.YtbonodglnilkfaaGreatDoor.Draw
namespace Go.Proofs.YtbonodglnilkfaaGreatDoor.Draw
open Go Go.Proofs Go.RowKit Go.Proofs.YtbonodglnilkfaaGreatDoorW.PrintWords Go.Proofs.YtbonodglnilkfaaGreatDoorW.PrintLast Go.Proofs.YtbonodglnilkfaaGreatDoor.Tree Go.Proofs.YtbonodglnilkfaaGreatDoor.Pf Go.Proofs.YtbonodglnilkfaaGreatDoor.Impl Go.Proofs.YtbonodglnilkfaaGreatDoor.Read Go.Proofs.YtbonodglnilkfaaGreatDoor.Tchs
set_option linter.unusedVariables false
set_option linter.unusedSimpArgs false
theorem fit {x : Int} (h0 : -9223372036854775808 ≤ x) (h1 : x ≤ 9223372036854775807) : IntKind.i64.wrap x = x := by rw [i64_w]; unfold wrap64; omega
theorem fits {x : Int} (h : IntKind.i64.wrap x = x) : wrap64 x = x := by rw [← i64_w]; exact h
theorem chg (s : ByteArray) (q : Int) (hs : s.size ≤ 100000000) (hq : 0 ≤ q) (c0 : s.size ≠ 0) : ∃ m : Nat, Int.tmod q (s.size : Int) = (m : Int) ∧ m + 1 ≤ s.size ∧ ((s.size : Int) == 0) = false ∧ (s.size == 0) = false ∧
  ¬ ((s.size : Int) = 0) ∧ IntKind.i64.wrap ((m : Int) + 1) = (m : Int) + 1 ∧ (0 : Int) ≤ (m : Int) ∧ (m : Int) ≤ (s.size : Int) ∧ (0 : Int) ≤ (m : Int) + 1 ∧ (m : Int) + 1 ≤ (s.size : Int) ∧
  (9223372036854775807 < min m s.size + (s.size - (m + 1))) = False ∧ (9223372036854775807 < min (m + 1) s.size + (s.size - m)) = False := by
 have qr := rem_range q (s.size : Int) hq (by omega)
 refine ⟨(Int.tmod q (s.size : Int)).toNat, (Int.toNat_of_nonneg qr.1).symm, by omega, beq_eq_false_iff_ne.mpr (by omega), beq_eq_false_iff_ne.mpr c0, by omega, fit (by omega) (by omega), by omega, by omega, by omega, by omega, eq_false (by omega), eq_false (by omega)⟩
set_option maxRecDepth 100000 in
set_option maxHeartbeats 4000000 in
theorem change (g : Nat) (A : Option Addr) (n c : Nat) (xs : List Int) (p : Nat) (s : ByteArray) (w : World) (h : Rd w g A n c xs p) (hs : s.size ≤ 100000000) :
  Calls Tryz.prog 27 #[.pointer (some ⟨g, 0, none⟩), .string s] w fun e w' => ∃ t : ByteArray, e = .returned (.string t) ∧ t.size ≤ s.size + 101 ∧ Tch w w' (fun k => k = g) := by
 have HR := Lib.hid h
 have HS := Lib.hid hs
 clear h hs
 go_enter Tryz.func27, Tryz.ntmps27
 go_wp2_with fail
 refine (next g A n c xs p w HR.out).mono ?_
 rintro e w1 ⟨k, p1, rfl, hk0, hk1, hr1, _, ht1⟩
 have HR1 := Lib.hid hr1
 have HT1 := Lib.hid ht1
 have kr := rem_range k 4 hk0 (by decide)
 have kd : 0 ≤ Int.tdiv k 4 := by rw [Int.tdiv_eq_ediv_of_nonneg hk0]; omega
 have kw : IntKind.i64.wrap (Int.tdiv k 4) = Int.tdiv k 4 := fit (by omega) (by rw [Int.tdiv_eq_ediv_of_nonneg hk0]; omega)
 have HK := Lib.hid kr
 have HD := Lib.hid kd
 have HW := Lib.hid kw
 clear hr1 ht1 HR hk0 hk1 kr kd kw
 go_wp2_with fail
 refine (next g A n c xs p1 w1 HR1.out).mono ?_
 rintro e w2 ⟨a, p2, rfl, ha0, ha1, hr2, _, ht2⟩
 have HR2 := Lib.hid hr2
 have HT2 := Lib.hid (HT1.out.then_ ht2 (fun _ h => .inl h))
 have ew1 : IntKind.i64.wrap (a * 256) = a * 256 := fit (by omega) (by omega)
 have HA := Lib.hid (show 0 ≤ a * 256 ∧ a * 256 ≤ 65280 from ⟨by omega, by omega⟩)
 clear hr2 ht2 HR1 HT1 ha0 ha1
 go_wp2_with fail
 refine (next g A n c xs p2 w2 HR2.out).mono ?_
 rintro e w3 ⟨b, p3, rfl, hb0, hb1, hr3, _, ht3⟩
 have HT3 := Lib.hid (HT2.out.then_ ht3 (fun _ h => .inl h))
 clear hr3 ht3 HR2 HT2 ew1
 generalize a * 256 = a2 at HA ⊢
 obtain ⟨q, hq, hq0, hq1⟩ : ∃ q, a2 + b = q ∧ 0 ≤ q ∧ q ≤ 100000 := ⟨_, rfl, by have := HA.out; omega, by have := HA.out; omega⟩
 have ew2 : IntKind.i64.wrap q = q := fit (by omega) (by omega)
 clear hb0 hb1
 by_cases c0 : s.size = 0
 ·have d0 : ((s.size : Int) == 0) = true := by rw [c0]; rfl
  have HC := Lib.hid c0
  clear hq0 hq1
  go_wp2_with fail
  go_ret
  exact ⟨_, rfl, Nat.le_trans (by decide : (⟨#[45]⟩ : ByteArray).size ≤ 101) (Nat.le_add_left _ _), HT3.out⟩
 ·obtain ⟨m, hr, hlt, d0, d0n, hne, ew3, i0, i1, i2, i3, z1, z2⟩ := chg s q HS.out hq0 c0
  have HL := Lib.hid hlt
  clear hlt c0 hq0 hq1
  generalize hm4 : Int.tmod k 4 = m4 at HK
  rcases (show m4 = 0 ∨ m4 = 1 ∨ (m4 ≠ 0 ∧ m4 ≠ 1) by omega) with rfl | rfl | ⟨n0, n1⟩
  ·go_wp2_with fail
   go_quiet (fail)
   go_wp2_with fail
   go_ret
   exact ⟨_, rfl, by rw [ByteArray.size_append, ByteArray.size_extract, ByteArray.size_extract]; have := HL.out; clear z1 z2 hr hm4 ew2 ew3 hq; omega, Tch.drewN HT3.out _⟩
  ·go_wp2_with fail
   go_quiet (fail)
   go_wp2_with fail
   go_ret
   exact ⟨_, rfl, by rw [ByteArray.size_append, ByteArray.size_extract, ByteArray.size_extract]; have := HL.out; clear z1 z2 hr hm4 ew2 ew3 hq; omega, Tch.drewN HT3.out _⟩
  ·have d1 : (m4 == 0) = false := beq_eq_false_iff_ne.mpr n0
   have d2 : (m4 == 1) = false := beq_eq_false_iff_ne.mpr n1
   have kw := HW.out
   have HZ := Lib.hid (fun (o : ByteArray) (ho : o.size ≤ 100) => (show (9223372036854775807 < min m s.size + o.size) = False ∧ (9223372036854775807 < min m s.size + o.size + (s.size - m)) = False from ⟨eq_false (by have := HL.out; have := HS.out; omega), eq_false (by have := HL.out; have := HS.out; omega)⟩))
   go_wp2_with fail
   go_region_held3 (fun w' => True) (first | exact trivial | go_keep) (first | (go_at_call 48; refine (odd _ HD.out _).mono ?_; rintro e w6 ⟨o, rfl, ho, hb6⟩; obtain ⟨y1, y2⟩ := HZ.out o ho; have HO := Lib.hid ho; have HT6 := Lib.hid (Tch.below (Tch.drew HT3.out) hb6); clear ho hb6))
   go_wp2_with fail
   go_ret
   exact ⟨_, rfl, by rw [ByteArray.size_append, ByteArray.size_append, ByteArray.size_extract, ByteArray.size_extract]; have := HL.out; have := HO.out; clear z1 z2 hr hm4 ew2 ew3 hq y1 y2 kw; omega, HT6.out⟩
def Opd (w : World) (A : Option Addr) (c : Nat) (e : Ending) (w' : World) : Prop :=
 ∃ (g m : Nat) (ys : List Int), e = .returned (.pointer (some ⟨g, 0, none⟩)) ∧ w.heap.size ≤ g ∧ Rd w' g A m c ys 0 ∧ Below w.heap.size w w'
theorem opened (A : Option Addr) (n c : Nat) (xs : List Int) (w : World) (h : Row w A n xs) (hc : n ≤ c) :
  Calls Tryz.prog 22 #[.slice A n c] w fun e w' => Opd w A c e w' := by
 have HR := Lib.hid h
 have HC := Lib.hid hc
 clear h
 go_enter Tryz.func22, Tryz.ntmps22
 by_cases h1 : (1200 : Int) < (n : Int)
 ·have d1 : decide ((1200 : Int) < (n : Int)) = true := decide_eq_true h1
  have d1n : decide (1200 < n) = true := decide_eq_true (by omega)
  have i0 : (1200 : Int) ≤ (c : Int) := by omega
  have i1 : 1200 ≤ c := by omega
  have HN := Lib.hid h1
  clear hc h1
  go_wp2_with (first | ((with_reducible refine gate_dst (N := 10) rfl ?_); refine zbox (N := 10) (cs := #[.slice A 1200 c, .int .i64 0]) (t := 77) ?_; intro g hg w1 hbox hb; have HG := Lib.hid hbox; have HB := Lib.hid hb; have HE := Lib.hid hg; clear hbox hb hg))
  go_ret
  exact ⟨g, 1200, xs.take 1200, rfl, by rw [HE.out]; exact Nat.le_refl _, ⟨HG.out, (HR.out.below HB.out).take (by have := HN.out; omega), i1, by decide, by decide, fun _ a e => by rw [HE.out]; exact HR.out.lt (by have := HN.out; omega) a e⟩, HB.out⟩
 ·have d1 : decide ((1200 : Int) < (n : Int)) = false := decide_eq_false h1
  have d1n : decide (1200 < n) = false := decide_eq_false (by omega)
  have HN := Lib.hid h1
  clear h1
  go_wp2_with (first | ((with_reducible refine gate_dst (N := 10) rfl ?_); refine zbox (N := 10) (cs := #[.slice A n c, .int .i64 0]) (t := 77) ?_; intro g hg w1 hbox hb; have HG := Lib.hid hbox; have HB := Lib.hid hb; have HE := Lib.hid hg; clear hbox hb hg))
  go_ret
  exact ⟨g, n, xs, rfl, by rw [HE.out]; exact Nat.le_refl _, ⟨HG.out, HR.out.below HB.out, hc, by have := HN.out; omega, by omega, fun hn a e => by rw [HE.out]; exact HR.out.lt hn a e⟩, HB.out⟩
set_option maxRecDepth 100000 in
set_option maxHeartbeats 4000000 in
theorem repeated (n : Nat) (hn : n ≤ 100000) (w : World) :
  Calls Tryz.prog 26 #[.string ⟨#[126]⟩, .int .i64 (n : Int)] w fun e w' => ∃ s : ByteArray, e = .returned (.string s) ∧ s.size ≤ n ∧ Below w.heap.size w w' := by
 have HN := Lib.hid hn
 clear hn
 go_enter Tryz.func26, Tryz.ntmps26
 go_wp2_with fail
 have HO0 := Lib.hid (show (w.alloc (.cells #[] 5)).ownsRow w.heap.size 5 1 (.slice (some ⟨w.heap.size, 0, none⟩) 0 0) ([] : List Int).length (nums .u8 []) from ⟨rfl, .inr ⟨w.heap.size, 0, #[], rfl, Nat.le_refl _, heap_alloc_new w _, Nat.le_refl _, by decide, rfl, rfl⟩⟩)
 have HB0 := Lib.hid (below_alloc (Below.refl w.heap.size w) (.cells #[] 5))
 go_loopw [6, 5] (fun v6 v5 wr => ∃ (i : Nat) (acc : List Int), v6 = .int .i64 (i : Int) ∧ acc.length = i ∧ Hid (i ≤ n) ∧ Hid (wr.ownsRow w.heap.size 5 1 v5 acc.length (nums .u8 acc)) ∧ Hid (Below w.heap.size w wr)) (fun v6 _ _ => n - (intOf v6).toNat)
 case atStart => exact ⟨0, [], rfl, rfl, Lib.hid (Nat.zero_le _), HO0, HB0⟩
 case round =>
  clear HO0 HB0
  obtain ⟨i, acc, rfl, hl, HI, HO, HB⟩ := hrel
  obtain ⟨A, c, rfl⟩ := own_slice HO.out
  have hcv := own_string (P := Tryz.prog) Tryz.underlying25 Tryz.underlying5 Tryz.underlying9 HO.out
  have HL := Lib.hid hl
  clear hl
  by_cases h1 : i < n
  ·have d1 : decide ((i : Int) < (n : Int)) = true := decide_eq_true (by omega)
   have d1n : decide (i < n) = true := decide_eq_true h1
   have H1 := Lib.hid h1
   have ew := fit (x := (i : Int) + 1) (by omega) (by have := HN.out; omega)
   have hcb := fun W => Lib.run_convert_string_bytes (P := Tryz.prog) W 9 25 5 (⟨#[126]⟩ : ByteArray) (u := .string) Tryz.underlying9 Tryz.underlying25 Tryz.underlying5
   clear h1
   have HNW := Lib.hid (show ∀ (j : Nat) (u : Value), (nums .u8 [126])[j]? = some u → (Lib.bytesWorld wr 5 (⟨#[126]⟩ : ByteArray)).cell? ((⟨wr.heap.size, 0, none⟩ : Addr).add j) = some u from nums_news [126] (by intro x hx; simp only [List.mem_cons, List.not_mem_nil, or_false] at hx; subst hx; decide) wr 5)
   have HBB := Lib.hid (Lib.bytesWorld_below wr 5 (⟨#[126]⟩ : ByteArray))
   have hz2 : w.heap.size ≤ wr.heap.size := HB.out.size
   have hln : acc.length + 1 ≤ 100000 := by have := HL.out; have := H1.out; have := HN.out; omega
   obtain ⟨i0', hi, hzz⟩ := Option.map_eq_some_iff.1 info5
   simp only [Prod.mk.injEq] at hzz
   obtain ⟨hz0, hz1, hz2'⟩ := hzz
   go_wp2_with (first | (at_builtin; refine wpList_append_own_at (Lib.bytesWorld wr 5 (⟨#[126]⟩ : ByteArray)) rfl (.tmp 13) (.tmp 15) 25 rfl w.heap.size 5 i0' (.int .u8 0) 1 1 Tryz.underlying25 hi hz0 hz1 hz2' rfl (by decide) (.slice A acc.length c) acc.length (nums .u8 acc) rfl (own_below HO.out HBB.out) ⟨wr.heap.size, 0, none⟩ 1 _ (nums .u8 [126]) rfl (by simp [nums]) HNW.out (fun u hu => by obtain ⟨x, _, rfl⟩ := List.mem_map.1 hu; rfl) (by simp only [maxLen]; omega) (by omega) (Nat.le_trans hz2 HBB.out.size) ?_; intro v4 w4 hown4 hg4 _ _))
   have HBL4 := Lib.hid (Below.grown (below_then HB.out HB.out.size HBB.out) hg4 (Nat.le_trans hz2 HBB.out.size) (fun k hk => own_base HO.out k hk))
   have HO4 := Lib.hid (show w4.ownsRow w.heap.size 5 1 v4 (acc ++ [126]).length (nums .u8 (acc ++ [126])) by rw [List.length_append]; simpa [nums] using hown4)
   have HL4 := Lib.hid (show (acc ++ [(126 : Int)]).length = i + 1 by rw [List.length_append, HL.out]; rfl)
   generalize acc ++ [(126 : Int)] = acc4 at HO4 HL4
   clear hown4 hg4 hcv hcb
   exact ⟨⟨i + 1, acc4, by congr 1, HL4.out, Lib.hid H1.out, HO4, HBL4⟩, by have := H1.out; simp [intOf]; omega⟩
  ·have d1 : decide ((i : Int) < (n : Int)) = false := decide_eq_false (by omega)
   have d1n : decide (i < n) = false := decide_eq_false h1
   clear h1
   go_wp2_with fail
   go_ret
   exact ⟨_, rfl, by rw [strOfNums_size, HL.out]; exact HI.out, HB.out⟩
end Go.Proofs.YtbonodglnilkfaaGreatDoor.Draw
namespace Go.Proofs.YtbonodglnilkfaaGreatDoor.Draw
open Go Go.Proofs Go.RowKit Go.Proofs.YtbonodglnilkfaaGreatDoorW.PrintWords Go.Proofs.YtbonodglnilkfaaGreatDoorW.PrintLast Go.Proofs.YtbonodglnilkfaaGreatDoor.Tree Go.Proofs.YtbonodglnilkfaaGreatDoor.Pf Go.Proofs.YtbonodglnilkfaaGreatDoor.Impl Go.Proofs.YtbonodglnilkfaaGreatDoor.Read Go.Proofs.YtbonodglnilkfaaGreatDoor.Tchs
set_option linter.unusedVariables false
set_option linter.unusedSimpArgs false
theorem conv_row {P : Program} {src dst e : TypeId} {w : World} {A : Option Addr} {n c : Nat} {xs : List Int} (hs : P.underlying src = some (.slice e)) (he : P.underlying e = some (.int .u8)) (hd : P.underlying dst = some .string)
  (h : Row w A n xs) : ∃ s : ByteArray, s.size = n ∧ (convert src dst (.slice A n c)).run P w = .ok (.string s) w := by
 cases A with
 | none =>
  have hn : n = 0 := by
   rcases Nat.eq_zero_or_pos n with hn | hn
   ·exact hn
   ·obtain ⟨a, ha, _⟩ := h.2.2 hn; cases ha
  subst hn
  exact ⟨_, rfl, run_convert_bytes_nil w src e hs he 0 c dst hd⟩
 | some a =>
  refine ⟨strOfNums xs, by rw [strOfNums_size, h.1], ?_⟩
  have hl : (loadCells a n).run P w = .ok (xs.map (Value.int .u8)).toArray w := by
   have hq := run_loadCells_list (P := P) w a (xs.map (Value.int .u8)) (fun j v hj => by
    have hjl : j < xs.length := by
     have := (List.getElem?_eq_some_iff.1 hj).1
     simpa using this
    obtain ⟨a', ha, _, hc⟩ := h.2.2 (by have := h.1; omega)
    cases ha
    rw [hc j (by have := h.1; omega)]
    rw [List.getElem?_map, List.getElem?_eq_getElem hjl] at hj
    simp only [Option.map_some, Option.some.injEq] at hj
    rw [← hj, List.getD_eq_getElem?_getD, List.getElem?_eq_getElem hjl]
    rfl)
   rw [List.length_map, h.1] at hq
   exact hq
  rw [run_convert_bytes_string w src dst e _ n c hs he hd, run_bytesToString w _ n c xs hl, foldl_push_bytes]
  simp [strOfNums, ByteArray.empty, ByteArray.emptyWithCapacity]
  rfl
set_option maxRecDepth 100000 in
set_option maxHeartbeats 4000000 in
theorem drawn (A : Option Addr) (n c : Nat) (xs : List Int) (w : World) (h : Row w A n xs) (hn : n ≤ 1048576) (hc : n ≤ c) :
  Calls Tryz.prog 8 #[.slice A n c] w fun e w' => ∃ s : ByteArray, e = .returned (.string s) ∧ s.size ≤ 1048576 ∧ Below w.heap.size w w' := by
 have HW := Lib.hid h
 have HN := Lib.hid hn
 have HO := Lib.hid (opened A n c xs w h hc)
 clear h hn hc
 go_enter Tryz.func8, Tryz.ntmps8
 go_wp2_with fail
 refine HO.out.mono ?_
 rintro e w1 ⟨g, m, ys, rfl, hg, hr1, hb1⟩
 have HR1 := Lib.hid hr1
 have HG := Lib.hid hg
 have HB1 := Lib.hid hb1
 clear hr1 hb1 hg HO
 go_wp2_with fail
 refine (next g A m c ys 0 w1 HR1.out).mono ?_
 rintro e w2 ⟨k, p2, rfl, hk0, hk1, hr2, _, ht2⟩
 have HR2 := Lib.hid hr2
 have HB2 := Lib.hid (HB1.out.trans (Tch.to_below ht2 (B := w.heap.size) HB1.out.size (fun j hj => by have := HG.out; omega)))
 have HM := Lib.hid (show m ≤ 1200 from hr2.2.2.2.1)
 have k5 := rem_range k 5 hk0 (by decide)
 have k20 := rem_range k 20 hk0 (by decide)
 have e20 : Int.tdiv k 20 = k / 20 := Int.tdiv_eq_ediv_of_nonneg hk0
 have k2 := rem_range (Int.tdiv k 20) 2 (by rw [e20]; omega) (by decide)
 have ed : IntKind.i64.wrap (Int.tdiv k 20) = Int.tdiv k 20 := fit (by rw [e20]; omega) (by rw [e20]; omega)
 clear hr2 ht2 HR1 HB1 e20 hk0 hk1
 generalize hm5 : Int.tmod k 5 = m5 at k5
 generalize hm20 : Int.tmod k 20 = m20 at k20
 generalize hd20 : Int.tdiv k 20 = d20 at k2 ed
 generalize hm2 : Int.tmod d20 2 = m2 at k2
 have e1 : IntKind.i64.wrap (1 + m5) = 1 + m5 := fit (by omega) (by omega)
 obtain ⟨r, rfl⟩ : ∃ r : Nat, m2 = (r : Int) := ⟨m2.toNat, by omega⟩
 have e2 : IntKind.i64.wrap (20000 + (r : Int)) = ((20000 + r : Nat) : Int) := by rw [fit (by omega) (by omega)]; omega
 have HK5 := Lib.hid k5
 have HK2 := Lib.hid (show r ≤ 1 by omega)
 clear k5 k20 k2
 go_wp2_with fail
 go_loopw [6, 5] (fun v6 v5 wr => ∃ (i q : Nat) (s : ByteArray), v6 = .int .i64 (i : Int) ∧ v5 = .string s ∧ Hid (i ≤ 5 + q ∧ q ≤ m ∧ s.size ≤ 7 * i) ∧ Hid (Rd wr g A m c ys q) ∧ Hid (Below w.heap.size w wr)) (fun v6 _ _ => 2000 - (intOf v6).toNat)
 case atStart => exact ⟨0, p2, ⟨#[]⟩, rfl, rfl, Lib.hid ⟨Nat.zero_le _, HR2.out.2.2.2.2.1, Nat.zero_le _⟩, HR2, HB2⟩
 case round =>
  clear HR2 HB2
  obtain ⟨i, q, s, rfl, rfl, HI, HR, HB⟩ := hrel
  by_cases c1 : (i : Int) < 1 + m5
  ·have d1 : decide ((i : Int) < 1 + m5) = true := decide_eq_true c1
   have HC := Lib.hid c1
   clear c1
   go_wp2_with fail
   refine (next g A m c ys q wr HR.out).mono ?_
   rintro e w3 ⟨v, q3, rfl, hv0, hv1, hr3, hq3, ht3⟩
   have HR3 := Lib.hid hr3
   have HQ3 := Lib.hid (show i + 1 ≤ 5 + q3 from by have := HC.out; have := HK5.out; clear e1 e2 ed; omega)
   have HB3 := Lib.hid (HB.out.trans (Tch.to_below ht3 (B := w.heap.size) HB.out.size (fun j hj => by have := HG.out; omega)))
   clear hr3 hq3 ht3
   go_wp2_with fail
   refine (str v hv0 hv1 w3).mono ?_
   rintro e w4 ⟨t, rfl, hts, rfl⟩
   have HT := Lib.hid hts
   have z1 : (9223372036854775807 < s.size + t.size) = False := eq_false (by have := HI.out; have := HM.out; clear e1 e2 ed; omega)
   have ew : IntKind.i64.wrap ((i : Int) + 1) = (i : Int) + 1 := fit (by omega) (by have := HI.out; have := HM.out; clear e1 e2 ed; omega)
   clear hts hv0 hv1
   go_wp2_with fail
   refine ⟨⟨i + 1, q3, s ++ t, by congr 1, rfl, Lib.hid ⟨?_, HR3.out.2.2.2.2.1, ?_⟩, HR3, HB3⟩, ?_⟩
   ·have := HQ3.out; have := HI.out; omega
   ·have := HT.out; have := HI.out; rw [ByteArray.size_append]; clear z1 ew e1 e2 ed; omega
   ·have := HI.out; have := HM.out; simp [intOf]; clear z1 ew e1 e2 ed; omega
  ·have d1 : decide ((i : Int) < 1 + m5) = false := decide_eq_false c1
   clear c1
   go_wp2_with fail
   refine (left g A m c ys q wr HR.out).mono ?_
   rintro e wl ⟨rfl, hbl⟩
   have HRl := Lib.hid (HR.out.below hbl)
   have HBl := Lib.hid (below_step HB.out hbl)
   clear hbl
   by_cases c2 : (4 : Int) < (m : Int) - (q : Int)
   ·have d2 : decide ((4 : Int) < (m : Int) - (q : Int)) = true := decide_eq_true c2
    have HC := Lib.hid c2
    clear c2
    go_wp2_with fail
    refine (next g A m c ys q wl HRl.out).mono ?_
    rintro e w3 ⟨v, q3, rfl, hv0, hv1, hr3, hq3, ht3⟩
    have HR3 := Lib.hid hr3
    have HQ3 := Lib.hid (show i + 1 ≤ 5 + q3 from by rw [if_pos (by have := HC.out; omega)] at hq3; have := HI.out; omega)
    have HB3 := Lib.hid (HBl.out.trans (Tch.to_below ht3 (B := w.heap.size) HBl.out.size (fun j hj => by have := HG.out; omega)))
    clear hr3 hq3 ht3
    go_wp2_with fail
    refine (str v hv0 hv1 w3).mono ?_
    rintro e w4 ⟨t, rfl, hts, rfl⟩
    have HT := Lib.hid hts
    have z1 : (9223372036854775807 < s.size + t.size) = False := eq_false (by have := HI.out; have := HM.out; clear e1 e2 ed; omega)
    have ew : IntKind.i64.wrap ((i : Int) + 1) = (i : Int) + 1 := fit (by omega) (by have := HI.out; have := HM.out; clear e1 e2 ed; omega)
    clear hts hv0 hv1
    go_wp2_with fail
    refine ⟨⟨i + 1, q3, s ++ t, by congr 1, rfl, Lib.hid ⟨?_, HR3.out.2.2.2.2.1, ?_⟩, HR3, HB3⟩, ?_⟩
    ·have := HQ3.out; have := HI.out; omega
    ·have := HT.out; have := HI.out; rw [ByteArray.size_append]; clear z1 ew e1 e2 ed; omega
    ·have := HI.out; have := HM.out; simp [intOf]; clear z1 ew e1 e2 ed; omega
   ·have d2 : decide ((4 : Int) < (m : Int) - (q : Int)) = false := decide_eq_false c2
    clear c2
    have HSZ := Lib.hid (show s.size ≤ 10000 by have := HI.out; have := HM.out; clear e1 e2 ed; omega)
    by_cases c3 : m5 = 4
    ·subst c3
     obtain ⟨x, hx, hcv⟩ := conv_row (P := Tryz.prog) (src := 25) (dst := 9) (e := 5) (c := c) Tryz.underlying25 Tryz.underlying5 Tryz.underlying9 (HW.out.below HBl.out)
     have HX := Lib.hid hx
     clear hx
     go_wp2_with fail
     go_ret
     exact ⟨_, rfl, by rw [HX.out]; exact HN.out, HBl.out⟩
    ·have d3 : (m5 == 4) = false := beq_eq_false_iff_ne.mpr c3
     by_cases c4 : m20 = 3
     ·subst c4
      go_wp2_with fail
      refine (repeated (20000 + r) (by have := HK2.out; omega) wl).mono ?_
      rintro e w5 ⟨x, rfl, hx, hb5⟩
      have HX := Lib.hid hx
      have HB5 := Lib.hid (below_step HBl.out hb5)
      clear hx hb5
      go_wp2_with fail
      go_ret
      exact ⟨_, rfl, by have := HX.out; have := HK2.out; omega, HB5.out⟩
     ·have d4 : (m20 == 3) = false := beq_eq_false_iff_ne.mpr c4
      by_cases c5 : m5 = 2
      ·subst c5
       go_wp2_with fail
       refine (change g A m c ys q s wl HRl.out (by have := HSZ.out; omega)).mono ?_
       rintro e w5 ⟨x, rfl, hx, ht5⟩
       have HX := Lib.hid hx
       have HB5 := Lib.hid (HBl.out.trans (Tch.to_below ht5 (B := w.heap.size) HBl.out.size (fun j hj => by have := HG.out; omega)))
       clear hx ht5
       go_wp2_with fail
       go_ret
       exact ⟨_, rfl, by have := HX.out; have := HSZ.out; omega, HB5.out⟩
      ·have d5 : (m5 == 2) = false := beq_eq_false_iff_ne.mpr c5
       go_wp2_with fail
       go_ret
       exact ⟨_, rfl, by have := HSZ.out; omega, HBl.out⟩
end Go.Proofs.YtbonodglnilkfaaGreatDoor.Draw
namespace Go.Proofs.YtbonodglnilkfaaGreatDoor.Qte
open Go Go.RowKit Go.Proofs.YtbonodglnilkfaaGreatDoor.PJs Go.Proofs.YtbonodglnilkfaaGreatDoorW.PrintWords Go.Proofs.YtbonodglnilkfaaGreatDoor.Str Go.Proofs.YtbonodglnilkfaaGreatDoor.Tree Go.Proofs.YtbonodglnilkfaaGreatDoor.Read Go.Proofs.YtbonodglnilkfaaGreatDoor.Pf
set_option linter.unusedVariables false
set_option linter.unusedSimpArgs false
def vF (s : ByteArray) : Nat → Nat → Bool
 | 0, _ => true
 | b + 1, p => if p < s.size then (if badR s p = true then false else vF s b (p + (Utf8.decode s p).2)) else true
def okF (s : ByteArray) : Bool := vF s s.size 0
theorem vF_end (s : ByteArray) (b p : Nat) (h : ¬ p < s.size) : vF s b p = true := by
 cases b with
 | zero => rfl
 | succ b => rw [vF, if_neg h]
theorem drop_bts (s : ByteArray) : ∀ (k p : Nat), p + k ≤ s.size → (byt s).drop p = btsL s (p : Int) k ++ (byt s).drop (p + k)
 | 0, p, h => by rw [btsL]; rfl
 | k + 1, p, h => by
  rw [btsL, byt_get s p (by omega), drop_bts s k (p + 1) (by omega)]
  rw [show ((p + 1 : Nat) : Int) = (p : Int) + 1 by omega, show p + 1 + k = p + (k + 1) by omega]
  rfl
theorem dec_one (s : ByteArray) (p : Nat) (h : p < s.size) (hb : bt s (p : Int) < 128) : Utf8.decode s p = ((bt s (p : Int)).toNat, 1) := by
 have e : bt s (p : Int) = ((s[p]'h).toNat : Int) := by simp [bt, h]
 rw [decode_ascii s p h (by omega), e]
 simp
theorem VU_bad (s : ByteArray) (p : Nat) (h : p < s.size) (hb : ¬ badR s p = true) : VU (btsL s (p : Int) (Utf8.decode s p).2) := by
 by_cases h1 : bt s (p : Int) < 128
 ·have h0 := (bt_range s (p : Int)).1
  rw [dec_one s p h h1]
  have hv := VU.one h0 (by omega) (.inl (by omega))
  have hu : u8L (bt s (p : Int)) = [bt s (p : Int)] := by unfold u8L; rw [if_pos h1]
  rw [hu] at hv
  simpa [btsL] using hv
 ·exact VU_piece h (show pieceF s p = some (btsL s (p : Int) (Utf8.decode s p).2, p + (Utf8.decode s p).2) by
   unfold pieceF
   rw [if_neg (by omega), if_neg (by omega), if_neg h1, if_neg hb])
theorem VU_v (s : ByteArray) : ∀ (b p : Nat), s.size ≤ p + b → p ≤ s.size → vF s b p = true → VU ((byt s).drop p)
 | 0, p, h, hp, hv => by
  rw [List.drop_of_length_le (by rw [byt_len]; omega)]
  exact VU.nil
 | b + 1, p, h, hp, hv => by
  by_cases hlt : p < s.size
  ·rw [vF, if_pos hlt] at hv
   by_cases hb : badR s p = true
   ·rw [if_pos hb] at hv; cases hv
   ·rw [if_neg hb] at hv
    have hd := dec_pos s p hlt
    rw [drop_bts s _ p hd.2.1]
    exact VU.app (VU_bad s p hlt hb) (VU_v s b _ (by omega) hd.2.1 hv)
  ·rw [List.drop_of_length_le (by rw [byt_len]; omega)]
   exact VU.nil
theorem VU_ok {s : ByteArray} (h : okF s = true) : VU (byt s) := by
 have := VU_v s s.size 0 (by omega) (by omega) h
 simpa using this
def qt (s : ByteArray) : ByteArray := strOfNums (quo s)
theorem qt_size (s : ByteArray) : (qt s).size = (quo s).length := strOfNums_size _
theorem strF_qt {s : ByteArray} (h : VU (byt s)) : strF (qt s) 0 = some (byt s, (qt s).size) := by
 have := strF_quo s h (qt s) 0 [] (by rw [List.append_nil]; exact At.self _ (quo_range s))
 rw [this, qt_size, Nat.zero_add]
theorem bt_qt (s : ByteArray) : 0 < (qt s).size ∧ bt (qt s) 0 = 34 := by
 have hz : 0 < (quo s).length := by unfold quo; simp
 refine ⟨by rw [qt_size]; exact hz, ?_⟩
 have := bt_str (quo s) (quo_range s) 0 hz
 rw [show ((0 : Nat) : Int) = 0 from rfl] at this
 unfold qt
 rw [this]
 unfold quo
 rfl
theorem canF_qt {s : ByteArray} (h : VU (byt s)) (hs : (qt s).size ≤ 20000) : canF (qt s) = (qt s, 0) := by
 have hb := bt_qt s
 have hsk : skip (qt s) 0 = 0 := by
  unfold skip
  rw [runF_at, if_pos hb.1, if_neg (by rw [show ((0 : Nat) : Int) = 0 from rfl, hb.2]; decide)]
 have hr : readT (qt s) = some (.str s, (qt s).size) := by
  rw [readT_at, hsk, val_q _ _ _ hb.1 hb.2, strF_qt h]
  simp [str_byt]
 have hend : skip (qt s) (qt s).size = (qt s).size := by
  unfold skip
  rw [runF_at, if_neg (by omega)]
 have htree : treeF (qt s) = .str s := by unfold treeF; rw [hr]; simp [norm]
 have hcode : codeF (qt s) = 0 := by
  rw [codeF_some (by omega) hr, if_pos hend, if_neg (by simp [big]), if_neg (by simp [twice]), if_pos (by simp [norm, dep, cnt])]
 rw [canF_ok hcode, htree]
 rfl
end Go.Proofs.YtbonodglnilkfaaGreatDoor.Qte
namespace Go.Proofs.YtbonodglnilkfaaGreatDoor.Qte
open Go Go.Proofs Go.RowKit Go.Proofs.YtbonodglnilkfaaGreatDoor.PJs Go.Proofs.YtbonodglnilkfaaGreatDoorW.PrintWords Go.Proofs.YtbonodglnilkfaaGreatDoorW.PrintLast Go.Proofs.YtbonodglnilkfaaGreatDoor.Str Go.Proofs.YtbonodglnilkfaaGreatDoor.Tree Go.Proofs.YtbonodglnilkfaaGreatDoor.Read Go.Proofs.YtbonodglnilkfaaGreatDoor.Pf Go.Proofs.YtbonodglnilkfaaGreatDoor.Impl
set_option linter.unusedVariables false
set_option linter.unusedSimpArgs false
theorem nb_getD (s : ByteArray) (i : Nat) : nb s i = (s.data.toList.getD i 0).toNat := by
 unfold nb
 by_cases h : i < s.size
 ·have e : s.get! i = s[i]'h := by
   simp [ByteArray.get!, getElem!_pos, h]
   rfl
  have h2 : i < s.data.toList.length := by rw [Array.length_toList]; exact h
  rw [e, List.getD_eq_getElem?_getD, List.getElem?_eq_getElem h2]
  rfl
 ·have e : s.get! i = 0 := by
   show s.data[i]! = 0
   rw [getElem!_neg s.data i h]
   rfl
  rw [e, List.getD_eq_getElem?_getD, List.getElem?_eq_none (by rw [Array.length_toList]; exact Nat.le_of_not_lt h)]
  rfl
theorem pref_ (l : List UInt8) : Lib.hasPrefix l [239, 191, 189] = decide (3 ≤ l.length ∧ (l.getD 0 0).toNat = 239 ∧ (l.getD 1 0).toNat = 191 ∧ (l.getD 2 0).toNat = 189) := by
 match l with
 | [] => rfl
 | [a] => simp [Lib.hasPrefix, List.isPrefixOf]
 | [a, b] => simp [Lib.hasPrefix, List.isPrefixOf]
 | a :: b :: c :: r =>
  have h : ∀ (x : UInt8) (n : Nat) (hn : n < 256), (x.toNat = n ↔ UInt8.ofNat n = x) := by
   intro x n hn
   constructor
   ·rintro rfl; simp
   ·rintro rfl; simp; omega
  rw [Bool.eq_iff_iff]
  simp only [Lib.hasPrefix, List.isPrefixOf, Bool.and_eq_true, beq_iff_eq, decide_eq_true_eq]
  simp [h, List.getD]
theorem bad_same (s : ByteArray) (p : Nat) (hp : p < s.size) : (((Utf8.decode s p).1 == 65533) && !(Lib.hasPrefix (List.take (s.size - p) (List.drop p s.data.toList)) [239, 191, 189])) = badR s p := by
 have hb : ∀ i, nb s i ≤ 255 := nb_le s
 have ed := decN_bad (s.size - p) (nb s p) (nb s (p + 1)) (nb s (p + 2)) (nb s (p + 3)) (hb _) (hb _) (hb _)
 unfold badR
 rw [dec_eq]
 have hl : (List.take (s.size - p) (List.drop p s.data.toList)) = List.drop p s.data.toList := List.take_of_length_le (by rw [List.length_drop, Array.length_toList]; exact Nat.le_refl _)
 have hn : (List.drop p s.data.toList).length = s.size - p := by rw [List.length_drop, Array.length_toList]; rfl
 have hg : ∀ j, (List.drop p s.data.toList).getD j 0 = s.data.toList.getD (p + j) 0 := by
  intro j
  simp [List.getD_eq_getElem?_getD]
 rw [hl, pref_, hn, hg, hg, hg, ← nb_getD, ← nb_getD, ← nb_getD, Bool.eq_iff_iff]
 simp only [Bool.and_eq_true, beq_iff_eq, Bool.not_eq_true', decide_eq_false_iff_not, decide_eq_true_eq, Nat.add_zero]
 exact ed
set_option maxRecDepth 1000000 in
set_option maxHeartbeats 1000000 in
theorem validI (a0 : ByteArray) (w : World) :
  Calls Tryz.prog 30 #[.string a0] w fun e w' => e = .returned (.bool (okF a0)) ∧ Below w.heap.size w w' := by
 have hfin : ∀ pos, Below w.heap.size w (w.iter a0 pos) := fun pos => (Below.refl _ _).alloc (Nat.le_refl _) _
 go_enter Tryz.func30, Tryz.ntmps30
 go_wp2_with fail
 go_loopw [2, 3, 4] (fun u3 i c w' => ∃ (pos b : Nat), w' = w.iter a0 pos ∧ vF a0 b pos = vF a0 a0.size 0 ∧ a0.size ≤ pos + b) (fun _ _ _ w' => a0.size - w'.iterPos w.heap.size)
 case atStart => exact ⟨0, a0.size, rfl, rfl, by omega⟩
 case round =>
  obtain ⟨pos, b, rfl, hc, hb⟩ := hrel
  have HC := Lib.hid hc
  clear hc
  by_cases hp : pos < a0.size
  ·have hnx : ∀ ty, (Instr.next (.pointer (some ⟨w.heap.size, 0, none⟩)) true ty).run Tryz.prog (w.iter a0 pos) = _ := fun ty => run_next_any w a0 pos ty hp
   have hwd := (dec_pos a0 pos hp).1
   have hbs := bad_same a0 pos hp
   by_cases hr : (Utf8.decode a0 pos).1 = 65533
   ·have hrb : (((Utf8.decode a0 pos).1 : Int) == 65533) = true := by rw [hr]; rfl
    by_cases hq : Lib.hasPrefix (List.take (a0.size - pos) (List.drop pos a0.data.toList)) [239, 191, 189] = true
    ·have HB := Lib.hid (show badR a0 pos = false by rw [← hbs, hq]; simp)
     clear hbs
     go_wp2_with fail
     refine (Tryz.strings_HasPrefix _ _ _).mono ?_
     rintro e w' ⟨rfl, rfl⟩
     go_wp2_with fail
     go_roundw
     case rel =>
      cases b with
      | zero => omega
      | succ b =>
       refine ⟨pos + (Utf8.decode a0 pos).2, b, rfl, ?_, by omega⟩
       rw [← HC.out, vF, if_pos hp, HB.out]
       simp
     case measure =>
      simp
      omega
    ·have hq' : Lib.hasPrefix (List.take (a0.size - pos) (List.drop pos a0.data.toList)) [239, 191, 189] = false := by simpa using hq
     have HB := Lib.hid (show badR a0 pos = true by rw [← hbs, hq', hr]; rfl)
     clear hq hbs
     go_wp2_with fail
     refine (Tryz.strings_HasPrefix _ _ _).mono ?_
     rintro e w' ⟨rfl, rfl⟩
     go_wp2_with fail
     go_ret
     refine ⟨?_, hfin _⟩
     cases b with
     | zero => omega
     | succ b =>
      unfold okF
      rw [← HC.out, vF, if_pos hp, if_pos HB.out]
      rfl
   ·have hrb : (((Utf8.decode a0 pos).1 : Int) == 65533) = false := by simp; omega
    have HB := Lib.hid (show badR a0 pos = false by rw [← hbs]; simp [hr])
    clear hbs
    go_wp2_with fail
    go_roundw
    case rel =>
     cases b with
     | zero => omega
     | succ b =>
      refine ⟨pos + (Utf8.decode a0 pos).2, b, rfl, ?_, by omega⟩
      rw [← HC.out, vF, if_pos hp, HB.out]
      simp
    case measure =>
     simp
     omega
  ·have hnx : ∀ ty, (Instr.next (.pointer (some ⟨w.heap.size, 0, none⟩)) true ty).run Tryz.prog (w.iter a0 pos) = _ := fun ty => run_next_end w a0 pos ty hp
   go_wp2_with fail
   go_ret
   refine ⟨?_, hfin _⟩
   unfold okF
   rw [← HC.out, vF_end a0 b pos hp]
   rfl
set_option maxRecDepth 100000 in
set_option maxHeartbeats 4000000 in
theorem validS (s : ByteArray) (hs : s.size ≤ 1048576) (w : World) :
  Calls Tryz.prog 28 #[.string s] w fun e w' => e = .returned (.bool (okF s)) ∧ Below w.heap.size w w' := by
 have HS := Lib.hid hs
 clear hs
 go_enter Tryz.func28, Tryz.ntmps28
 go_wp2_with fail
 go_loopw [3] (fun v3 wr => ∃ p b : Nat, v3 = .int .i64 (p : Int) ∧ Hid (vF s b p = okF s ∧ s.size ≤ p + b ∧ p ≤ s.size) ∧ Hid (Below w.heap.size w wr)) (fun v3 _ => s.size - (intOf v3).toNat)
 case atStart => exact ⟨0, s.size, rfl, Lib.hid ⟨rfl, by omega, Nat.zero_le _⟩, Lib.hid (Below.refl _ _)⟩
 case round =>
  obtain ⟨p, b, rfl, HI, HB⟩ := hrel
  by_cases h1 : p < s.size
  ·have d1 : decide ((p : Int) < (s.size : Int)) = true := decide_eq_true (by omega)
   have d1n : decide (p < s.size) = true := decide_eq_true h1
   have H1 := Lib.hid h1
   have HD := Lib.hid (dec_pos s p h1)
   have HC := Lib.hid (rl_dec s p HS.out h1 8 (Nat.le_refl _))
   clear h1
   go_wp2_with fail
   refine (spec_l1RuneLen.calls 8 s (p : Int) _ _ HC.out).mono ?_
   rintro e w2 ⟨rfl, hb2⟩
   have HB2 := Lib.hid (below_step HB.out hb2)
   clear hb2
   by_cases hb : badR s p = true
   ·rw [if_pos hb]
    have HX := Lib.hid hb
    clear hb
    go_wp2_with fail
    go_ret
    refine ⟨?_, HB2.out⟩
    have hi := HI.out
    cases b with
    | zero => exact absurd H1.out (by omega)
    | succ b =>
     rw [vF, if_pos H1.out, if_pos HX.out] at hi
     rw [← hi.1]
     rfl
   ·rw [if_neg hb]
    have HX := Lib.hid hb
    clear hb
    generalize hd : (Utf8.decode s p).2 = d at HD ⊢
    have d2 : ((d : Int) == 0) = false := beq_eq_false_iff_ne.mpr (by have := HD.out; omega)
    have d2n : (d == 0) = false := beq_eq_false_iff_ne.mpr (by have := HD.out; omega)
    have ew : IntKind.i64.wrap ((p : Int) + (d : Int)) = (p : Int) + (d : Int) := by rw [i64_w]; unfold wrap64; have := HD.out; have := HS.out; clear d2 d2n; omega
    have HDD := Lib.hid hd
    clear hd
    go_wp2_with fail
    refine ⟨⟨p + d, b - 1, by congr 1, Lib.hid ?_, HB2⟩, ?_⟩
    ·have hi := HI.out
     cases b with
     | zero => exact absurd H1.out (by omega)
     | succ b =>
      rw [vF, if_pos H1.out, if_neg HX.out, HDD.out] at hi
      have := HD.out
      exact ⟨hi.1, by omega, by omega⟩
    ·have := HD.out
     have := H1.out
     simp [intOf]
     clear d2 d2n ew
     omega
  ·have d1 : decide ((p : Int) < (s.size : Int)) = false := decide_eq_false (by omega)
   have d1n : decide (p < s.size) = false := decide_eq_false h1
   have H1 := Lib.hid h1
   clear h1
   go_wp2_with fail
   go_ret
   refine ⟨?_, HB.out⟩
   rw [← HI.out.1, vF_end s b p H1.out]
   rfl
def qF (s : ByteArray) : ByteArray × Bool := if 20000 < s.size then (⟨#[]⟩, false) else if okF s = true then (qt s, true) else (⟨#[]⟩, false)
set_option maxHeartbeats 4000000 in
theorem quoteS (s : ByteArray) (w : World) :
  Calls Tryz.prog 9 #[.string s] w fun e w' => e = .returned (.tuple #[.string (qF s).1, .bool (qF s).2]) ∧ Below w.heap.size w w' := by
 go_enter Tryz.func9, Tryz.ntmps9
 by_cases h1 : 20000 < s.size
 ·have d1 : decide ((20000 : Int) < (s.size : Int)) = true := decide_eq_true (by omega)
  have d1n : decide (20000 < s.size) = true := decide_eq_true h1
  have HQ := Lib.hid (show qF s = (⟨#[]⟩, false) from if_pos h1)
  clear h1
  go_wp2_with fail
  go_ret2
  rw [HQ.out]
  exact ⟨rfl, Below.refl _ _⟩
 ·have d1 : decide ((20000 : Int) < (s.size : Int)) = false := decide_eq_false (by omega)
  have d1n : decide (20000 < s.size) = false := decide_eq_false h1
  have HS := Lib.hid (show s.size ≤ 20000 by omega)
  have hq : qF s = if okF s = true then (qt s, true) else (⟨#[]⟩, false) := if_neg h1
  clear h1
  cases ho : okF s with
  | true =>
   rw [ho, if_pos rfl] at hq
   have HQ := Lib.hid hq
   clear hq
   go_wp2_with fail
   refine (validS s (by have := HS.out; omega) w).mono ?_
   rintro e w1 ⟨rfl, hb1⟩
   have HB1 := Lib.hid hb1
   rw [ho]
   clear hb1 ho
   go_wp2_with fail
   refine (spec_l1Quoted.calls 100000 s (qt s) w1 (quoted_f s (by have := HS.out; omega) _ (by have := HS.out; omega))).mono ?_
   rintro e w2 ⟨rfl, hb2⟩
   have HB2 := Lib.hid (below_step HB1.out hb2)
   clear hb2
   go_wp2_with fail
   go_ret2
   rw [HQ.out]
   exact ⟨rfl, HB2.out⟩
  | false =>
   rw [ho, if_neg (by decide)] at hq
   have HQ := Lib.hid hq
   clear hq
   go_wp2_with fail
   refine (validS s (by have := HS.out; omega) w).mono ?_
   rintro e w1 ⟨rfl, hb1⟩
   have HB1 := Lib.hid hb1
   rw [ho]
   clear hb1 ho
   go_wp2_with fail
   go_ret2
   rw [HQ.out]
   exact ⟨rfl, HB1.out⟩
set_option maxHeartbeats 4000000 in
theorem quoteI (s : ByteArray) (w : World) :
  Calls Tryz.prog 10 #[.string s] w fun e w' => e = .returned (.tuple #[.string (qF s).1, .bool (qF s).2]) ∧ Below w.heap.size w w' := by
 go_enter Tryz.func10, Tryz.ntmps10
 by_cases h1 : 20000 < s.size
 ·have d1 : decide ((20000 : Int) < (s.size : Int)) = true := decide_eq_true (by omega)
  have d1n : decide (20000 < s.size) = true := decide_eq_true h1
  have HQ := Lib.hid (show qF s = (⟨#[]⟩, false) from if_pos h1)
  clear h1
  go_wp2_with fail
  go_ret2
  rw [HQ.out]
  exact ⟨rfl, Below.refl _ _⟩
 ·have d1 : decide ((20000 : Int) < (s.size : Int)) = false := decide_eq_false (by omega)
  have d1n : decide (20000 < s.size) = false := decide_eq_false h1
  have HS := Lib.hid (show s.size ≤ 20000 by omega)
  have hq : qF s = if okF s = true then (qt s, true) else (⟨#[]⟩, false) := if_neg h1
  clear h1
  cases ho : okF s with
  | true =>
   rw [ho, if_pos rfl] at hq
   have HQ := Lib.hid hq
   clear hq
   go_wp2_with fail
   refine (validI s w).mono ?_
   rintro e w1 ⟨rfl, hb1⟩
   have HB1 := Lib.hid hb1
   rw [ho]
   clear hb1 ho
   go_wp2_with fail
   refine (quotedW w1 w1 (Below.refl _ _) (.slice none 0 0) [] s (own_nil w1 _ _ _) (by simp) (by have := HS.out; omega)).mono ?_
   rintro e w2 ⟨v', rfl, ho2, hb2, _⟩
   rw [List.nil_append] at ho2
   have hcv := own_string (P := Tryz.prog) Tryz.underlying25 Tryz.underlying5 Tryz.underlying9 ho2
   obtain ⟨A, c, rfl⟩ := own_slice ho2
   have HB2 := Lib.hid (below_step HB1.out hb2)
   have HX := Lib.hid (show qt s = strOfNums (quo s) from rfl)
   clear hb2 ho2
   generalize (quo s).length = m at hcv ⊢
   generalize strOfNums (quo s) = y at hcv HX
   go_wp2_with fail
   go_ret2
   rw [HQ.out, HX.out]
   exact ⟨rfl, HB2.out⟩
  | false =>
   rw [ho, if_neg (by decide)] at hq
   have HQ := Lib.hid hq
   clear hq
   go_wp2_with fail
   refine (validI s w).mono ?_
   rintro e w1 ⟨rfl, hb1⟩
   have HB1 := Lib.hid hb1
   rw [ho]
   clear hb1 ho
   go_wp2_with fail
   go_ret2
   rw [HQ.out]
   exact ⟨rfl, HB1.out⟩
end Go.Proofs.YtbonodglnilkfaaGreatDoor.Qte
namespace Go.Proofs.YtbonodglnilkfaaGreatDoor.Read
open Go Go.RowKit Go.Proofs.YtbonodglnilkfaaGreatDoorW.PrintWords Go.Proofs.YtbonodglnilkfaaGreatDoor.Str Go.Proofs.YtbonodglnilkfaaGreatDoor.Tchs
set_option linter.unusedVariables false
set_option linter.unusedSimpArgs false
set_option maxRecDepth 100000 in
set_option maxHeartbeats 4000000 in
theorem catch_panicking (a b : Nat) (x : ByteArray) (y : Bool) (w : World) (ha : w.heap[a]? = some (.cells #[.string x] 9 (0, 0))) (hb : w.heap[b]? = some (.cells #[.bool y] 4 (0, 0))) (hab : a ≠ b) :
  CallsD Tryz.prog 32 #[.pointer (some ⟨a, 0, none⟩), .pointer (some ⟨b, 0, none⟩)] (.panicking noForm) w fun e u' w' =>
   e = .returned (.tuple #[]) ∧ u' = .panicking [{ v := .iface 55 (.agg #[]), recovered := true }] ∧ w'.heap[a]? = some (.cells #[.string ⟨#[]⟩] 9 (0, 0)) ∧ w'.heap[b]? = some (.cells #[.bool false] 4 (0, 0)) ∧ Tch w w' (fun k => k = a ∨ k = b) := by
 refine callsD_of_wpS Tryz.func32 rfl fun c₀ cs hu => ?_
 apply wpS_seq
 apply wpS_region
 simp [wpOpsS, go_sem, recoverD, hu, Tryz.ntmps32, Exit.thenS]
 apply wpS_seq
 apply wpS_region
 simp [wpOpsS, go_sem, Exit.thenS]
 refine wpS_cond (t := true) (by simp [Act.eval, Array.replicate]) ?_
 simp only [if_true]
 refine wpS_of_wp ?_
 have h0 := blk_cell (blk_alloc ha (.cells #[] 55)) 0
 have h1 := blk_cell (blk_alloc hb (.cells #[] 55)) 0
 have f0 := blk_frozen (blk_alloc ha (.cells #[] 55)) 0
 have f1 := blk_frozen (blk_alloc hb (.cells #[] 55)) 0
 have has : ∀ W : World, (Instr.typeAssert (.iface 55 (.agg #[])) 20 55 true).run Tryz.prog W = .ok (.tuple #[.agg #[], .bool true]) W := fun W => by kernel_rfl
 go_wp2_with fail
 refine ⟨rfl, _, rfl, .tuple #[], ?_, rfl, rfl, ?_, ?_, ?_⟩
 ·simp [results, Tryz.results32, go_sem]
 ·exact blk_far (blk_set (blk_alloc ha (.cells #[] 55)) 0 (.string ⟨#[]⟩)) hab _
 ·exact blk_set (blk_far (blk_alloc hb (.cells #[] 55)) (fun h => hab h.symm) _) 0 (.bool false)
 ·exact Tch.setCell (Tch.setCell (Tch.alloc (Tch.refl w _) _) (p := ⟨a, 0, none⟩) (.inl (.inl rfl)) _) (p := ⟨b, 0, none⟩) (.inl (.inr rfl)) _
set_option maxRecDepth 100000 in
theorem catch_idle (a b : Nat) (w : World) :
  CallsD Tryz.prog 32 #[.pointer (some ⟨a, 0, none⟩), .pointer (some ⟨b, 0, none⟩)] .returning w fun e u' w' => e = .returned (.tuple #[]) ∧ u' = .returning ∧ w' = w := by
 refine callsD_of_wpS Tryz.func32 rfl fun c₀ cs hu => ?_
 apply wpS_seq
 apply wpS_region
 simp [wpOpsS, go_sem, recoverD, hu, Tryz.ntmps32, Exit.thenS]
 apply wpS_seq
 apply wpS_region
 simp [wpOpsS, go_sem, Exit.thenS]
 refine wpS_cond (t := false) (by simp [Act.eval, Array.replicate]) ?_
 simp only [Bool.false_eq_true, if_false]
 refine wpS_of_wp (wp_skip ?_)
 cases c₀
 simp_all [bodyPostS, results, Tryz.results32]
def unqF (s : ByteArray) : ByteArray × Bool :=
 if 20000 < s.size then (⟨#[]⟩, false) else match strF s 0 with
  | some (b, q) => if q = s.size then (strOfNums b, true) else (⟨#[]⟩, false)
  | none => (⟨#[]⟩, false)
theorem strF_not (s : ByteArray) (h : s.size = 0 ∨ bt s 0 ≠ 34) : strF s 0 = none := by
 unfold strF
 rw [if_neg]
 intro h2
 rcases h with h | h
 ·omega
 ·exact h h2.2
set_option maxRecDepth 100000 in
set_option maxHeartbeats 4000000 in
theorem unquote (s : ByteArray) (w : World) (hs : s.size ≤ 1048576) (hT : Lib.Utf8Tabs 0 1 w) :
  Calls Tryz.prog 11 #[.string s] w fun e w' => e = .returned (.tuple #[.string (unqF s).1, .bool (unqF s).2]) ∧ Below w.heap.size w w' := by
 have hmf : ∀ (fn : Fn) (first cap : Array Value) (w : World), (Instr.makeFunc fn first cap).run Tryz.prog w = .ok (.func fn first cap) w := fun _ _ _ _ => rfl
 go_enter_defers Tryz.func11, Tryz.ntmps11
 by_cases h1 : (20000 : Int) < (s.size : Int)
 ·have d1 : decide ((20000 : Int) < (s.size : Int)) = true := decide_eq_true h1
  have hE : unqF s = (⟨#[]⟩, false) := by unfold unqF; rw [if_pos (by omega)]
  have HE := Lib.hid hE
  clear hE
  go_wp2_with fail
  rw [HE.out]
  simp [bodyPostD, Leaves, settle, results, Tryz.results11, go_sem]
  exact below_alloc (below_alloc (Below.refl _ _) _) _
 ·have d1 : decide ((20000 : Int) < (s.size : Int)) = false := decide_eq_false h1
  have hU : unqF s = match strF s 0 with
   | some (b, q) => if q = s.size then (strOfNums b, true) else (⟨#[]⟩, false)
   | none => (⟨#[]⟩, false) := by unfold unqF; exact if_neg (by omega)
  by_cases h0 : s.size = 0
  ·have hem : s.toList.isEmpty = true := by
    rw [← decide_eq_emptyBytes]
    exact decide_eq_true (by apply ByteArray.ext; exact Array.eq_empty_of_size_eq_zero h0)
   rw [strF_not s (.inl h0)] at hU
   have HU := Lib.hid hU
   clear hU
   go_wp2_with fail
   rw [HU.out]
   simp [bodyPostD, Leaves, settle, results, Tryz.results11, go_sem]
   exact below_alloc (below_alloc (Below.refl _ _) _) _
  ·have hem : s.toList.isEmpty = false := by
    rw [← decide_eq_emptyBytes]
    exact decide_eq_false (fun h => h0 (by rw [h]; rfl))
   have hpos : 0 < s.size := by omega
   have hbt : bt s 0 = ((s[0]'hpos).toNat : Int) := by simp [bt, hpos]
   by_cases hq : bt s 0 = 34
   ·have hne : (((s[0]'hpos).toNat : Int) != 34) = false := by rw [← hbt, hq]; rfl
    have HU := Lib.hid hU
    clear hU
    have hR0 := heap_alloc_new ((w.alloc (.cells #[.string ⟨#[]⟩] 9)).alloc (.cells #[.bool false] 4)) (.cells #[.string s, .int .i64 0, .bool false, .bool false] 59)
    simp only [World.size_alloc] at hR0
    have HR := Lib.hid (show Rdr (((w.alloc (.cells #[.string ⟨#[]⟩] 9)).alloc (.cells #[.bool false] 4)).alloc (.cells #[.string s, .int .i64 0, .bool false, .bool false] 59)) (w.heap.size + 1 + 1) s 0 false false from hR0)
    have HA := Lib.hid (blk_alloc (blk_alloc (heap_alloc_new w (.cells #[.string ⟨#[]⟩] 9)) (.cells #[.bool false] 4)) (.cells #[.string s, .int .i64 0, .bool false, .bool false] 59))
    have hb0 := blk_alloc (heap_alloc_new (w.alloc (.cells #[.string ⟨#[]⟩] 9)) (.cells #[.bool false] 4)) (.cells #[.string s, .int .i64 0, .bool false, .bool false] 59)
    simp only [World.size_alloc] at hb0
    have HBK := Lib.hid hb0
    have HB := Lib.hid (show Below w.heap.size w (((w.alloc (.cells #[.string ⟨#[]⟩] 9)).alloc (.cells #[.bool false] 4)).alloc (.cells #[.string s, .int .i64 0, .bool false, .bool false] 59)) from below_alloc (below_alloc (below_alloc (Below.refl _ _) _) _) _)
    have HT3 := Lib.hid (tabs_tch hT (Tch.of_below HB.out (fun _ => False)) (fun h => h) (fun h => h))
    clear hR0 hb0 hT
    go_wp2_with fail
    refine (str (w.heap.size + 1 + 1) s 0 false false _ HR.out (Nat.zero_le _) hs HT3.out (by omega)).mono ?_
    rintro e w1 ⟨hok, hno, ht1⟩
    have HA1 := Lib.hid (blk_kept HA.out ht1.kept (by omega))
    have HBK1 := Lib.hid (blk_kept HBK.out ht1.kept (by omega))
    have HB1 := Lib.hid (HB.out.trans (Tch.to_below ht1 (B := w.heap.size) HB.out.size (fun k hk => by omega)))
    cases hx : strF s 0 with
    | none =>
     obtain ⟨rfl, q, hR⟩ := hno hx
     rw [hx] at HU
     clear hok hno ht1 hR
     go_wp2_with fail
     rw [HU.out]
     refine leaves_cons (f := 32) (args := #[.pointer (some ⟨w.heap.size, 0, none⟩), .pointer (some ⟨w.heap.size + 1, 0, none⟩)]) (by simp) (by simp [go_sem]) ?_
     refine (catch_panicking w.heap.size (w.heap.size + 1) _ _ _ HA1.out HBK1.out (by omega)).mono ?_
     rintro e u' w2 ⟨rfl, rfl, ha2, hb2, ht2⟩
     have c0 := blk_cell ha2 0
     have c1 := blk_cell hb2 0
     simp only [List.getElem?_toArray, List.getElem?_cons_zero] at c0 c1
     simp [Leaves, settle, results, Tryz.results11, go_sem, c0, c1]
     exact HB1.out.trans (Tch.to_below ht2 (B := w.heap.size) HB1.out.size (fun k hk => by omega))
    | some bq =>
     obtain ⟨b, q⟩ := bq
     obtain ⟨rfl, hR⟩ := hok b q hx
     rw [hx] at HU
     simp only at HU
     have c0 := blk_cell HA1.out 0
     have f0 := blk_frozen HA1.out 0
     have c1 := blk_cell HBK1.out 0
     have f1 := blk_frozen HBK1.out 0
     obtain ⟨r0, r1, _⟩ := hR.at_
     simp only [List.getElem?_toArray, List.getElem?_cons_zero] at c0 c1
     clear hok hno ht1 hR
     by_cases hqs : q = s.size
     ·have hne2 : ((q : Int) != (s.size : Int)) = false := by simp [hqs]
      rw [if_pos hqs] at HU
      go_wp2_with fail
      rw [HU.out]
      refine leaves_cons (f := 32) (args := #[.pointer (some ⟨w.heap.size, 0, none⟩), .pointer (some ⟨w.heap.size + 1, 0, none⟩)]) (by simp) (by simp [go_sem]) ?_
      refine (catch_idle w.heap.size (w.heap.size + 1) _).mono ?_
      rintro e u' w2 ⟨rfl, rfl, rfl⟩
      simp [Leaves, settle, results, Tryz.results11, go_sem, c0, c1]
      exact ((HB1.out.setCell (by show w.heap.size ≤ w.heap.size; omega) _).setCell (by show w.heap.size ≤ w.heap.size; omega) _).setCell (by show w.heap.size ≤ w.heap.size + 1; omega) _
     ·have hne2 : ((q : Int) != (s.size : Int)) = true := by simp; omega
      rw [if_neg hqs] at HU
      go_wp2_with fail
      rw [HU.out]
      refine leaves_cons (f := 32) (args := #[.pointer (some ⟨w.heap.size, 0, none⟩), .pointer (some ⟨w.heap.size + 1, 0, none⟩)]) (by simp) (by simp [go_sem]) ?_
      refine (catch_idle w.heap.size (w.heap.size + 1) _).mono ?_
      rintro e u' w2 ⟨rfl, rfl, rfl⟩
      simp [Leaves, settle, results, Tryz.results11, go_sem, c0, c1]
      exact ((HB1.out.setCell (by show w.heap.size ≤ w.heap.size; omega) _).setCell (by show w.heap.size ≤ w.heap.size; omega) _).setCell (by show w.heap.size ≤ w.heap.size + 1; omega) _
   ·have hne : (((s[0]'hpos).toNat : Int) != 34) = true := by rw [← hbt]; simpa using hq
    rw [strF_not s (.inr hq)] at hU
    have HU := Lib.hid hU
    clear hU
    go_wp2_with fail
    rw [HU.out]
    simp [bodyPostD, Leaves, settle, results, Tryz.results11, go_sem]
    exact below_alloc (below_alloc (Below.refl _ _) _) _
end Go.Proofs.YtbonodglnilkfaaGreatDoor.Read
namespace Go.Proofs.YtbonodglnilkfaaGreatDoor.Qte
open Go Go.Proofs Go.RowKit Go.Proofs.YtbonodglnilkfaaGreatDoorW.PrintWords Go.Proofs.YtbonodglnilkfaaGreatDoorW.PrintLast Go.Proofs.YtbonodglnilkfaaGreatDoor.Str Go.Proofs.YtbonodglnilkfaaGreatDoor.Tree Go.Proofs.YtbonodglnilkfaaGreatDoor.Read Go.Proofs.YtbonodglnilkfaaGreatDoor.Pf Go.Proofs.YtbonodglnilkfaaGreatDoor.Impl Go.Proofs.YtbonodglnilkfaaGreatDoor.Tchs Go.Proofs.YtbonodglnilkfaaGreatDoor.Draw
set_option linter.unusedVariables false
set_option linter.unusedSimpArgs false
theorem unq_qt {s : ByteArray} (h : VU (byt s)) (hs : ¬ 20000 < (qt s).size) : unqF (qt s) = (s, true) := by
 unfold unqF
 rw [if_neg hs, strF_qt h]
 simp [str_byt]
theorem qF_no {s : ByteArray} (h : (qF s).2 = false) : qF s = (⟨#[]⟩, false) := by
 unfold qF at h ⊢
 split
 ·rfl
 ·rename_i h1
  rw [if_neg h1] at h
  split
  ·rename_i h2
   rw [if_pos h2] at h
   cases h
  ·rfl
theorem qF_yes {s : ByteArray} (h : (qF s).2 = true) : qF s = (qt s, true) ∧ VU (byt s) := by
 unfold qF at h ⊢
 split
 ·rename_i h1
  rw [if_pos h1] at h
  cases h
 ·rename_i h1
  rw [if_neg h1] at h
  split
  ·rename_i h2
   exact ⟨rfl, VU_ok h2⟩
  ·rename_i h2
   rw [if_neg h2] at h
   cases h
set_option maxRecDepth 100000 in
set_option maxHeartbeats 4000000 in
theorem law_string (A : Option Addr) (n c : Nat) (xs : List Int) (w : World) (h : Row w A n xs) (hc : n ≤ c) (hT : Lib.Utf8Tabs 0 1 w) (hE : EV w) (hg : 5 < w.heap.size ∧ 1 < w.heap.size) (hp : POW w w) :
  Calls Tryz.prog 4 #[.slice A n c] w fun e w' => e = .returned (.bool true) ∧ Below w.heap.size w w' := by
 have HC := Lib.hid (fun (s : ByteArray) (w1 : World) (hb1 : Below w.heap.size w w1) => canonI s w1 (tabs_tch hT (Tch.of_below hb1 (fun _ => False)) (fun h => h) (fun h => h)) (hE.tch (Tch.of_below hb1 (fun _ => False)) (fun h => h)) ⟨by have := hb1.size; omega, by have := hb1.size; omega⟩ (fun w' h' => hp w' (hb1.trans (h'.mono hb1.size))))
 have HU := Lib.hid (fun (s : ByteArray) (hs : s.size ≤ 1048576) (w1 : World) (hb1 : Below w.heap.size w w1) => unquote s w1 hs (tabs_tch hT (Tch.of_below hb1 (fun _ => False)) (fun h => h) (fun h => h)))
 clear hT hE hg hp
 go_enter Tryz.func4, Tryz.ntmps4
 by_cases h1 : (1048576 : Int) < (n : Int)
 ·have d1 : decide ((1048576 : Int) < (n : Int)) = true := decide_eq_true h1
  have d1n : decide (1048576 < n) = true := decide_eq_true (by omega)
  go_wp2_with fail
  go_ret
  exact ⟨rfl, Below.refl _ _⟩
 ·have d1 : decide ((1048576 : Int) < (n : Int)) = false := decide_eq_false h1
  have d1n : decide (1048576 < n) = false := decide_eq_false (by omega)
  have HD := Lib.hid (drawn A n c xs w h (by omega) hc)
  clear h hc h1
  go_wp2_with fail
  refine HD.out.mono ?_
  rintro e w1 ⟨s, rfl, hs, hb1⟩
  have HS := Lib.hid hs
  have HB1 := Lib.hid hb1
  clear hs hb1 HD
  go_wp2_with fail
  refine (quoteS s w1).mono ?_
  rintro e w2 ⟨rfl, hb2⟩
  have HB2 := Lib.hid (below_step HB1.out hb2)
  clear hb2
  cases hq : (qF s).2 with
  | false =>
   have HQ := Lib.hid (qF_no hq)
   rw [qF_no hq]
   clear hq
   go_wp2_with fail
   refine (quoteI s w2).mono ?_
   rintro e w3 ⟨rfl, hb3⟩
   have HB3 := Lib.hid (below_step HB2.out hb3)
   rw [HQ.out]
   clear hb3
   go_wp2_with fail
   go_ret
   exact ⟨rfl, HB3.out⟩
  | true =>
   obtain ⟨hq2, hv⟩ := qF_yes hq
   have HQ := Lib.hid hq2
   have HV := Lib.hid hv
   have HN := Lib.hid (bt_qt s).1
   rw [hq2]
   clear hq hq2 hv
   by_cases h2 : 20000 < (qt s).size
   ·have d2 : decide ((20000 : Int) < ((qt s).size : Int)) = true := decide_eq_true (by omega)
    have d2n : decide (20000 < (qt s).size) = true := decide_eq_true h2
    have d3 : (qt s).toList.isEmpty = false := by
     rw [List.isEmpty_eq_false_iff]
     intro h0
     have := HN.out
     rw [Lib.toList_data] at h0
     have hz : (qt s).data.toList.length = (qt s).size := Array.length_toList
     rw [h0] at hz
     simp at hz
     omega
    clear h2
    go_wp2_with fail
    refine (quoteI s w2).mono ?_
    rintro e w3 ⟨rfl, hb3⟩
    have HB3 := Lib.hid (below_step HB2.out hb3)
    rw [HQ.out]
    clear hb3
    go_wp2_with fail
    go_ret
    exact ⟨rfl, HB3.out⟩
   ·have d2 : decide ((20000 : Int) < ((qt s).size : Int)) = false := decide_eq_false (by omega)
    have d2n : decide (20000 < (qt s).size) = false := decide_eq_false h2
    have HL := Lib.hid h2
    clear h2
    go_wp2_with fail
    refine (quoteI s w2).mono ?_
    rintro e w3 ⟨rfl, hb3⟩
    have HB3 := Lib.hid (below_step HB2.out hb3)
    rw [HQ.out]
    clear hb3
    go_wp2_with fail
    refine (HU.out (qt s) (by have := HL.out; omega) w3 HB3.out).mono ?_
    rintro e w4 ⟨rfl, hb4⟩
    have HB4 := Lib.hid (below_step HB3.out hb4)
    rw [unq_qt HV.out HL.out]
    clear hb4
    go_wp2_with fail
    refine (HC.out (qt s) w4 HB4.out).mono ?_
    rintro e w5 ⟨rfl, hb5⟩
    have HB5 := Lib.hid (below_step HB4.out hb5)
    rw [canF_qt HV.out (by have := HL.out; omega)]
    clear hb5
    go_wp2_with fail
    go_ret
    exact ⟨rfl, HB5.out⟩
end Go.Proofs.YtbonodglnilkfaaGreatDoor.Qte
