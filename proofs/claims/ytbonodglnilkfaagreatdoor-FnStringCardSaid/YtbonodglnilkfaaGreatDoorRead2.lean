/- strconv.ParseUint at base 16 and 32 bits, of four hexadecimal digits: their number. -/
import Derived.Test.YtbonodglnilkfaaGreatDoorTree
import Derived.Test.YtbonodglnilkfaaGreatDoorProg
import Derived.Lib.Strings
import Derived.Lib.Walk
import Derived.Lib.ConvBytes
import Derived.Lib.AtoiErrMem
import Derived.Lib.Hide
import Derived.Laws.Strings3
import Derived.Laws.Closers25
import Derived.Laws.Closers25b
import Derived.WalkKit
import Derived.BigCall
import Derived.BigGuard
import Derived.Test.YtbonodglnilkfaaGreatDoorMost
import Derived.Deep.RegionHeld3
import Derived.Test.YtbonodglnilkfaaGreatDoorTxt
import Derived.Test.YtbonodglnilkfaaGreatDoorPJsx4
namespace Go.Proofs.YtbonodglnilkfaaGreatDoor.Str
open Go Go.RowKit Go.Proofs.YtbonodglnilkfaaGreatDoorW.PrintWords
set_option linter.unusedVariables false
def hexA (t : ByteArray) : Nat → Int
 | 0 => 0
 | k + 1 => hexA t k * 16 + hexD (bt t (k : Int))
theorem lower_tab : ∀ n : Fin 256, (97 ≤ n.1 → n.1 ≤ 102 → Go.bits .or .u8 (n.1 : Int) 32 = (n.1 : Int)) ∧ (65 ≤ n.1 → n.1 ≤ 70 → Go.bits .or .u8 (n.1 : Int) 32 = (n.1 : Int) + 32) := by decide +kernel
theorem hexA_le (t : ByteArray) (hd : ∀ j : Nat, j < 4 → 0 ≤ hexD (bt t (j : Int))) : ∀ k, k ≤ 4 → 0 ≤ hexA t k ∧ hexA t k * 16 ≤ 1048560
 | 0, _ => by simp [hexA]
 | 1, _ => by have := hexD_le (bt t 0); have := hd 0 (by omega); simp [hexA] at *; omega
 | 2, _ => by have := hexD_le (bt t 0); have := hd 0 (by omega); have := hexD_le (bt t 1); have := hd 1 (by omega); simp [hexA] at *; omega
 | 3, _ => by have := hexD_le (bt t 0); have := hd 0 (by omega); have := hexD_le (bt t 1); have := hd 1 (by omega); have := hexD_le (bt t 2); have := hd 2 (by omega); simp [hexA] at *; omega
 | 4, _ => by have := hexD_le (bt t 0); have := hd 0 (by omega); have := hexD_le (bt t 1); have := hd 1 (by omega); have := hexD_le (bt t 2); have := hd 2 (by omega); have := hexD_le (bt t 3); have := hd 3 (by omega); simp [hexA] at *; omega
 | k + 5, h => by omega
theorem bt_getD (t : ByteArray) (j : Nat) : bt t (j : Int) = ((t.data.toList.getD j 0).toNat : Int) := by
 unfold bt
 by_cases h : j < t.size
 ·have e : t.data.toList.getD j 0 = t[j]'h := by
   simp [List.getD_eq_getElem?_getD, h]
   rfl
  rw [e]
  simp [h]
 ·have e : t.data.toList.getD j 0 = 0 := by
   rw [List.getD_eq_getElem?_getD, List.getElem?_eq_none (by rw [Array.length_toList]; exact Nat.le_of_not_lt h)]
   rfl
  rw [e]
  simp [h]
set_option maxRecDepth 100000 in
theorem lower_ (c : Int) (w : World) : Calls Tryz.prog 115 #[.int .u8 c] w fun e w' => e = .returned (.int .u8 (Go.bits .or .u8 c 32)) ∧ w' = w := by
 go_enter Tryz.func115, Tryz.ntmps115
 go_wp2
 go_ret
 exact ⟨rfl, rfl⟩
set_option maxHeartbeats 32000000 in
set_option maxRecDepth 100000 in
theorem parseUint16 (t : ByteArray) (h4 : t.size = 4) (hd : ∀ j : Nat, j < 4 → 0 ≤ hexD (bt t (j : Int))) (w : World) :
  Calls Tryz.prog 105 #[.string t, .int .i64 16, .int .i64 32] w fun e w' => e = .returned (.tuple #[.int .u64 (hexA t 4), .nilIface]) ∧ w' = Lib.bytesWorld w 5 t := by
 have hemp : t.toList.isEmpty = false := by
  rw [← decide_eq_emptyBytes]
  exact decide_eq_false (fun h => by rw [h] at h4; cases h4)
 have hcv := Lib.run_convert_string_bytes (P := Tryz.prog) w 9 25 5 t (u := .string) Tryz.underlying9 Tryz.underlying25 Tryz.underlying5
 have hB : ∀ j, j < t.size → (Lib.bytesWorld w 5 t).cell? ⟨w.heap.size, j, none⟩ = some (.int .u8 (t.data.toList.getD j 0).toNat) := fun j hj => Lib.bytesWorld_cell w 5 t j hj
 obtain ⟨W1, hW1⟩ : ∃ W1, W1 = Lib.bytesWorld w 5 t := ⟨_, rfl⟩
 rw [← hW1] at hcv hB ⊢
 clear hW1
 have hA := hexA_le t hd
 have HD := Lib.hid hd
 have HAL := Lib.hid hA
 clear hd hA
 have hmv : IntKind.u64.wrap (IntKind.u64.wrap 4294967296 - 1) = 4294967295 := by
  rw [IntKind.wrap_u64, IntKind.wrap_u64]
  decide
 go_enter Tryz.func105, Tryz.ntmps105
 go_wp2
 go_loop [12, 13, 101] (fun vu vn vi => ∃ (k : Nat) (a : Int), vu = .bool false ∧ vn = .int .u64 a ∧ vi = .int .i64 k ∧ k ≤ 4 ∧ Hid (a = hexA t k)) (fun _ _ vi => 4 - (intOf vi).toNat)
 case atStart => exact ⟨0, 0, rfl, rfl, rfl, by omega, Lib.hid rfl⟩
 case round =>
  obtain ⟨k, a, rfl, rfl, rfl, hk, hh⟩ := hrel
  have ha := (HAL.out k hk)
  rw [← hh.out] at ha
  obtain ⟨ha0, ha1⟩ := ha
  by_cases hkn : k < 4
  ·have hc := hB k (by omega)
   have hx := HD.out k hkn
   have HX := Lib.hid (show hexA t (k + 1) = a * 16 + hexD (bt t (k : Int)) by rw [hh.out]; rfl)
   rw [bt_getD] at hx HX
   generalize (t.data.toList.getD k 0) = c at hc hx HX
   have hc256 : c.toNat < 256 := c.toNat_lt
   have ltab := lower_tab ⟨c.toNat, hc256⟩
   clear hB
   have a1 : a ≤ 65535 := by omega
   by_cases hdig : 48 ≤ c.toNat ∧ c.toNat ≤ 57
   ·obtain ⟨hd0, hd1⟩ := hdig
    have HV := Lib.hid (show hexD ((c.toNat : Nat) : Int) = (c.toNat : Int) - 48 by unfold hexD; rw [if_pos (by omega)])
    clear ltab hx
    go_wp2
    refine ⟨⟨k + 1, a * 16 + ((c.toNat : Int) - 48), rfl, (by first | rfl | (congr 1; omega)), (by first | rfl | (congr 1; omega)), by omega, Lib.hid (by rw [HX.out, HV.out])⟩, by simp [intOf]; omega⟩
   ·by_cases hlo : 97 ≤ c.toNat ∧ c.toNat ≤ 102
    ·obtain ⟨hd0, hd1⟩ := hlo
     have HV := Lib.hid (show hexD ((c.toNat : Nat) : Int) = (c.toNat : Int) - 87 by unfold hexD; rw [if_neg (by omega), if_pos (by omega)])
     have hl := ltab.1 hd0 hd1
     simp only at hl
     clear ltab hx hdig
     go_wp2_with ((go_at_call 115; refine (lower_ _ _).mono ?_; rintro e w' ⟨rfl, rfl⟩))
     refine ⟨⟨k + 1, a * 16 + ((c.toNat : Int) - 87), rfl, (by first | rfl | (congr 1; omega)), (by first | rfl | (congr 1; omega)), by omega, Lib.hid (by rw [HX.out, HV.out])⟩, by simp [intOf]; omega⟩
    ·have hup : 65 ≤ c.toNat ∧ c.toNat ≤ 70 := by unfold hexD at hx; split at hx; omega; split at hx; omega; split at hx; omega; omega
     obtain ⟨hd0, hd1⟩ := hup
     have HV := Lib.hid (show hexD ((c.toNat : Nat) : Int) = (c.toNat : Int) - 55 by unfold hexD; rw [if_neg (by omega), if_neg (by omega), if_pos (by omega)])
     have hl := ltab.2 hd0 hd1
     simp only at hl
     clear ltab hx hdig hlo
     go_wp2_with ((go_at_call 115; refine (lower_ _ _).mono ?_; rintro e w' ⟨rfl, rfl⟩))
     refine ⟨⟨k + 1, a * 16 + ((c.toNat : Int) - 55), rfl, (by first | rfl | (congr 1; omega)), (by first | rfl | (congr 1; omega)), by omega, Lib.hid (by rw [HX.out, HV.out])⟩, by simp [intOf]; omega⟩
  ·obtain rfl : k = 4 := by omega
   have h4a := hh.out
   clear hB ha0 ha1
   go_wp2
   go_ret2
   exact ⟨rfl, rfl⟩
set_option maxHeartbeats 4000000 in
set_option maxRecDepth 100000 in
theorem parseUintPub (t : ByteArray) (h4 : t.size = 4) (hd : ∀ j : Nat, j < 4 → 0 ≤ hexD (bt t (j : Int))) (w : World) :
  Calls Tryz.prog 97 #[.string t, .int .i64 16, .int .i64 32] w fun e w' => e = .returned (.tuple #[.int .u64 (hexA t 4), .nilIface]) ∧ Below w.heap.size w w' := by
 have hI := parseUint16 t h4 hd w
 go_enter Tryz.func97, Tryz.ntmps97
 go_wp2_with ((go_at_call 105; refine hI.mono ?_; rintro e W1 ⟨rfl, rfl⟩))
 go_wp2
 go_ret2
 exact ⟨rfl, Lib.bytesWorld_below _ _ _⟩
end Go.Proofs.YtbonodglnilkfaaGreatDoor.Str
namespace Go.Proofs.YtbonodglnilkfaaGreatDoor.Read
open Go Go.RowKit Go.Proofs.YtbonodglnilkfaaGreatDoorW.PrintWords Go.Proofs.YtbonodglnilkfaaGreatDoor.Str Go.Proofs.YtbonodglnilkfaaGreatDoor.Tchs
set_option linter.unusedVariables false
set_option linter.unusedSimpArgs false
def ixh (c : Int) : Int := Lib.indexByte [48, 49, 50, 51, 52, 53, 54, 55, 56, 57, 97, 98, 99, 100, 101, 102, 65, 66, 67, 68, 69, 70] c.toNat.toUInt8
theorem ixh_tab : ∀ n : Fin 256, (ixh (n.1 : Int) < 0 ↔ hexD (n.1 : Int) < 0) := by decide +kernel
theorem ixh_lt (c : Int) (h0 : 0 ≤ c) (h1 : c ≤ 255) : ixh c < 0 ↔ hexD c < 0 := by
 have h := ixh_tab ⟨c.toNat, by omega⟩
 simpa [Int.toNat_of_nonneg h0] using h
theorem index_hex (c : Int) (w : World) : Calls Tryz.prog 51 #[.string ⟨#[48, 49, 50, 51, 52, 53, 54, 55, 56, 57, 97, 98, 99, 100, 101, 102, 65, 66, 67, 68, 69, 70]⟩, .int .u8 c] w fun e w' => e = .returned (.int .i64 (ixh c)) ∧ w' = w := Tryz.strings_IndexByte _ c w
theorem bt_cut (s : ByteArray) (p n j : Nat) (h : p + n ≤ s.size) (hj : j < n) : bt (s.extract p (p + n)) (j : Int) = bt s ((p : Int) + (j : Int)) := by
 rw [bt_getD, show ((p : Int) + (j : Int)) = ((p + j : Nat) : Int) by omega, bt_getD]
 have e : (s.extract p (p + n)).data.toList = (s.data.toList.drop p).take n := by simp
 rw [e]
 simp [List.getD_eq_getElem?_getD, List.getElem?_take, List.getElem?_drop, hj]
set_option maxRecDepth 100000 in
set_option maxHeartbeats 4000000 in
theorem hex (g : Nat) (s : ByteArray) (p : Nat) (rg tw : Bool) (w : World) (h : Rdr w g s p rg tw) (hp : p ≤ s.size) (hs : s.size ≤ 1048576) :
  Calls Tryz.prog 78 #[.pointer (some ⟨g, 0, none⟩)] w fun e w' => (∀ v, unitF s p = some v → e = .returned (.int .i32 v) ∧ Rdr w' g s (p + 4) rg tw) ∧ (unitF s p = none → e = .panicked noForm ∧ Rdr w' g s p rg tw) ∧ Tch w w' (fun k => k = g) := by
 have H := Lib.hid h
 obtain ⟨h0, h1, hf⟩ := h.at_
 clear h
 go_enter Tryz.func78, Tryz.ntmps78
 go_wp2_with fail
 by_cases hlen : (s.size : Int) < (p : Int) + 4
 ·have hd : decide ((s.size : Int) < (p : Int) + 4) = true := decide_eq_true hlen
  go_quiet (fail)
  go_wp2_with fail
  have hu : unitF s p = none := by unfold unitF; rw [if_neg (by omega)]
  refine ⟨rfl, ?_⟩
  refine ⟨fun v hv => ?_, fun _ => ⟨rfl, H.out.drewN _⟩, (Tch.refl w _).drewN _⟩
  rw [hu] at hv
  cases hv
 ·have hd : decide ((s.size : Int) < (p : Int) + 4) = false := decide_eq_false hlen
  go_quiet (fail)
  go_wp2_with fail
  clear h0 h1 hf hd
  go_loopw [19, 3] (fun v19 v3 wr => ∃ i : Nat, v19 = .int .i64 i ∧ Hid (i ≤ 4) ∧ Hid (∀ j : Nat, j < i → 0 ≤ hexD (bt s ((p : Int) + j))) ∧ Hid (Rdr wr g s p rg tw) ∧ Hid (Tch w wr (fun k => k = g))) (fun v19 _ _ => 4 - (intOf v19).toNat)
  case atStart => exact ⟨0, rfl, Lib.hid (Nat.zero_le _), Lib.hid (fun j hj => absurd hj (Nat.not_lt_zero _)), Lib.hid (H.out.drewN _), Lib.hid ((Tch.refl w _).drewN _)⟩
  case round =>
   obtain ⟨i, rfl, HI, HD, HR, HT⟩ := hrel
   obtain ⟨h0, h1, hf⟩ := HR.out.at_
   by_cases hi : (i : Int) < 4
   ·have hpi : p + i < s.size := by omega
    have hb0 : (0 : Int) ≤ (p : Int) + (i : Int) := by omega
    have hb1 : (p : Int) + (i : Int) < (s.size : Int) := by omega
    have hbt : bt s ((p : Int) + (i : Int)) = ((s[p + i]'hpi).toNat : Int) := by
     have : ((p : Int) + (i : Int)).toNat = p + i := by omega
     simp [bt, this, hpi]
    by_cases hh : hexD (bt s ((p : Int) + (i : Int))) < 0
    ·have hd : decide (ixh ((s[p + i]'hpi).toNat : Int) < 0) = true := decide_eq_true (by rw [← hbt]; exact (ixh_lt _ (bt_range _ _).1 (bt_range _ _).2).2 hh)
     go_wp2_with fail
     go_quiet ((go_at_call 51; refine Calls.quiet_of_same (index_hex _ _)))
     go_wp2_with fail
     have hu : unitF s p = none := by
      unfold unitF
      rw [if_neg]
      intro hc
      have h4 : i = 0 ∨ i = 1 ∨ i = 2 ∨ i = 3 := by omega
      rcases h4 with rfl | rfl | rfl | rfl <;> simp at hh <;> omega
     refine ⟨rfl, ?_⟩
     refine ⟨fun v hv => ?_, fun _ => ⟨rfl, HR.out.drewN _⟩, HT.out.drewN _⟩
     rw [hu] at hv
     cases hv
    ·have hd : decide (ixh ((s[p + i]'hpi).toNat : Int) < 0) = false := decide_eq_false (by rw [← hbt]; exact fun h => hh ((ixh_lt _ (bt_range _ _).1 (bt_range _ _).2).1 h))
     go_wp2_with fail
     go_quiet ((go_at_call 51; refine Calls.quiet_of_same (index_hex _ _)))
     go_wp2_with fail
     refine ⟨⟨i + 1, by simp, Lib.hid (by omega), Lib.hid (fun j hj => ?_), Lib.hid (HR.out.drewN _), Lib.hid (HT.out.drewN _)⟩, by simp [intOf]; omega⟩
     rcases Nat.lt_or_ge j i with h | h
     ·exact HD.out j h
     ·obtain rfl : j = i := by omega
      omega
   ·obtain rfl : i = 4 := by have := HI.out; omega
    have h4 : (s.extract p (p + 4)).size = 4 := by simp; omega
    have hd4 : ∀ j : Nat, j < 4 → 0 ≤ hexD (bt (s.extract p (p + 4)) (j : Int)) := fun j hj => by rw [bt_cut s p 4 j (by omega) hj]; exact HD.out j hj
    have hP := fun w => parseUintPub (s.extract p (p + 4)) h4 hd4 w
    have hA := hexA_le (s.extract p (p + 4)) hd4 4 (Nat.le_refl _)
    have hu : unitF s p = some (hexA (s.extract p (p + 4)) 4) := by
     have e0 : 0 ≤ hexD (bt s ((p : Int) + 0)) := HD.out 0 (by omega)
     have e1 : 0 ≤ hexD (bt s ((p : Int) + 1)) := HD.out 1 (by omega)
     have e2 : 0 ≤ hexD (bt s ((p : Int) + 2)) := HD.out 2 (by omega)
     have e3 : 0 ≤ hexD (bt s ((p : Int) + 3)) := HD.out 3 (by omega)
     have b0 : bt (s.extract p (p + 4)) ((0 : Nat) : Int) = bt s ((p : Int) + 0) := bt_cut s p 4 0 (by omega) (by omega)
     have b1 : bt (s.extract p (p + 4)) ((1 : Nat) : Int) = bt s ((p : Int) + 1) := bt_cut s p 4 1 (by omega) (by omega)
     have b2 : bt (s.extract p (p + 4)) ((2 : Nat) : Int) = bt s ((p : Int) + 2) := bt_cut s p 4 2 (by omega) (by omega)
     have b3 : bt (s.extract p (p + 4)) ((3 : Nat) : Int) = bt s ((p : Int) + 3) := bt_cut s p 4 3 (by omega) (by omega)
     have e : hexA (s.extract p (p + 4)) 4 = (((0 * 16 + hexD (bt (s.extract p (p + 4)) ((0 : Nat) : Int))) * 16 + hexD (bt (s.extract p (p + 4)) ((1 : Nat) : Int))) * 16 + hexD (bt (s.extract p (p + 4)) ((2 : Nat) : Int))) * 16 + hexD (bt (s.extract p (p + 4)) ((3 : Nat) : Int)) := rfl
     rw [e, b0, b1, b2, b3]
     rw [Int.add_zero] at e0 ⊢
     unfold unitF
     rw [if_pos ⟨by omega, e0, e1, e2, e3⟩, Int.zero_mul, Int.zero_add]
    have HU := Lib.hid hu
    clear hu
    obtain ⟨A, hAe⟩ : ∃ A, A = hexA (s.extract p (p + 4)) 4 := ⟨_, rfl⟩
    rw [← hAe] at hA hP HU
    clear hAe hd4 h4 HD HI
    have hA1 : A ≤ 65535 := by omega
    have hA0 : 0 ≤ A := hA.1
    clear hA
    have hb0 : (0 : Int) ≤ (p : Int) := by omega
    have hb1 : (p : Int) ≤ (p : Int) + 4 := by omega
    have hb2 : (p : Int) + 4 ≤ (s.size : Int) := by omega
    have hw4 : IntKind.i64.wrap ((p : Int) + 4) = (p : Int) + 4 := by rw [IntKind.wrap_i64]; omega
    go_wp2_with fail
    go_region_held3 (fun w' => w'.cell? ⟨g, 0, none⟩ = some (.string s) ∧ w'.cell? ⟨g, 1, none⟩ = some (.int .i64 (p : Int))) (first | exact ⟨h0, h1⟩ | go_keep | exact ⟨HR6.out.at_.1, HR6.out.at_.2.1⟩) (first | (go_at_call 97; refine (hP _).mono ?_; rintro e w6 ⟨rfl, hb6⟩; have HR6 := Lib.hid (Rdr.below (Rdr.drew HR.out) hb6); have HT6 := Lib.hid (Tch.below (Tch.drew HT.out) hb6); clear hb6))
    obtain ⟨g0, g1, gf⟩ := HR6.out.at_
    go_wp2_with fail
    go_ret
    refine ⟨fun v hv => ?_, fun hn => ?_, Tch.setCell HT6.out (p := ⟨g, 1, none⟩) (.inl rfl) _⟩
    ·rw [HU.out] at hv
     injection hv with hv
     subst hv
     exact ⟨rfl, Rdr.set HR6.out _ _ (by simp)⟩
    ·rw [HU.out] at hn
     cases hn
end Go.Proofs.YtbonodglnilkfaaGreatDoor.Read
namespace Go.Proofs.YtbonodglnilkfaaGreatDoor.Tree
open Go Go.RowKit Go.Proofs.YtbonodglnilkfaaGreatDoorW.PrintWords Go.Proofs.YtbonodglnilkfaaGreatDoor.Str Go.Proofs.YtbonodglnilkfaaGreatDoor.PJs
set_option linter.unusedVariables false
set_option linter.unusedSimpArgs false
theorem q_step (s : ByteArray) (hs : s.size ≤ 100000000) (i : Nat) (hi : i < s.size) (acc : List Int) (hl : acc.length ≤ 1000000000) (k : Nat) :
  spec_l1Quoted.l0 (k + 2) s HEX acc (i : Int) = spec_l1Quoted.l0 k s HEX (acc ++ escI (bt s (i : Int))) ((i + 1 : Nat) : Int) := by
 have hc := bt_range s (i : Int)
 have hw : wrap64 ((i : Int) + 1) = ((i + 1 : Nat) : Int) := by rw [w64 (by omega) (by omega)]; omega
 rw [spec_l1Quoted.l0, if_pos (by omega), if_pos (by omega)]
 generalize bt s (i : Int) = c at hc ⊢
 have e1 : ∀ b : Bool, b = (decide (c = 34) || decide (c = 92)) → spec_l1Quoted.j1 (k + 1) s HEX acc (i : Int) c b = spec_l1Quoted.l0 k s HEX (acc ++ escI c) ((i + 1 : Nat) : Int) := by
  intro b hb
  rw [spec_l1Quoted.j1, hw]
  unfold escI
  by_cases h1 : c = 34
  ·rw [if_pos (by rw [hb]; simp [h1]), if_pos h1, h1, Option.bind_some, if_pos (by simp; omega)]
  by_cases h2 : c = 92
  ·rw [if_pos (by rw [hb]; simp [h2]), if_neg h1, if_pos h2, h2, Option.bind_some, if_pos (by simp; omega)]
  rw [if_neg (by rw [hb]; simp [h1, h2]), if_neg h1, if_neg h2]
  by_cases h3 : c = 8
  ·rw [if_pos h3, if_pos h3, Option.bind_some, if_pos (by simp; omega)]
  by_cases h4 : c = 9
  ·rw [if_neg h3, if_pos h4, if_neg h3, if_pos h4, Option.bind_some, if_pos (by simp; omega)]
  by_cases h5 : c = 10
  ·rw [if_neg h3, if_neg h4, if_pos h5, if_neg h3, if_neg h4, if_pos h5, Option.bind_some, if_pos (by simp; omega)]
  by_cases h6 : c = 12
  ·rw [if_neg h3, if_neg h4, if_neg h5, if_pos h6, if_neg h3, if_neg h4, if_neg h5, if_pos h6, Option.bind_some, if_pos (by simp; omega)]
  by_cases h7 : c = 13
  ·rw [if_neg h3, if_neg h4, if_neg h5, if_neg h6, if_pos h7, if_neg h3, if_neg h4, if_neg h5, if_neg h6, if_pos h7, Option.bind_some, if_pos (by simp; omega)]
  rw [if_neg h3, if_neg h4, if_neg h5, if_neg h6, if_neg h7, if_neg h3, if_neg h4, if_neg h5, if_neg h6, if_neg h7]
  by_cases h8 : c < 32
  ·have e3 : (HEX.size : Int) = 16 := rfl
   have ed : Int.tdiv c 16 = c / 16 := Int.tdiv_eq_ediv_of_nonneg hc.1
   have em : Int.tmod c 16 = c % 16 := Int.tmod_eq_emod_of_nonneg hc.1
   rw [if_pos h8, if_pos h8, ed, em, e3, if_pos (by omega), if_pos (by omega), if_pos (by omega), if_pos (by omega), Option.bind_some, if_pos (by simp; omega), show c / 16 % 256 = c / 16 by omega]
  ·rw [if_neg h8, if_neg h8, if_pos (by omega)]
 by_cases h1 : c = 34
 ·rw [if_pos h1]
  exact e1 true (by simp [h1])
 ·rw [if_neg h1]
  refine e1 _ ?_
  rw [Bool.eq_iff_iff]
  simp [h1]
theorem byt_get (s : ByteArray) (i : Nat) (hi : i < s.size) : (byt s).drop i = bt s (i : Int) :: (byt s).drop (i + 1) := by
 have h : i < (byt s).length := by rw [byt_len]; exact hi
 rw [List.drop_eq_getElem_cons h]
 congr 1
 simp [byt, bt, hi]
 rfl
theorem q_loop (s : ByteArray) (hs : s.size ≤ 100000000) : ∀ (n i : Nat) (acc : List Int) (k : Nat), s.size - i = n → i ≤ s.size → acc.length + 6 * n ≤ 1000000000 → 2 * n + 1 ≤ k →
  spec_l1Quoted.l0 k s HEX acc (i : Int) = some (strOfNums (acc ++ (((byt s).drop i).flatMap escI ++ [34]))) := by
 intro n
 induction n with
 | zero =>
  intro i acc k hn hi hl hk
  obtain ⟨k, rfl⟩ : ∃ j, k = j + 1 := ⟨k - 1, by omega⟩
  rw [spec_l1Quoted.l0, if_neg (by omega), if_pos (by omega), List.drop_of_length_le (by rw [byt_len]; omega)]
  rfl
 | succ n ih =>
  intro i acc k hn hi hl hk
  obtain ⟨k, rfl⟩ : ∃ j, k = j + 2 := ⟨k - 2, by omega⟩
  rw [q_step s hs i (by omega) acc (by omega) k]
  have := escI_len (bt s (i : Int))
  rw [ih (i + 1) (acc ++ escI (bt s (i : Int))) k (by omega) (by omega) (by rw [List.length_append]; omega) (by omega), byt_get s i (by omega), List.flatMap_cons]
  simp only [List.append_assoc]
theorem quoted_f (s : ByteArray) (hs : s.size ≤ 100000000) (k : Nat) (hk : 2 * s.size + 1 ≤ k) : spec_l1Quoted.f k s = some (strOfNums (quo s)) := by
 unfold spec_l1Quoted.f
 rw [show (0 : Int) = ((0 : Nat) : Int) from rfl, q_loop s hs s.size 0 [34] k (by omega) (by omega) (by simp; omega) (by omega)]
 rw [List.drop_zero]
 rfl
end Go.Proofs.YtbonodglnilkfaaGreatDoor.Tree
