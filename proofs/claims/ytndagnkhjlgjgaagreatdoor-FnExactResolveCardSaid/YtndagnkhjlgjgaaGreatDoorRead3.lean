/- strconv.ParseUint at base 16 and 32 bits, of four hexadecimal digits: their number. -/
import Derived.Test.YtndagnkhjlgjgaaGreatDoorProg
import Derived.Lib.Strings
import Derived.Lib.Walk
import Derived.Lib.ConvBytes
import Derived.Lib.AtoiErrMem
import Derived.Lib.Hide
import Derived.Laws.Strings3
import Derived.Laws.Closers25
import Derived.Laws.Closers25b
import Derived.WalkKit
import Derived.BigCall
import Derived.BigGuard
import Derived.Test.YtndagnkhjlgjgaaGreatDoorNum
import Derived.Deep.RegionHeld3
namespace Go.Proofs.YtndagnkhjlgjgaaGreatDoor.Str
open Go Go.RowKit YtndagnkhjlgjgaaGreatDoorW.PrintWords
set_option linter.unusedVariables false
def hexA (t : ByteArray) : Nat → Int
 | 0 => 0
 | k + 1 => hexA t k * 16 + hexD (bt t (k : Int))
theorem lower_tab : ∀ n : Fin 256, (97 ≤ n.1 → n.1 ≤ 102 → Go.bits .or .u8 (n.1 : Int) 32 = (n.1 : Int)) ∧ (65 ≤ n.1 → n.1 ≤ 70 → Go.bits .or .u8 (n.1 : Int) 32 = (n.1 : Int) + 32) := by decide +kernel
theorem hexA_le (t : ByteArray) (hd : ∀ j : Nat, j < 4 → 0 ≤ hexD (bt t (j : Int))) : ∀ k, k ≤ 4 → 0 ≤ hexA t k ∧ hexA t k * 16 ≤ 1048560
 | 0, _ => by simp [hexA]
 | 1, _ => by have := hexD_le (bt t 0); have := hd 0 (by omega); simp [hexA] at *; omega
 | 2, _ => by have := hexD_le (bt t 0); have := hd 0 (by omega); have := hexD_le (bt t 1); have := hd 1 (by omega); simp [hexA] at *; omega
 | 3, _ => by have := hexD_le (bt t 0); have := hd 0 (by omega); have := hexD_le (bt t 1); have := hd 1 (by omega); have := hexD_le (bt t 2); have := hd 2 (by omega); simp [hexA] at *; omega
 | 4, _ => by have := hexD_le (bt t 0); have := hd 0 (by omega); have := hexD_le (bt t 1); have := hd 1 (by omega); have := hexD_le (bt t 2); have := hd 2 (by omega); have := hexD_le (bt t 3); have := hd 3 (by omega); simp [hexA] at *; omega
 | k + 5, h => by omega
theorem bt_getD (t : ByteArray) (j : Nat) : bt t (j : Int) = ((t.data.toList.getD j 0).toNat : Int) := by
 unfold bt
 by_cases h : j < t.size
 ·have e : t.data.toList.getD j 0 = t[j]'h := by
   simp [List.getD_eq_getElem?_getD, h]
   rfl
  rw [e]
  simp [h]
 ·have e : t.data.toList.getD j 0 = 0 := by
   rw [List.getD_eq_getElem?_getD, List.getElem?_eq_none (by rw [Array.length_toList]; exact Nat.le_of_not_lt h)]
   rfl
  rw [e]
  simp [h]
set_option maxRecDepth 100000 in
theorem lower_ (c : Int) (w : World) : Calls Tryz.prog 223 #[.int .u8 c] w fun e w' => e = .returned (.int .u8 (Go.bits .or .u8 c 32)) ∧ w' = w := by
 go_enter Tryz.func223, Tryz.ntmps223
 go_wp2
 go_ret
 exact ⟨rfl, rfl⟩
set_option maxHeartbeats 32000000 in
set_option maxRecDepth 100000 in
theorem parseUint16 (t : ByteArray) (h4 : t.size = 4) (hd : ∀ j : Nat, j < 4 → 0 ≤ hexD (bt t (j : Int))) (w : World) :
  Calls Tryz.prog 201 #[.string t, .int .i64 16, .int .i64 32] w fun e w' => e = .returned (.tuple #[.int .u64 (hexA t 4), .nilIface]) ∧ w' = Lib.bytesWorld w 5 t := by
 have hemp : t.toList.isEmpty = false := by
  rw [← decide_eq_emptyBytes]
  exact decide_eq_false (fun h => by rw [h] at h4; cases h4)
 have hcv := Lib.run_convert_string_bytes (P := Tryz.prog) w 9 44 5 t (u := .string) Tryz.underlying9 Tryz.underlying44 Tryz.underlying5
 have hB : ∀ j, j < t.size → (Lib.bytesWorld w 5 t).cell? ⟨w.heap.size, j, none⟩ = some (.int .u8 (t.data.toList.getD j 0).toNat) := fun j hj => Lib.bytesWorld_cell w 5 t j hj
 obtain ⟨W1, hW1⟩ : ∃ W1, W1 = Lib.bytesWorld w 5 t := ⟨_, rfl⟩
 rw [← hW1] at hcv hB ⊢
 clear hW1
 have hA := hexA_le t hd
 have HD := Lib.hid hd
 have HAL := Lib.hid hA
 clear hd hA
 have hmv : IntKind.u64.wrap (IntKind.u64.wrap 4294967296 - 1) = 4294967295 := by
  rw [IntKind.wrap_u64, IntKind.wrap_u64]
  decide
 go_enter Tryz.func201, Tryz.ntmps201
 go_wp2
 go_loop [12, 13, 101] (fun vu vn vi => ∃ (k : Nat) (a : Int), vu = .bool false ∧ vn = .int .u64 a ∧ vi = .int .i64 k ∧ k ≤ 4 ∧ Hid (a = hexA t k)) (fun _ _ vi => 4 - (intOf vi).toNat)
 case atStart => exact ⟨0, 0, rfl, rfl, rfl, by omega, Lib.hid rfl⟩
 case round =>
  obtain ⟨k, a, rfl, rfl, rfl, hk, hh⟩ := hrel
  have ha := (HAL.out k hk)
  rw [← hh.out] at ha
  obtain ⟨ha0, ha1⟩ := ha
  by_cases hkn : k < 4
  ·have hc := hB k (by omega)
   have hx := HD.out k hkn
   have HX := Lib.hid (show hexA t (k + 1) = a * 16 + hexD (bt t (k : Int)) by rw [hh.out]; rfl)
   rw [bt_getD] at hx HX
   generalize (t.data.toList.getD k 0) = c at hc hx HX
   have hc256 : c.toNat < 256 := c.toNat_lt
   have ltab := lower_tab ⟨c.toNat, hc256⟩
   clear hB
   have a1 : a ≤ 65535 := by omega
   by_cases hdig : 48 ≤ c.toNat ∧ c.toNat ≤ 57
   ·obtain ⟨hd0, hd1⟩ := hdig
    have HV := Lib.hid (show hexD ((c.toNat : Nat) : Int) = (c.toNat : Int) - 48 by unfold hexD; rw [if_pos (by omega)])
    clear ltab hx
    go_wp2
    refine ⟨⟨k + 1, a * 16 + ((c.toNat : Int) - 48), rfl, (by first | rfl | (congr 1; omega)), (by first | rfl | (congr 1; omega)), by omega, Lib.hid (by rw [HX.out, HV.out])⟩, by simp [intOf]; omega⟩
   ·by_cases hlo : 97 ≤ c.toNat ∧ c.toNat ≤ 102
    ·obtain ⟨hd0, hd1⟩ := hlo
     have HV := Lib.hid (show hexD ((c.toNat : Nat) : Int) = (c.toNat : Int) - 87 by unfold hexD; rw [if_neg (by omega), if_pos (by omega)])
     have hl := ltab.1 hd0 hd1
     simp only at hl
     clear ltab hx hdig
     go_wp2_with ((go_at_call 223; refine (lower_ _ _).mono ?_; rintro e w' ⟨rfl, rfl⟩))
     refine ⟨⟨k + 1, a * 16 + ((c.toNat : Int) - 87), rfl, (by first | rfl | (congr 1; omega)), (by first | rfl | (congr 1; omega)), by omega, Lib.hid (by rw [HX.out, HV.out])⟩, by simp [intOf]; omega⟩
    ·have hup : 65 ≤ c.toNat ∧ c.toNat ≤ 70 := by unfold hexD at hx; split at hx; omega; split at hx; omega; split at hx; omega; omega
     obtain ⟨hd0, hd1⟩ := hup
     have HV := Lib.hid (show hexD ((c.toNat : Nat) : Int) = (c.toNat : Int) - 55 by unfold hexD; rw [if_neg (by omega), if_neg (by omega), if_pos (by omega)])
     have hl := ltab.2 hd0 hd1
     simp only at hl
     clear ltab hx hdig hlo
     go_wp2_with ((go_at_call 223; refine (lower_ _ _).mono ?_; rintro e w' ⟨rfl, rfl⟩))
     refine ⟨⟨k + 1, a * 16 + ((c.toNat : Int) - 55), rfl, (by first | rfl | (congr 1; omega)), (by first | rfl | (congr 1; omega)), by omega, Lib.hid (by rw [HX.out, HV.out])⟩, by simp [intOf]; omega⟩
  ·obtain rfl : k = 4 := by omega
   have h4a := hh.out
   clear hB ha0 ha1
   go_wp2
   go_ret2
   exact ⟨rfl, rfl⟩
set_option maxHeartbeats 4000000 in
set_option maxRecDepth 100000 in
theorem parseUintPub (t : ByteArray) (h4 : t.size = 4) (hd : ∀ j : Nat, j < 4 → 0 ≤ hexD (bt t (j : Int))) (w : World) :
  Calls Tryz.prog 219 #[.string t, .int .i64 16, .int .i64 32] w fun e w' => e = .returned (.tuple #[.int .u64 (hexA t 4), .nilIface]) ∧ Below w.heap.size w w' := by
 have hI := parseUint16 t h4 hd w
 go_enter Tryz.func219, Tryz.ntmps219
 go_wp2_with ((go_at_call 201; refine hI.mono ?_; rintro e W1 ⟨rfl, rfl⟩))
 go_wp2
 go_ret2
 exact ⟨rfl, Lib.bytesWorld_below _ _ _⟩
end Go.Proofs.YtndagnkhjlgjgaaGreatDoor.Str
namespace Go.Proofs.YtndagnkhjlgjgaaGreatDoor.Read
open Go Go.RowKit YtndagnkhjlgjgaaGreatDoorW.PrintWords Str Tchs
set_option linter.unusedVariables false
set_option linter.unusedSimpArgs false
def ixh (c : Int) : Int := Lib.indexByte [48, 49, 50, 51, 52, 53, 54, 55, 56, 57, 97, 98, 99, 100, 101, 102, 65, 66, 67, 68, 69, 70] c.toNat.toUInt8
theorem ixh_tab : ∀ n : Fin 256, (ixh (n.1 : Int) < 0 ↔ hexD (n.1 : Int) < 0) := by decide +kernel
theorem ixh_lt (c : Int) (h0 : 0 ≤ c) (h1 : c ≤ 255) : ixh c < 0 ↔ hexD c < 0 := by
 have h := ixh_tab ⟨c.toNat, by omega⟩
 simpa [Int.toNat_of_nonneg h0] using h
theorem index_hex (c : Int) (w : World) : Calls Tryz.prog 134 #[.string ⟨#[48, 49, 50, 51, 52, 53, 54, 55, 56, 57, 97, 98, 99, 100, 101, 102, 65, 66, 67, 68, 69, 70]⟩, .int .u8 c] w fun e w' => e = .returned (.int .i64 (ixh c)) ∧ w' = w := Tryz.strings_IndexByte _ c w
theorem bt_cut (s : ByteArray) (p n j : Nat) (h : p + n ≤ s.size) (hj : j < n) : bt (s.extract p (p + n)) (j : Int) = bt s ((p : Int) + (j : Int)) := by
 rw [bt_getD, show ((p : Int) + (j : Int)) = ((p + j : Nat) : Int) by omega, bt_getD]
 have e : (s.extract p (p + n)).data.toList = (s.data.toList.drop p).take n := by simp
 rw [e]
 simp [List.getD_eq_getElem?_getD, List.getElem?_take, List.getElem?_drop, hj]
set_option maxRecDepth 100000 in
set_option maxHeartbeats 4000000 in
theorem hex (g : Nat) (s : ByteArray) (p : Nat) (rg tw : Bool) (w : World) (h : Rdr w g s p rg tw) (hp : p ≤ s.size) (hs : s.size ≤ 1048576) :
  Calls Tryz.prog 192 #[.pointer (some ⟨g, 0, none⟩)] w fun e w' => (∀ v, unitF s p = some v → e = .returned (.int .i32 v) ∧ Rdr w' g s (p + 4) rg tw) ∧ (unitF s p = none → e = .panicked noForm ∧ Rdr w' g s p rg tw) ∧ Tch w w' (fun k => k = g) := by
 have H := Lib.hid h
 obtain ⟨h0, h1, hf⟩ := h.at_
 clear h
 go_enter Tryz.func192, Tryz.ntmps192
 go_wp2_with fail
 by_cases hlen : (s.size : Int) < (p : Int) + 4
 ·have hd : decide ((s.size : Int) < (p : Int) + 4) = true := decide_eq_true hlen
  go_quiet (fail)
  go_wp2_with fail
  have hu : unitF s p = none := by unfold unitF; rw [if_neg (by omega)]
  refine ⟨rfl, ?_⟩
  refine ⟨fun v hv => ?_, fun _ => ⟨rfl, H.out.drewN _⟩, (Tch.refl w _).drewN _⟩
  rw [hu] at hv
  cases hv
 ·have hd : decide ((s.size : Int) < (p : Int) + 4) = false := decide_eq_false hlen
  go_quiet (fail)
  go_wp2_with fail
  clear h0 h1 hf hd
  go_loopw [19, 3] (fun v19 v3 wr => ∃ i : Nat, v19 = .int .i64 i ∧ Hid (i ≤ 4) ∧ Hid (∀ j : Nat, j < i → 0 ≤ hexD (bt s ((p : Int) + j))) ∧ Hid (Rdr wr g s p rg tw) ∧ Hid (Tch w wr (fun k => k = g))) (fun v19 _ _ => 4 - (intOf v19).toNat)
  case atStart => exact ⟨0, rfl, Lib.hid (Nat.zero_le _), Lib.hid (fun j hj => absurd hj (Nat.not_lt_zero _)), Lib.hid (H.out.drewN _), Lib.hid ((Tch.refl w _).drewN _)⟩
  case round =>
   obtain ⟨i, rfl, HI, HD, HR, HT⟩ := hrel
   obtain ⟨h0, h1, hf⟩ := HR.out.at_
   by_cases hi : (i : Int) < 4
   ·have hpi : p + i < s.size := by omega
    have hb0 : (0 : Int) ≤ (p : Int) + (i : Int) := by omega
    have hb1 : (p : Int) + (i : Int) < (s.size : Int) := by omega
    have hbt : bt s ((p : Int) + (i : Int)) = ((s[p + i]'hpi).toNat : Int) := by
     have : ((p : Int) + (i : Int)).toNat = p + i := by omega
     simp [bt, this, hpi]
    by_cases hh : hexD (bt s ((p : Int) + (i : Int))) < 0
    ·have hd : decide (ixh ((s[p + i]'hpi).toNat : Int) < 0) = true := decide_eq_true (by rw [← hbt]; exact (ixh_lt _ (bt_range _ _).1 (bt_range _ _).2).2 hh)
     go_wp2_with fail
     go_quiet ((go_at_call 134; refine Calls.quiet_of_same (index_hex _ _)))
     go_wp2_with fail
     have hu : unitF s p = none := by
      unfold unitF
      rw [if_neg]
      intro hc
      have h4 : i = 0 ∨ i = 1 ∨ i = 2 ∨ i = 3 := by omega
      rcases h4 with rfl | rfl | rfl | rfl <;> simp at hh <;> omega
     refine ⟨rfl, ?_⟩
     refine ⟨fun v hv => ?_, fun _ => ⟨rfl, HR.out.drewN _⟩, HT.out.drewN _⟩
     rw [hu] at hv
     cases hv
    ·have hd : decide (ixh ((s[p + i]'hpi).toNat : Int) < 0) = false := decide_eq_false (by rw [← hbt]; exact fun h => hh ((ixh_lt _ (bt_range _ _).1 (bt_range _ _).2).1 h))
     go_wp2_with fail
     go_quiet ((go_at_call 134; refine Calls.quiet_of_same (index_hex _ _)))
     go_wp2_with fail
     refine ⟨⟨i + 1, by simp, Lib.hid (by omega), Lib.hid (fun j hj => ?_), Lib.hid (HR.out.drewN _), Lib.hid (HT.out.drewN _)⟩, by simp [intOf]; omega⟩
     rcases Nat.lt_or_ge j i with h | h
     ·exact HD.out j h
     ·obtain rfl : j = i := by omega
      omega
   ·obtain rfl : i = 4 := by have := HI.out; omega
    have h4 : (s.extract p (p + 4)).size = 4 := by simp; omega
    have hd4 : ∀ j : Nat, j < 4 → 0 ≤ hexD (bt (s.extract p (p + 4)) (j : Int)) := fun j hj => by rw [bt_cut s p 4 j (by omega) hj]; exact HD.out j hj
    have hP := fun w => parseUintPub (s.extract p (p + 4)) h4 hd4 w
    have hA := hexA_le (s.extract p (p + 4)) hd4 4 (Nat.le_refl _)
    have hu : unitF s p = some (hexA (s.extract p (p + 4)) 4) := by
     have e0 : 0 ≤ hexD (bt s ((p : Int) + 0)) := HD.out 0 (by omega)
     have e1 : 0 ≤ hexD (bt s ((p : Int) + 1)) := HD.out 1 (by omega)
     have e2 : 0 ≤ hexD (bt s ((p : Int) + 2)) := HD.out 2 (by omega)
     have e3 : 0 ≤ hexD (bt s ((p : Int) + 3)) := HD.out 3 (by omega)
     have b0 : bt (s.extract p (p + 4)) ((0 : Nat) : Int) = bt s ((p : Int) + 0) := bt_cut s p 4 0 (by omega) (by omega)
     have b1 : bt (s.extract p (p + 4)) ((1 : Nat) : Int) = bt s ((p : Int) + 1) := bt_cut s p 4 1 (by omega) (by omega)
     have b2 : bt (s.extract p (p + 4)) ((2 : Nat) : Int) = bt s ((p : Int) + 2) := bt_cut s p 4 2 (by omega) (by omega)
     have b3 : bt (s.extract p (p + 4)) ((3 : Nat) : Int) = bt s ((p : Int) + 3) := bt_cut s p 4 3 (by omega) (by omega)
     have e : hexA (s.extract p (p + 4)) 4 = (((0 * 16 + hexD (bt (s.extract p (p + 4)) ((0 : Nat) : Int))) * 16 + hexD (bt (s.extract p (p + 4)) ((1 : Nat) : Int))) * 16 + hexD (bt (s.extract p (p + 4)) ((2 : Nat) : Int))) * 16 + hexD (bt (s.extract p (p + 4)) ((3 : Nat) : Int)) := rfl
     rw [e, b0, b1, b2, b3]
     rw [Int.add_zero] at e0 ⊢
     unfold unitF
     rw [if_pos ⟨by omega, e0, e1, e2, e3⟩, Int.zero_mul, Int.zero_add]
    have HU := Lib.hid hu
    clear hu
    obtain ⟨A, hAe⟩ : ∃ A, A = hexA (s.extract p (p + 4)) 4 := ⟨_, rfl⟩
    rw [← hAe] at hA hP HU
    clear hAe hd4 h4 HD HI
    have hA1 : A ≤ 65535 := by omega
    have hA0 : 0 ≤ A := hA.1
    clear hA
    have hb0 : (0 : Int) ≤ (p : Int) := by omega
    have hb1 : (p : Int) ≤ (p : Int) + 4 := by omega
    have hb2 : (p : Int) + 4 ≤ (s.size : Int) := by omega
    have hw4 : IntKind.i64.wrap ((p : Int) + 4) = (p : Int) + 4 := by rw [IntKind.wrap_i64]; omega
    go_wp2_with fail
    go_region_held3 (fun w' => w'.cell? ⟨g, 0, none⟩ = some (.string s) ∧ w'.cell? ⟨g, 1, none⟩ = some (.int .i64 (p : Int))) (first | exact ⟨h0, h1⟩ | go_keep | exact ⟨HR6.out.at_.1, HR6.out.at_.2.1⟩) (first | (go_at_call 219; refine (hP _).mono ?_; rintro e w6 ⟨rfl, hb6⟩; have HR6 := Lib.hid (Rdr.below (Rdr.drew HR.out) hb6); have HT6 := Lib.hid (Tch.below (Tch.drew HT.out) hb6); clear hb6))
    obtain ⟨g0, g1, gf⟩ := HR6.out.at_
    go_wp2_with fail
    go_ret
    refine ⟨fun v hv => ?_, fun hn => ?_, Tch.setCell HT6.out (p := ⟨g, 1, none⟩) (.inl rfl) _⟩
    ·rw [HU.out] at hv
     injection hv with hv
     subst hv
     exact ⟨rfl, Rdr.set HR6.out _ _ (by simp)⟩
    ·rw [HU.out] at hn
     cases hn
def ixe (c : Int) : Int := Lib.indexByte [34, 92, 47, 98, 102, 110, 114, 116] c.toNat.toUInt8
abbrev EscT : ByteArray := ⟨#[34, 92, 47, 8, 12, 10, 13, 9]⟩
theorem ixe_tab : ∀ n : Fin 256, (0 ≤ ixe (n.1 : Int) ↔ 0 ≤ simpF (n.1 : Int)) ∧ ixe (n.1 : Int) < 8 ∧ -1 ≤ ixe (n.1 : Int) ∧ (0 ≤ ixe (n.1 : Int) → bt EscT (ixe (n.1 : Int)) = simpF (n.1 : Int)) := by decide +kernel
theorem ixe_at (c : Int) (h0 : 0 ≤ c) (h1 : c ≤ 255) : (0 ≤ ixe c ↔ 0 ≤ simpF c) ∧ ixe c < 8 ∧ -1 ≤ ixe c ∧ (0 ≤ ixe c → bt EscT (ixe c) = simpF c) := by
 have h := ixe_tab ⟨c.toNat, by omega⟩
 simpa [Int.toNat_of_nonneg h0] using h
theorem index_esc (c : Int) (w : World) : Calls Tryz.prog 134 #[.string ⟨#[34, 92, 47, 98, 102, 110, 114, 116]⟩, .int .u8 c] w fun e w' => e = .returned (.int .i64 (ixe c)) ∧ w' = w := Tryz.strings_IndexByte _ c w
theorem rune_u8L (r : Int) (h : (0 ≤ r ∧ r < 55296) ∨ (57343 < r ∧ r ≤ 1114111)) : Lib.encodeRuneZ r = u8L r := by
 unfold u8L
 by_cases h1 : r < 128
 ·rw [if_pos h1, Lib.encodeRuneZ_one (by omega) (by omega)]
 rw [if_neg h1]
 by_cases h2 : r < 2048
 ·rw [if_pos h2, Lib.encodeRuneZ_two (by omega) (by omega)]
 rw [if_neg h2]
 by_cases h3 : r < 65536
 ·rw [if_pos h3, Lib.encodeRuneZ_three (by omega)]
 ·rw [if_neg h3, Lib.encodeRuneZ_four (by omega) (by omega)]
theorem runeCells_u8L (r : Int) (h : (0 ≤ r ∧ r < 55296) ∨ (57343 < r ∧ r ≤ 1114111)) : Lib.runeCells r = nums .u8 (u8L r) := by
 unfold Lib.runeCells
 rw [rune_u8L r h]
 rfl
theorem append_rune (B : Nat) (v : Value) (acc : List Int) (r : Int) (h : (0 ≤ r ∧ r < 55296) ∨ (57343 < r ∧ r ≤ 1114111)) (w : World) (hown : w.ownsRow B 5 1 v acc.length (nums .u8 acc)) (hlen : acc.length ≤ 100000000) (hB : B ≤ w.heap.size) :
  Calls Tryz.prog 193 #[v, .int .i32 r] w fun e w' => ∃ v', e = .returned v' ∧ w'.ownsRow B 5 1 v' (acc ++ u8L r).length (nums .u8 (acc ++ u8L r)) ∧ Tch w w' (fun k => B ≤ k) := by
 refine (Tryz.utf8_AppendRune_plain B v acc.length (nums .u8 acc) r (by omega) (by omega) w hown (by omega) hB).mono ?_
 rintro e w' ⟨v', rfl, ho, o, hg⟩
 refine ⟨v', rfl, ?_, ?_⟩
 ·rw [runeCells_u8L r h] at ho
  simpa [nums] using ho
 ·exact Tch.grown (Tch.alloc (Tch.refl w _) o) hg (fun k hk => .inl (own_base hown k hk))
def Reads (w w' : World) (g B : Nat) (s : ByteArray) (rg tw : Bool) (acc : List Int) (r : Option (List Int × Nat)) (e : Ending) : Prop :=
 (∀ b q, r = some (b, q) → ∃ v', e = .returned v' ∧ w'.ownsRow B 5 1 v' (acc ++ b).length (nums .u8 (acc ++ b)) ∧ Rdr w' g s q rg tw) ∧
 (r = none → e = .panicked noForm ∧ ∃ q, Rdr w' g s q rg tw) ∧ Tch w w' (fun k => k = g ∨ B ≤ k)
theorem Reads.some_ {w w' : World} {g B : Nat} {s : ByteArray} {rg tw : Bool} {acc b : List Int} {q : Nat} {v' : Value} (h1 : w'.ownsRow B 5 1 v' (acc ++ b).length (nums .u8 (acc ++ b))) (h2 : Rdr w' g s q rg tw) (h3 : Tch w w' (fun k => k = g ∨ B ≤ k)) : Reads w w' g B s rg tw acc (some (b, q)) (.returned v') := by
 refine ⟨fun b' q' h => ?_, (fun h => by cases h), h3⟩
 injection h with h
 injection h with ha hb
 subst ha; subst hb
 exact ⟨_, rfl, h1, h2⟩
theorem Reads.none_ {w w' : World} {g B : Nat} {s : ByteArray} {rg tw : Bool} {acc : List Int} {q : Nat} (h2 : Rdr w' g s q rg tw) (h3 : Tch w w' (fun k => k = g ∨ B ≤ k)) : Reads w w' g B s rg tw acc none (.panicked noForm) :=
 ⟨fun b' q' h => (by cases h), fun _ => ⟨rfl, q, h2⟩, h3⟩
theorem _root_.Go.Proofs.YtndagnkhjlgjgaaGreatDoor.Tchs.Tch.of_belowB {w w1 : World} {B : Nat} (h : Below B w w1) : Tch w w1 (fun k => B ≤ k) := ⟨h.os, h.tape, h.output, h.size, fun k _ hk => h.block k (by omega)⟩
theorem Rdr.belowB {w w1 : World} {g B : Nat} {s : ByteArray} {p : Nat} {rg tw : Bool} (h : Rdr w g s p rg tw) (hb : Below B w w1) (hg : g < B) : Rdr w1 g s p rg tw := (hb.block g hg).trans h
theorem own_tch {w w1 : World} {B e size n : Nat} {v : Value} {xs : List Value} {S : Nat → Prop} (h : w.ownsRow B e size v n xs) (ht : Tch w w1 S) (hS : ∀ k, B ≤ k → ¬ S k) : w1.ownsRow B e size v n xs := by
 refine ⟨h.1, ?_⟩
 rcases h.2 with h2 | ⟨g, cap, cur, h1, h2, h3, h4⟩
 ·exact .inl h2
 ·exact .inr ⟨g, cap, cur, h1, h2, (ht.kept.2 g (blk_lt h3) (hS g h2)).trans h3, h4⟩
theorem escF_at (s : ByteArray) (p : Nat) (hp : p < s.size) : escF s p = if 0 ≤ simpF (bt s (p : Int)) then some ([simpF (bt s (p : Int))], p + 1)
  else if bt s (p : Int) = 117 then
   match unitF s (p + 1) with
   | none => none
   | some v =>
    if 56320 ≤ v ∧ v ≤ 57343 then none
    else if 55296 ≤ v ∧ v ≤ 56319 then
     if p + 7 ≤ s.size ∧ bt s ((p : Int) + 5) = 92 ∧ bt s ((p : Int) + 6) = 117 then
      match unitF s (p + 7) with
      | none => none
      | some u => if u < 56320 ∨ u > 57343 then none else some (u8L (65536 + (v - 55296) * 1024 + (u - 56320)), p + 11)
     else none
    else some (u8L v, p + 5)
  else none := by
 unfold escF
 exact if_pos hp
theorem pre_u (s : ByteArray) (q : Nat) : pre s q ⟨#[92, 117]⟩ = true ↔ (q + 2 ≤ s.size ∧ bt s (q : Int) = 92 ∧ bt s ((q : Int) + 1) = 117) := by
 have hl : (List.take (s.size - q) (List.drop q s.data.toList)) = List.drop q s.data.toList := List.take_of_length_le (by rw [List.length_drop, Array.length_toList]; exact Nat.le_refl _)
 have hn : (List.drop q s.data.toList).length = s.size - q := by rw [List.length_drop, Array.length_toList]; rfl
 have b0 := bt_getD s q
 have b1 := bt_getD s (q + 1)
 rw [show ((q + 1 : Nat) : Int) = (q : Int) + 1 by omega] at b1
 have g0 : (List.drop q s.data.toList).getD 0 0 = s.data.toList.getD q 0 := by simp [List.getD_eq_getElem?_getD]
 have g1 : (List.drop q s.data.toList).getD 1 0 = s.data.toList.getD (q + 1) 0 := by simp [List.getD_eq_getElem?_getD]
 rw [← g0] at b0
 rw [← g1] at b1
 unfold pre
 rw [hl, b0, b1]
 generalize List.drop q s.data.toList = l at hn
 show Lib.hasPrefix l [92, 117] = true ↔ _
 have e92 : ∀ a : UInt8, ((a.toNat : Int) = 92) ↔ (92 : UInt8) = a := fun a => by
  rw [eq_comm (a := (92 : UInt8)), ← UInt8.toNat_inj]
  show _ ↔ a.toNat = 92
  omega
 have e117 : ∀ a : UInt8, ((a.toNat : Int) = 117) ↔ (117 : UInt8) = a := fun a => by
  rw [eq_comm (a := (117 : UInt8)), ← UInt8.toNat_inj]
  show _ ↔ a.toNat = 117
  omega
 match l, hn with
 | [], hn => simp only [List.length_nil] at hn; simp [Lib.hasPrefix] <;> omega
 | [a], hn => simp only [List.length_cons, List.length_nil] at hn; simp [Lib.hasPrefix] <;> omega
 | a :: b :: l, hn =>
  simp only [List.length_cons] at hn
  have hq : q + 2 ≤ s.size := by omega
  simp [Lib.hasPrefix, hq, List.getD, e92, e117]
theorem info5 : (Tryz.prog.info? 5).map (fun i => (i.zero, i.size, i.bytes)) = some (some (.int .u8 0), 1, 1) := by kernel_rfl
set_option maxRecDepth 100000 in
set_option maxHeartbeats 8000000 in
theorem escape (g : Nat) (s : ByteArray) (p : Nat) (rg tw : Bool) (v : Value) (acc : List Int) (B : Nat) (w : World) (h : Rdr w g s p rg tw) (hs : s.size ≤ 1048576) (hown : w.ownsRow B 5 1 v acc.length (nums .u8 acc)) (hlen : acc.length ≤ 100000000) (hB : B ≤ w.heap.size) (hgB : g < B) :
  Calls Tryz.prog 165 #[.pointer (some ⟨g, 0, none⟩), v] w fun e w' => Reads w w' g B s rg tw acc (escF s p) e := by
 have H := Lib.hid h
 have HO := Lib.hid hown
 obtain ⟨A, n, rfl⟩ := own_slice hown
 clear h hown
 go_enter Tryz.func165, Tryz.ntmps165
 go_wp2_with fail
 by_cases hp : p < s.size
 ·refine (peek_ok g s p rg tw _ H.out hp hs).mono ?_
  rintro e w1 ⟨rfl, hb1⟩
  have H1 := Lib.hid (Rdr.below H.out hb1)
  obtain ⟨h0, h1, hf⟩ := H1.out.at_
  have H2 := Lib.hid (Rdr.set H1.out ((p : Int) + 1) (p + 1) (by simp))
  have HT2 := Lib.hid (Tch.setCell (Tch.of_below hb1 (fun k => k = g)) (p := ⟨g, 1, none⟩) (.inl rfl) (.int .i64 ((p : Int) + 1)))
  have HO2 := Lib.hid (own_tch HO.out HT2.out (fun k hk => by omega))
  have hc0 := (bt_range s (p : Int)).1
  have hc1 := (bt_range s (p : Int)).2
  obtain ⟨hx1, hx2, hx3, hx4⟩ := ixe_at _ hc0 hc1
  have HE := Lib.hid (escF_at s p hp)
  have HGB := Lib.hid hgB
  generalize bt s (p : Int) = c at hc0 hc1 hx1 hx2 hx3 hx4 HE ⊢
  clear hb1
  go_wp2_with fail
  refine (index_esc c _).mono ?_
  rintro e w2 ⟨rfl, rfl⟩
  clear h0 h1 hf
  generalize w1.setCell ⟨g, 1, none⟩ (.int .i64 ((p : Int) + 1)) = w2 at H2 HT2 HO2 ⊢
  have hz2 : B ≤ w2.heap.size := Nat.le_trans hB HT2.out.kept.1
  by_cases hx : 0 ≤ ixe c
  ·have hd : decide (0 ≤ ixe c) = true := decide_eq_true hx
   have hbt : ∀ h : (ixe c).toNat < EscT.size, ((EscT[(ixe c).toNat]'h).toNat : Int) = simpF c := fun h => by rw [← hx4 hx]; exact bt_at EscT (ixe c) h
   have HE2 := Lib.hid (show escF s p = some ([simpF c], p + 1) by rw [HE.out, if_pos (hx1.1 hx)])
   clear hx4 hx1 hx3
   go_wp2_with (first | (at_builtin; refine print_append_num (w0 := w2) B rfl (.tmp 22) (.tmp 25) 44 5 .u8 1 rfl Tryz.underlying44 info5 (by decide) (.slice A acc.length n) acc _ rfl rfl HO2.out (Below.refl _ _) hz2 (by omega) ?_; intro v4 w4 hown4 hB4 hg4 _))
   go_ret
   rw [HE2.out]
   exact Reads.some_ hown4 (Rdr.belowB H2.out hB4 HGB.out) ((HT2.out.mono (S' := fun k => k = g ∨ B ≤ k) (fun k hk => .inl hk)).then_ (Tch.of_belowB hB4) (fun k hk => .inl (.inr hk)))
  ·have hd : decide (0 ≤ ixe c) = false := decide_eq_false hx
   have hn0 : ¬ 0 ≤ simpF c := fun h => hx (hx1.2 h)
   rw [if_neg hn0] at HE
   clear hx1 hx2 hx3 hx4
   by_cases hc : c = 117
   ·subst hc
    rw [if_pos rfl] at HE
    go_wp2_with fail
    refine (hex g s (p + 1) rg tw _ H2.out (by omega) hs).mono ?_
    rintro e w3 ⟨hok, hno, ht3⟩
    have HT3 := Lib.hid (HT2.out.then_ ht3 (fun k hk => .inl hk))
    have HO3 := Lib.hid (own_tch HO2.out ht3 (fun k hk => by have := HGB.out; omega))
    have hz3 : B ≤ w3.heap.size := Nat.le_trans hz2 ht3.kept.1
    cases hu : unitF s (p + 1) with
    | none =>
     obtain ⟨rfl, hR⟩ := hno hu
     have HR := Lib.hid hR
     clear hok hno hR ht3
     rw [hu] at HE
     go_wp2_with fail
     rw [HE.out]
     exact ⟨rfl, Reads.none_ HR.out (HT3.out.mono (fun k hk => .inl hk))⟩
    | some u =>
     obtain ⟨rfl, hR⟩ := hok u hu
     have HR := Lib.hid hR
     have hul := unitF_le hu
     rw [hu] at HE
     simp only at HE
     obtain ⟨hu0, hu1, hu2⟩ := hul
     clear hok hno hR ht3 hu
     by_cases a1 : 56320 ≤ u
     ·have d1 : decide (56320 ≤ u) = true := decide_eq_true a1
      by_cases a2 : u ≤ 57343
      ·have d2 : decide (u ≤ 57343) = true := decide_eq_true a2
       rw [if_pos ⟨a1, a2⟩] at HE
       go_wp2_with fail
       rw [HE.out]
       exact ⟨rfl, Reads.none_ HR.out (HT3.out.mono (fun k hk => .inl hk))⟩
      ·have d2 : decide (u ≤ 57343) = false := decide_eq_false a2
       have d3 : decide (55296 ≤ u) = true := decide_eq_true (by omega)
       have d4 : decide (u ≤ 56319) = false := decide_eq_false (by omega)
       rw [if_neg (fun h => a2 h.2), if_neg (fun h => by omega)] at HE
       go_wp2_with fail
       refine (append_rune B (.slice A acc.length n) acc u (by omega) _ HO3.out hlen hz3).mono ?_
       rintro e w4 ⟨v', rfl, hown4, ht4⟩
       have HOW := Lib.hid hown4
       have HT4 := Lib.hid ht4
       clear hown4 ht4
       go_wp2_with fail
       go_ret
       rw [HE.out]
       exact Reads.some_ HOW.out (Rdr.kept HR.out HT4.out.kept (by have := HGB.out; omega)) ((HT3.out.mono (S' := fun k => k = g ∨ B ≤ k) (fun k hk => .inl hk)).then_ HT4.out (fun k hk => .inl (.inr hk)))
     ·have d1 : decide (56320 ≤ u) = false := decide_eq_false a1
      by_cases a2 : 55296 ≤ u
      ·have d2 : decide (55296 ≤ u) = true := decide_eq_true a2
       have d3 : decide (u ≤ 56319) = true := decide_eq_true (by omega)
       rw [if_neg (fun h => a1 h.1), if_pos ⟨a2, by omega⟩] at HE
       go_wp2_with fail
       cases hw : pre s (p + 1 + 4) ⟨#[92, 117]⟩ with
       | false =>
        refine (want_no g s (p + 1 + 4) rg tw ⟨#[92, 117]⟩ _ HR.out (by omega) hs hw).mono ?_
        rintro e w4 ⟨rfl, hb4⟩
        rw [if_neg (fun h => by have h2 := (pre_u s (p + 1 + 4)).2 ⟨by omega, by rw [show ((p + 1 + 4 : Nat) : Int) = (p : Int) + 5 by omega]; exact h.2.1, by rw [show ((p + 1 + 4 : Nat) : Int) + 1 = (p : Int) + 6 by omega]; exact h.2.2⟩; rw [hw] at h2; cases h2)] at HE
        go_wp2_with fail
        rw [HE.out]
        exact ⟨rfl, Reads.none_ (Rdr.below HR.out hb4) ((HT3.out.below hb4).mono (fun k hk => .inl hk))⟩
       | true =>
        refine (want_ok g s (p + 1 + 4) rg tw ⟨#[92, 117]⟩ _ HR.out (by omega) hs hw (by decide)).mono ?_
        rintro e w4 ⟨rfl, hR4, ht4⟩
        have hq := (pre_u s (p + 1 + 4)).1 hw
        rw [show ((p + 1 + 4 : Nat) : Int) = (p : Int) + 5 by omega] at hq
        rw [if_pos ⟨by omega, hq.2.1, by have h := hq.2.2; rw [show (p : Int) + 5 + 1 = (p : Int) + 6 by omega] at h; exact h⟩] at HE
        have HR4 := Lib.hid (show Rdr w4 g s (p + 7) rg tw from hR4)
        have HT4 := Lib.hid (HT3.out.then_ ht4 (fun k hk => .inl hk))
        have HO4 := Lib.hid (own_tch HO3.out ht4 (fun k hk => by have := HGB.out; omega))
        have hz4 : B ≤ w4.heap.size := Nat.le_trans hz3 ht4.kept.1
        have hp7 : p + 7 ≤ s.size := by omega
        clear hR4 ht4 hq hw
        go_wp2_with fail
        refine (hex g s (p + 7) rg tw _ HR4.out hp7 hs).mono ?_
        rintro e w5 ⟨hok, hno, ht5⟩
        have HT5 := Lib.hid (HT4.out.then_ ht5 (fun k hk => .inl hk))
        have HO5 := Lib.hid (own_tch HO4.out ht5 (fun k hk => by have := HGB.out; omega))
        have hz5 : B ≤ w5.heap.size := Nat.le_trans hz4 ht5.kept.1
        cases hx : unitF s (p + 7) with
        | none =>
         obtain ⟨rfl, hR⟩ := hno hx
         have HR5 := Lib.hid hR
         clear hok hno hR ht5
         rw [hx] at HE
         go_wp2_with fail
         rw [HE.out]
         exact ⟨rfl, Reads.none_ HR5.out (HT5.out.mono (fun k hk => .inl hk))⟩
        | some x =>
         obtain ⟨rfl, hR⟩ := hok x hx
         have HR5 := Lib.hid hR
         have hxl := unitF_le hx
         rw [hx] at HE
         simp only at HE
         obtain ⟨hx0, hx1, hx2⟩ := hxl
         clear hok hno hR ht5 hx
         by_cases b1 : x < 56320
         ·have e1 : decide (x < 56320) = true := decide_eq_true b1
          rw [if_pos (.inl b1)] at HE
          go_wp2_with fail
          rw [HE.out]
          exact ⟨rfl, Reads.none_ HR5.out (HT5.out.mono (fun k hk => .inl hk))⟩
         ·have e1 : decide (x < 56320) = false := decide_eq_false b1
          by_cases b2 : 57343 < x
          ·have e2 : decide (57343 < x) = true := decide_eq_true b2
           rw [if_pos (.inr b2)] at HE
           go_wp2_with fail
           rw [HE.out]
           exact ⟨rfl, Reads.none_ HR5.out (HT5.out.mono (fun k hk => .inl hk))⟩
          ·have e2 : decide (57343 < x) = false := decide_eq_false b2
           rw [if_neg (by omega)] at HE
           go_wp2_with fail
           refine (append_rune B (.slice A acc.length n) acc (65536 + (u - 55296) * 1024 + (x - 56320)) (by omega) _ HO5.out hlen hz5).mono ?_
           rintro e w6 ⟨v', rfl, hown6, ht6⟩
           have HOW := Lib.hid hown6
           have HT6 := Lib.hid ht6
           clear hown6 ht6
           go_wp2_with fail
           go_ret
           rw [HE.out]
           exact Reads.some_ HOW.out (Rdr.kept HR5.out HT6.out.kept (by have := HGB.out; omega)) ((HT5.out.mono (S' := fun k => k = g ∨ B ≤ k) (fun k hk => .inl hk)).then_ HT6.out (fun k hk => .inl (.inr hk)))
      ·have d2 : decide (55296 ≤ u) = false := decide_eq_false a2
       rw [if_neg (fun h => a1 h.1), if_neg (fun h => a2 h.1)] at HE
       go_wp2_with fail
       refine (append_rune B (.slice A acc.length n) acc u (by omega) _ HO3.out hlen hz3).mono ?_
       rintro e w4 ⟨v', rfl, hown4, ht4⟩
       have HOW := Lib.hid hown4
       have HT4 := Lib.hid ht4
       clear hown4 ht4
       go_wp2_with fail
       go_ret
       rw [HE.out]
       exact Reads.some_ HOW.out (Rdr.kept HR.out HT4.out.kept (by have := HGB.out; omega)) ((HT3.out.mono (S' := fun k => k = g ∨ B ≤ k) (fun k hk => .inl hk)).then_ HT4.out (fun k hk => .inl (.inr hk)))
   ·rw [if_neg hc] at HE
    have hne : (c == 117) = false := by simpa using hc
    have hne2 : (c != 117) = true := by simpa using hc
    go_wp2_with fail
    rw [HE.out]
    exact ⟨rfl, Reads.none_ H2.out (HT2.out.mono (fun k hk => .inl hk))⟩
 ·refine (peek_no g s p rg tw _ H.out (by omega) hs).mono ?_
  rintro e w1 ⟨rfl, hb1⟩
  go_wp2_with fail
  have hE : escF s p = none := by unfold escF; exact if_neg hp
  rw [hE]
  exact ⟨rfl, Reads.none_ (Rdr.below H.out hb1) (Tch.of_below hb1 _)⟩
end Go.Proofs.YtndagnkhjlgjgaaGreatDoor.Read
