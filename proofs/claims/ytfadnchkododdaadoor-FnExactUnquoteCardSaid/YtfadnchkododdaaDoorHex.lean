/- strconv.ParseUint at base 16 and 32 bits, of four hexadecimal digits: their number. -/
import Derived.Test.YtfadnchkododdaaDoorStr0
import Derived.Test.YtfadnchkododdaaDoorProg
import Derived.Lib.Strings
import Derived.Lib.Walk
import Derived.Lib.ConvBytes
import Derived.Lib.AtoiErrMem
import Derived.Lib.Hide
import Derived.Laws.Strings3
import Derived.Laws.Closers25
import Derived.Laws.Closers25b
import Derived.WalkKit
import Derived.BigCall
import Derived.BigGuard
namespace Go.Proofs.YtfadnchkododdaaDoor.Str
open Go Go.RowKit Go.Proofs.YtfadnchkododdaaDoorW.PrintWords
set_option linter.unusedVariables false

/-- The number that the first k of a text's hexadecimal digits spell. -/
def hexA (t : ByteArray) : Nat → Int
  | 0 => 0
  | k + 1 => hexA t k * 16 + hexD (bt t (k : Int))
theorem lower_tab : ∀ n : Fin 256, (97 ≤ n.1 → n.1 ≤ 102 → Go.bits .or .u8 (n.1 : Int) 32 = (n.1 : Int)) ∧ (65 ≤ n.1 → n.1 ≤ 70 → Go.bits .or .u8 (n.1 : Int) 32 = (n.1 : Int) + 32) := by decide +kernel
theorem hexA_le (t : ByteArray) (hd : ∀ j : Nat, j < 4 → 0 ≤ hexD (bt t (j : Int))) : ∀ k, k ≤ 4 → 0 ≤ hexA t k ∧ hexA t k * 16 ≤ 1048560
  | 0, _ => by simp [hexA]
  | 1, _ => by have := hexD_le (bt t 0); have := hd 0 (by omega); simp [hexA] at *; omega
  | 2, _ => by have := hexD_le (bt t 0); have := hd 0 (by omega); have := hexD_le (bt t 1); have := hd 1 (by omega); simp [hexA] at *; omega
  | 3, _ => by have := hexD_le (bt t 0); have := hd 0 (by omega); have := hexD_le (bt t 1); have := hd 1 (by omega); have := hexD_le (bt t 2); have := hd 2 (by omega); simp [hexA] at *; omega
  | 4, _ => by have := hexD_le (bt t 0); have := hd 0 (by omega); have := hexD_le (bt t 1); have := hd 1 (by omega); have := hexD_le (bt t 2); have := hd 2 (by omega); have := hexD_le (bt t 3); have := hd 3 (by omega); simp [hexA] at *; omega
  | k + 5, h => by omega
theorem bt_getD (t : ByteArray) (j : Nat) : bt t (j : Int) = ((t.data.toList.getD j 0).toNat : Int) := by
  unfold bt
  by_cases h : j < t.size
  · have e : t.data.toList.getD j 0 = t[j]'h := by
      simp [List.getD_eq_getElem?_getD, h]
      rfl
    rw [e]
    simp [h]
  · have e : t.data.toList.getD j 0 = 0 := by
      rw [List.getD_eq_getElem?_getD, List.getElem?_eq_none (by rw [Array.length_toList]; exact Nat.le_of_not_lt h)]
      rfl
    rw [e]
    simp [h]

set_option maxRecDepth 100000 in
theorem lower_ (c : Int) (w : World) : Calls Tryd.prog 89 #[.int .u8 c] w fun e w' => e = .returned (.int .u8 (Go.bits .or .u8 c 32)) ∧ w' = w := by
  go_enter Tryd.func89, Tryd.ntmps89
  go_wp2
  go_ret
  exact ⟨rfl, rfl⟩
set_option maxHeartbeats 32000000 in
set_option maxRecDepth 100000 in
theorem parseUint16 (t : ByteArray) (h4 : t.size = 4) (hd : ∀ j : Nat, j < 4 → 0 ≤ hexD (bt t (j : Int))) (w : World) :
    Calls Tryd.prog 77 #[.string t, .int .i64 16, .int .i64 32] w fun e w' => e = .returned (.tuple #[.int .u64 (hexA t 4), .nilIface]) ∧ w' = Lib.bytesWorld w 5 t := by
  have hemp : t.toList.isEmpty = false := by
    rw [← decide_eq_emptyBytes]
    exact decide_eq_false (fun h => by rw [h] at h4; cases h4)
  have hcv := Lib.run_convert_string_bytes (P := Tryd.prog) w 9 57 5 t (u := .string) Tryd.underlying9 Tryd.underlying57 Tryd.underlying5
  have hB : ∀ j, j < t.size → (Lib.bytesWorld w 5 t).cell? ⟨w.heap.size, j, none⟩ = some (.int .u8 (t.data.toList.getD j 0).toNat) := fun j hj => Lib.bytesWorld_cell w 5 t j hj
  obtain ⟨W1, hW1⟩ : ∃ W1, W1 = Lib.bytesWorld w 5 t := ⟨_, rfl⟩
  rw [← hW1] at hcv hB ⊢
  clear hW1
  have hA := hexA_le t hd
  have HD := Lib.hid hd
  have HAL := Lib.hid hA
  clear hd hA
  have hmv : IntKind.u64.wrap (IntKind.u64.wrap 4294967296 - 1) = 4294967295 := by
    rw [IntKind.wrap_u64, IntKind.wrap_u64]
    decide
  go_enter Tryd.func77, Tryd.ntmps77
  go_wp2
  go_loop [12, 13, 101] (fun vu vn vi => ∃ (k : Nat) (a : Int), vu = .bool false ∧ vn = .int .u64 a ∧ vi = .int .i64 k ∧ k ≤ 4 ∧ Hid (a = hexA t k)) (fun _ _ vi => 4 - (intOf vi).toNat)
  case atStart => exact ⟨0, 0, rfl, rfl, rfl, by omega, Lib.hid rfl⟩
  case round =>
    obtain ⟨k, a, rfl, rfl, rfl, hk, hh⟩ := hrel
    have ha := (HAL.out k hk)
    rw [← hh.out] at ha
    obtain ⟨ha0, ha1⟩ := ha
    by_cases hkn : k < 4
    · have hc := hB k (by omega)
      have hx := HD.out k hkn
      have HX := Lib.hid (show hexA t (k + 1) = a * 16 + hexD (bt t (k : Int)) by rw [hh.out]; rfl)
      rw [bt_getD] at hx HX
      generalize (t.data.toList.getD k 0) = c at hc hx HX
      have hc256 : c.toNat < 256 := c.toNat_lt
      have ltab := lower_tab ⟨c.toNat, hc256⟩
      clear hB
      have a1 : a ≤ 65535 := by omega
      by_cases hdig : 48 ≤ c.toNat ∧ c.toNat ≤ 57
      · obtain ⟨hd0, hd1⟩ := hdig
        have HV := Lib.hid (show hexD ((c.toNat : Nat) : Int) = (c.toNat : Int) - 48 by unfold hexD; rw [if_pos (by omega)])
        clear ltab hx
        go_wp2
        refine ⟨⟨k + 1, a * 16 + ((c.toNat : Int) - 48), rfl, (by first | rfl | (congr 1; omega)), (by first | rfl | (congr 1; omega)), by omega, Lib.hid (by rw [HX.out, HV.out])⟩, by simp [intOf]; omega⟩
      · by_cases hlo : 97 ≤ c.toNat ∧ c.toNat ≤ 102
        · obtain ⟨hd0, hd1⟩ := hlo
          have HV := Lib.hid (show hexD ((c.toNat : Nat) : Int) = (c.toNat : Int) - 87 by unfold hexD; rw [if_neg (by omega), if_pos (by omega)])
          have hl := ltab.1 hd0 hd1
          simp only at hl
          clear ltab hx hdig
          go_wp2_with ((go_at_call 89; refine (lower_ _ _).mono ?_; rintro e w' ⟨rfl, rfl⟩))
          refine ⟨⟨k + 1, a * 16 + ((c.toNat : Int) - 87), rfl, (by first | rfl | (congr 1; omega)), (by first | rfl | (congr 1; omega)), by omega, Lib.hid (by rw [HX.out, HV.out])⟩, by simp [intOf]; omega⟩
        · have hup : 65 ≤ c.toNat ∧ c.toNat ≤ 70 := by unfold hexD at hx; split at hx; omega; split at hx; omega; split at hx; omega; omega
          obtain ⟨hd0, hd1⟩ := hup
          have HV := Lib.hid (show hexD ((c.toNat : Nat) : Int) = (c.toNat : Int) - 55 by unfold hexD; rw [if_neg (by omega), if_neg (by omega), if_pos (by omega)])
          have hl := ltab.2 hd0 hd1
          simp only at hl
          clear ltab hx hdig hlo
          go_wp2_with ((go_at_call 89; refine (lower_ _ _).mono ?_; rintro e w' ⟨rfl, rfl⟩))
          refine ⟨⟨k + 1, a * 16 + ((c.toNat : Int) - 55), rfl, (by first | rfl | (congr 1; omega)), (by first | rfl | (congr 1; omega)), by omega, Lib.hid (by rw [HX.out, HV.out])⟩, by simp [intOf]; omega⟩
    · obtain rfl : k = 4 := by omega
      have h4a := hh.out
      clear hB ha0 ha1
      go_wp2
      go_ret2
      exact ⟨rfl, rfl⟩

set_option maxHeartbeats 4000000 in
set_option maxRecDepth 100000 in
theorem parseUintPub (t : ByteArray) (h4 : t.size = 4) (hd : ∀ j : Nat, j < 4 → 0 ≤ hexD (bt t (j : Int))) (w : World) :
    Calls Tryd.prog 62 #[.string t, .int .i64 16, .int .i64 32] w fun e w' => e = .returned (.tuple #[.int .u64 (hexA t 4), .nilIface]) ∧ Below w.heap.size w w' := by
  have hI := parseUint16 t h4 hd w
  go_enter Tryd.func62, Tryd.ntmps62
  go_wp2_with ((go_at_call 77; refine hI.mono ?_; rintro e W1 ⟨rfl, rfl⟩))
  go_wp2
  go_ret2
  exact ⟨rfl, Lib.bytesWorld_below _ _ _⟩
end Go.Proofs.YtfadnchkododdaaDoor.Str
