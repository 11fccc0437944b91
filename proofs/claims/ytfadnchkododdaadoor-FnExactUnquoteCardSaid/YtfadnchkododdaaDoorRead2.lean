/- The reader of JSON: contracts by hand of hex, escape, str. -/
import Derived.Test.YtfadnchkododdaaDoorRead
import Derived.Test.YtfadnchkododdaaDoorHex
import Derived.Deep.RegionHeld3
namespace Go.Proofs.YtfadnchkododdaaDoor.Read
open Go Go.RowKit Go.Proofs.YtfadnchkododdaaDoorW.PrintWords Go.Proofs.YtfadnchkododdaaDoor.Str Go.Proofs.YtfadnchkododdaaDoor.Tchs
set_option linter.unusedVariables false
set_option linter.unusedSimpArgs false

/-- The place of a byte among the hexadecimal digits. -/
def ixh (c : Int) : Int := Lib.indexByte [48, 49, 50, 51, 52, 53, 54, 55, 56, 57, 97, 98, 99, 100, 101, 102, 65, 66, 67, 68, 69, 70] c.toNat.toUInt8
theorem ixh_tab : ∀ n : Fin 256, (ixh (n.1 : Int) < 0 ↔ hexD (n.1 : Int) < 0) := by decide +kernel
theorem ixh_lt (c : Int) (h0 : 0 ≤ c) (h1 : c ≤ 255) : ixh c < 0 ↔ hexD c < 0 := by
  have h := ixh_tab ⟨c.toNat, by omega⟩
  simpa [Int.toNat_of_nonneg h0] using h
theorem index_hex (c : Int) (w : World) : Calls Tryd.prog 49 #[.string ⟨#[48, 49, 50, 51, 52, 53, 54, 55, 56, 57, 97, 98, 99, 100, 101, 102, 65, 66, 67, 68, 69, 70]⟩, .int .u8 c] w fun e w' => e = .returned (.int .i64 (ixh c)) ∧ w' = w := Tryd.strings_IndexByte _ c w

theorem bt_cut (s : ByteArray) (p n j : Nat) (h : p + n ≤ s.size) (hj : j < n) : bt (s.extract p (p + n)) (j : Int) = bt s ((p : Int) + (j : Int)) := by
  rw [bt_getD, show ((p : Int) + (j : Int)) = ((p + j : Nat) : Int) by omega, bt_getD]
  have e : (s.extract p (p + n)).data.toList = (s.data.toList.drop p).take n := by simp
  rw [e]
  simp [List.getD_eq_getElem?_getD, List.getElem?_take, List.getElem?_drop, hj]

set_option maxRecDepth 100000 in
set_option maxHeartbeats 4000000 in
theorem hex (g : Nat) (s : ByteArray) (p : Nat) (rg tw : Bool) (w : World) (h : Rdr w g s p rg tw) (hp : p ≤ s.size) (hs : s.size ≤ 1048576) :
    Calls Tryd.prog 50 #[.pointer (some ⟨g, 0, none⟩)] w fun e w' => (∀ v, unitF s p = some v → e = .returned (.int .i32 v) ∧ Rdr w' g s (p + 4) rg tw) ∧ (unitF s p = none → e = .panicked noForm ∧ Rdr w' g s p rg tw) ∧ Tch w w' (fun k => k = g) := by
  have H := Lib.hid h
  obtain ⟨h0, h1, hf⟩ := h.at_
  clear h
  go_enter Tryd.func50, Tryd.ntmps50
  go_wp2_with fail
  by_cases hlen : (s.size : Int) < (p : Int) + 4
  · have hd : decide ((s.size : Int) < (p : Int) + 4) = true := decide_eq_true hlen
    go_quiet (fail)
    go_wp2_with fail
    have hu : unitF s p = none := by unfold unitF; rw [if_neg (by omega)]
    refine ⟨rfl, ?_⟩
    refine ⟨fun v hv => ?_, fun _ => ⟨rfl, H.out.drewN _⟩, (Tch.refl w _).drewN _⟩
    rw [hu] at hv
    cases hv
  · have hd : decide ((s.size : Int) < (p : Int) + 4) = false := decide_eq_false hlen
    go_quiet (fail)
    go_wp2_with fail
    clear h0 h1 hf hd
    go_loopw [19, 3] (fun v19 v3 wr => ∃ i : Nat, v19 = .int .i64 i ∧ Hid (i ≤ 4) ∧ Hid (∀ j : Nat, j < i → 0 ≤ hexD (bt s ((p : Int) + j))) ∧ Hid (Rdr wr g s p rg tw) ∧ Hid (Tch w wr (fun k => k = g))) (fun v19 _ _ => 4 - (intOf v19).toNat)
    case atStart => exact ⟨0, rfl, Lib.hid (Nat.zero_le _), Lib.hid (fun j hj => absurd hj (Nat.not_lt_zero _)), Lib.hid (H.out.drewN _), Lib.hid ((Tch.refl w _).drewN _)⟩
    case round =>
      obtain ⟨i, rfl, HI, HD, HR, HT⟩ := hrel
      obtain ⟨h0, h1, hf⟩ := HR.out.at_
      by_cases hi : (i : Int) < 4
      · have hpi : p + i < s.size := by omega
        have hb0 : (0 : Int) ≤ (p : Int) + (i : Int) := by omega
        have hb1 : (p : Int) + (i : Int) < (s.size : Int) := by omega
        have hbt : bt s ((p : Int) + (i : Int)) = ((s[p + i]'hpi).toNat : Int) := by
          have : ((p : Int) + (i : Int)).toNat = p + i := by omega
          simp [bt, this, hpi]
        by_cases hh : hexD (bt s ((p : Int) + (i : Int))) < 0
        · have hd : decide (ixh ((s[p + i]'hpi).toNat : Int) < 0) = true := decide_eq_true (by rw [← hbt]; exact (ixh_lt _ (bt_range _ _).1 (bt_range _ _).2).2 hh)
          go_wp2_with fail
          go_quiet ((go_at_call 49; refine Calls.quiet_of_same (index_hex _ _)))
          go_wp2_with fail
          have hu : unitF s p = none := by
            unfold unitF
            rw [if_neg]
            intro hc
            have h4 : i = 0 ∨ i = 1 ∨ i = 2 ∨ i = 3 := by omega
            rcases h4 with rfl | rfl | rfl | rfl <;> simp at hh <;> omega
          refine ⟨rfl, ?_⟩
          refine ⟨fun v hv => ?_, fun _ => ⟨rfl, HR.out.drewN _⟩, HT.out.drewN _⟩
          rw [hu] at hv
          cases hv
        · have hd : decide (ixh ((s[p + i]'hpi).toNat : Int) < 0) = false := decide_eq_false (by rw [← hbt]; exact fun h => hh ((ixh_lt _ (bt_range _ _).1 (bt_range _ _).2).1 h))
          go_wp2_with fail
          go_quiet ((go_at_call 49; refine Calls.quiet_of_same (index_hex _ _)))
          go_wp2_with fail
          refine ⟨⟨i + 1, by simp, Lib.hid (by omega), Lib.hid (fun j hj => ?_), Lib.hid (HR.out.drewN _), Lib.hid (HT.out.drewN _)⟩, by simp [intOf]; omega⟩
          rcases Nat.lt_or_ge j i with h | h
          · exact HD.out j h
          · obtain rfl : j = i := by omega
            omega
      · obtain rfl : i = 4 := by have := HI.out; omega
        have h4 : (s.extract p (p + 4)).size = 4 := by simp; omega
        have hd4 : ∀ j : Nat, j < 4 → 0 ≤ hexD (bt (s.extract p (p + 4)) (j : Int)) := fun j hj => by rw [bt_cut s p 4 j (by omega) hj]; exact HD.out j hj
        have hP := fun w => parseUintPub (s.extract p (p + 4)) h4 hd4 w
        have hA := hexA_le (s.extract p (p + 4)) hd4 4 (Nat.le_refl _)
        have hu : unitF s p = some (hexA (s.extract p (p + 4)) 4) := by
          have e0 : 0 ≤ hexD (bt s ((p : Int) + 0)) := HD.out 0 (by omega)
          have e1 : 0 ≤ hexD (bt s ((p : Int) + 1)) := HD.out 1 (by omega)
          have e2 : 0 ≤ hexD (bt s ((p : Int) + 2)) := HD.out 2 (by omega)
          have e3 : 0 ≤ hexD (bt s ((p : Int) + 3)) := HD.out 3 (by omega)
          have b0 : bt (s.extract p (p + 4)) ((0 : Nat) : Int) = bt s ((p : Int) + 0) := bt_cut s p 4 0 (by omega) (by omega)
          have b1 : bt (s.extract p (p + 4)) ((1 : Nat) : Int) = bt s ((p : Int) + 1) := bt_cut s p 4 1 (by omega) (by omega)
          have b2 : bt (s.extract p (p + 4)) ((2 : Nat) : Int) = bt s ((p : Int) + 2) := bt_cut s p 4 2 (by omega) (by omega)
          have b3 : bt (s.extract p (p + 4)) ((3 : Nat) : Int) = bt s ((p : Int) + 3) := bt_cut s p 4 3 (by omega) (by omega)
          have e : hexA (s.extract p (p + 4)) 4 = (((0 * 16 + hexD (bt (s.extract p (p + 4)) ((0 : Nat) : Int))) * 16 + hexD (bt (s.extract p (p + 4)) ((1 : Nat) : Int))) * 16 + hexD (bt (s.extract p (p + 4)) ((2 : Nat) : Int))) * 16 + hexD (bt (s.extract p (p + 4)) ((3 : Nat) : Int)) := rfl
          rw [e, b0, b1, b2, b3]
          rw [Int.add_zero] at e0 ⊢
          unfold unitF
          rw [if_pos ⟨by omega, e0, e1, e2, e3⟩, Int.zero_mul, Int.zero_add]
        have HU := Lib.hid hu
        clear hu
        obtain ⟨A, hAe⟩ : ∃ A, A = hexA (s.extract p (p + 4)) 4 := ⟨_, rfl⟩
        rw [← hAe] at hA hP HU
        clear hAe hd4 h4 HD HI
        have hA1 : A ≤ 65535 := by omega
        have hA0 : 0 ≤ A := hA.1
        clear hA
        have hb0 : (0 : Int) ≤ (p : Int) := by omega
        have hb1 : (p : Int) ≤ (p : Int) + 4 := by omega
        have hb2 : (p : Int) + 4 ≤ (s.size : Int) := by omega
        have hw4 : IntKind.i64.wrap ((p : Int) + 4) = (p : Int) + 4 := by rw [IntKind.wrap_i64]; omega
        go_wp2_with fail
        go_region_held3 (fun w' => w'.cell? ⟨g, 0, none⟩ = some (.string s) ∧ w'.cell? ⟨g, 1, none⟩ = some (.int .i64 (p : Int))) (first | exact ⟨h0, h1⟩ | go_keep | exact ⟨HR6.out.at_.1, HR6.out.at_.2.1⟩) (first | (go_at_call 62; refine (hP _).mono ?_; rintro e w6 ⟨rfl, hb6⟩; have HR6 := Lib.hid (Rdr.below (Rdr.drew HR.out) hb6); have HT6 := Lib.hid (Tch.below (Tch.drew HT.out) hb6); clear hb6))
        obtain ⟨g0, g1, gf⟩ := HR6.out.at_
        go_wp2_with fail
        go_ret
        refine ⟨fun v hv => ?_, fun hn => ?_, Tch.setCell HT6.out (p := ⟨g, 1, none⟩) (.inl rfl) _⟩
        · rw [HU.out] at hv
          injection hv with hv
          subst hv
          exact ⟨rfl, Rdr.set HR6.out _ _ (by simp)⟩
        · rw [HU.out] at hn
          cases hn
end Go.Proofs.YtfadnchkododdaaDoor.Read
