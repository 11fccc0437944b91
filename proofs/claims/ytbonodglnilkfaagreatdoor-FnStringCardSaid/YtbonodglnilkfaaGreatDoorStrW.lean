/- The reference's l1String: the contract by hand. -/
import Derived.Test.YtbonodglnilkfaaGreatDoorRead4
import Derived.Test.YtbonodglnilkfaaGreatDoorPiece
import Derived.Test.YtbonodglnilkfaaGreatDoorEnd
import Derived.Maps.AppendAt
namespace Go.Proofs.YtbonodglnilkfaaGreatDoor.Read
open Go Go.RowKit Go.Proofs.YtbonodglnilkfaaGreatDoor.PJs Go.Proofs.YtbonodglnilkfaaGreatDoorW.PrintWords Go.Proofs.YtbonodglnilkfaaGreatDoor.Str Go.Proofs.YtbonodglnilkfaaGreatDoor.Tchs Go.Proofs.YtbonodglnilkfaaGreatDoor.Tree
set_option linter.unusedVariables false
set_option linter.unusedSimpArgs false
theorem at_f (s : ByteArray) (p : Nat) (c : Int) : spec_l1At.f s (p : Int) c = some (decide (p < s.size) && (bt s (p : Int) == c)) := by
 unfold spec_l1At.f
 by_cases h : p < s.size
 ·rw [if_pos (by omega), if_pos (by omega)]
  simp [h]
 ·rw [if_neg (by omega)]
  simp [h]
theorem own_below {w w1 : World} {B e size n : Nat} {v : Value} {xs : List Value} (h : w.ownsRow B e size v n xs) (hb : Below w.heap.size w w1) : w1.ownsRow B e size v n xs := own_tch h (Tch.of_below hb (fun _ => False)) (fun _ _ h => h)
theorem nums_news (b : List Int) (hb : ∀ x ∈ b, 0 ≤ x ∧ x ≤ 255) (w : World) (e : TypeId) : ∀ (j : Nat) (u : Value), (nums .u8 b)[j]? = some u → (Lib.bytesWorld w e (strOfNums b)).cell? ((⟨w.heap.size, 0, none⟩ : Addr).add j) = some u := by
 intro j u hu
 have hj : j < b.length := by
  have := (List.getElem?_eq_some_iff.1 hu).1
  simpa [nums] using this
 have hs : (strOfNums b).size = b.length := by
  show (strOfNums b).data.size = _
  rw [← Array.length_toList, strOfNums_data, List.length_map]
 have ha : (⟨w.heap.size, 0, none⟩ : Addr).add j = ⟨w.heap.size, j, none⟩ := by unfold Addr.add; split <;> simp_all
 rw [ha, Lib.bytesWorld_cell w e (strOfNums b) j (by omega), ← hu, strOfNums_data]
 have hx := hb b[j] (List.getElem_mem hj)
 simp only [nums, List.getD_eq_getElem?_getD, List.getElem?_map, List.getElem?_eq_getElem hj, Option.map_some, Option.getD_some]
 rw [UInt8.toNat_ofNat']
 congr 2
 omega
set_option maxRecDepth 100000 in
set_option maxHeartbeats 8000000 in
theorem l1String (s : ByteArray) (p : Nat) (w : World) (hs : s.size ≤ 1048576) (hp : p ≤ 2097152) :
  Calls Tryz.prog 40 #[.string s, .int .i64 (p : Int)] w fun e w' => e = .returned (.tuple #[.string (strOfNums (strXF s p).1), .int .i64 ((strXF s p).2.1 : Int), .bool (strXF s p).2.2]) ∧ Below w.heap.size w w' := by
 go_enter Tryz.func40, Tryz.ntmps40
 go_wp2_with fail
 refine (spec_l1At.calls s (p : Int) 34 _ _ (at_f s p 34)).mono ?_
 rintro e w1 ⟨rfl, ⟨m1, rfl⟩⟩
 by_cases h : p < s.size ∧ bt s (p : Int) = 34
 ·have hd : (decide (p < s.size) && (bt s (p : Int) == 34)) = true := by simp [h.1, h.2]
  have HX := Lib.hid (show strXF s p = strX s (s.size - p) (p + 1) [] by unfold strXF; rw [if_pos h])
  rw [hd]
  go_wp2_with fail
  obtain ⟨B, hB⟩ : ∃ B, B = w.heap.size := ⟨_, rfl⟩
  have HO := Lib.hid (show ((w.drewN m1).alloc (.cells #[] 5)).ownsRow B 5 1 (.slice (some ⟨w.heap.size, 0, none⟩) 0 0) ([] : List Int).length (nums .u8 []) from ⟨rfl, .inr ⟨w.heap.size, 0, #[], rfl, by omega, heap_alloc_new (w.drewN m1) _, Nat.le_refl _, by decide, rfl, rfl⟩⟩)
  have HBL := Lib.hid (show Below w.heap.size w ((w.drewN m1).alloc (.cells #[] 5)) from below_alloc (pw_below_drewN (Below.refl _ _) m1) _)
  generalize ((w.drewN m1).alloc (.cells #[] 5)) = wL at HO HBL ⊢
  have hBz : B ≤ wL.heap.size := by rw [hB]; exact HBL.out.size
  have HBZ := Lib.hid hBz
  have HBW := Lib.hid hB
  clear hd hBz
  rw [← hB] at HO ⊢
  go_loopw [7, 1] (fun v7 v1 wr => ∃ (acc : List Int) (q d : Nat), v1 = .int .i64 (q : Int) ∧ Hid (wr.ownsRow B 5 1 v7 acc.length (nums .u8 acc)) ∧ Hid (p < q ∧ q ≤ s.size ∧ s.size < q + d ∧ acc.length ≤ 4 * q) ∧ Hid (strXF s p = strX s d q acc) ∧ Hid (Below w.heap.size w wr) ∧ Hid (B ≤ wr.heap.size)) (fun _ v1 _ => s.size - (intOf v1).toNat)
  case atStart => exact ⟨[], p + 1, s.size - p, by simp, HO, Lib.hid ⟨by omega, by omega, by omega, by simp⟩, HX, HBL, HBZ⟩
  case round =>
   clear HO HX HBL HBZ
   obtain ⟨acc, q, d, rfl, HO, HI, HX, HBL, HBZ⟩ := hrel
   obtain ⟨A, n, rfl⟩ := own_slice HO.out
   obtain ⟨hpq, hq, hdd, hacc⟩ := HI.out
   have hcv := own_string (P := Tryz.prog) Tryz.underlying25 Tryz.underlying5 Tryz.underlying9 HO.out
   cases d with
   | zero => omega
   | succ d =>
   rw [strX] at HX
   by_cases hqs : q < s.size
   ·rw [if_pos hqs] at HX
    have d1 : decide ((q : Int) < (s.size : Int)) = true := decide_eq_true (by omega)
    have i0 : (0 : Int) ≤ (q : Int) := by omega
    have i1 : (q : Int) < (s.size : Int) := by omega
    have hbt : bt s (q : Int) = ((s[q]'hqs).toNat : Int) := by simp [bt, hqs]
    by_cases c34 : bt s (q : Int) = 34
    ·rw [if_pos c34] at HX
     have d2 : (((s[q]'hqs).toNat : Int) != 34) = false := by rw [← hbt, c34]; rfl
     go_wp2_with fail
     refine bodyPost_ret (v := .tuple #[.string (strOfNums acc), .int .i64 ((q : Int) + 1), .bool true]) (by simp [results, Tryz.results40, go_sem]) rfl ?_
     have hX : strXF s p = (acc, q + 1, true) := HX.out
     rw [hX]
     exact ⟨rfl, HBL.out⟩
    ·rw [if_neg c34] at HX
     have d2 : (((s[q]'hqs).toNat : Int) != 34) = true := by rw [← hbt]; simpa using c34
     go_wp2_with fail
     refine (spec_l1Piece.calls 20 s (q : Int) _ _ _ (piece_f s q hs hqs 20 (Nat.le_refl _))).mono ?_
     rintro e w2 ⟨rfl, hb2⟩
     have HO2 := Lib.hid (own_below HO.out hb2)
     have HBL2 := Lib.hid (below_then HBL.out HBL.out.size hb2)
     have hz2 : B ≤ w2.heap.size := Nat.le_trans HBZ.out hb2.size
     clear hb2 hcv
     cases hx : pieceF s q with
     | none =>
      rw [hx] at HX
      have e2 : (toR q (none : Option (List Int × Nat))) = (⟨#[]⟩, 0) := rfl
      simp only [e2]
      go_wp2_with fail
      refine bodyPost_ret (v := .tuple #[.string ⟨#[]⟩, .int .i64 (q : Int), .bool false]) (by simp [results, Tryz.results40, go_sem]) rfl ?_
      have hX : strXF s p = ([], q, false) := HX.out
      rw [hX]
      exact ⟨rfl, HBL2.out⟩
     | some bq =>
      obtain ⟨b, q2⟩ := bq
      have hle := pieceF_le hqs hx
      have hrg := pieceF_range hx
      rw [hx] at HX
      have e2 : (toR q (some (b, q2))) = (strOfNums b, (q2 : Int) - (q : Int)) := rfl
      simp only [e2]
      have hne : ((q2 : Int) - (q : Int) == 0) = false := by simp; omega
      have hcb := fun W => Lib.run_convert_string_bytes (P := Tryz.prog) W 9 25 5 (strOfNums b) (u := .string) Tryz.underlying9 Tryz.underlying25 Tryz.underlying5
      have hsz : (strOfNums b).size = b.length := by
       show (strOfNums b).data.size = _
       rw [← Array.length_toList, strOfNums_data, List.length_map]
      have HNW := Lib.hid (nums_news b hrg w2 5)
      have HBB := Lib.hid (Lib.bytesWorld_below w2 5 (strOfNums b))
      obtain ⟨i0', hi, hzz⟩ := Option.map_eq_some_iff.1 info5
      simp only [Prod.mk.injEq] at hzz
      obtain ⟨hz0, hz1, hz2'⟩ := hzz
      clear hrg
      go_wp2_with (first | (at_builtin; refine wpList_append_own_at (Lib.bytesWorld w2 5 (strOfNums b)) rfl (.tmp 37) (.tmp 39) 25 rfl B 5 i0' (.int .u8 0) 1 1 Tryz.underlying25 hi hz0 hz1 hz2' rfl (by decide) (.slice A acc.length n) acc.length (nums .u8 acc) rfl (own_below HO2.out HBB.out) ⟨w2.heap.size, 0, none⟩ b.length _ (nums .u8 b) rfl (by simp [nums]) HNW.out (fun u hu => by obtain ⟨x, _, rfl⟩ := List.mem_map.1 hu; rfl) (by simp only [maxLen]; omega) (by omega) (Nat.le_trans hz2 HBB.out.size) ?_; intro v4 w4 hown4 hg4 _ _))
      have hbz : w.heap.size ≤ (Lib.bytesWorld w2 5 (strOfNums b)).heap.size := Nat.le_trans HBL2.out.size HBB.out.size
      have HBL4 := Lib.hid (Below.grown (below_then HBL2.out HBL2.out.size HBB.out) hg4 hbz (fun k hk => by have h1 := own_base HO2.out k hk; have h2 := HBW.out; omega))
      have HO4 := Lib.hid (show w4.ownsRow B 5 1 v4 (acc ++ b).length (nums .u8 (acc ++ b)) by rw [List.length_append]; simpa [nums] using hown4)
      have HZ4 := Lib.hid (Nat.le_trans (Nat.le_trans hz2 HBB.out.size) hg4.size)
      clear hown4 hg4 hbz
      have hX : strXF s p = strX s d q2 (acc ++ b) := HX.out
      rw [HBW.out] at HO4 HZ4
      refine ⟨⟨.int .i64 ((q : Int) + ((q2 : Int) - (q : Int))), _, _, _, v4, ⟨acc ++ b, q2, by congr 1; omega, HO4, d, Lib.hid ⟨by omega, hle.2.1, by omega, by rw [List.length_append]; omega⟩, Lib.hid hX, HBL4, HZ4⟩, rfl, rfl, rfl, rfl, rfl⟩, ?_⟩
      simp [intOf]
      omega
   ·rw [if_neg hqs] at HX
    have d1 : decide ((q : Int) < (s.size : Int)) = false := decide_eq_false (by omega)
    go_wp2_with fail
    refine bodyPost_ret (v := .tuple #[.string (strOfNums acc), .int .i64 ((q : Int) + 1), .bool false]) (by simp [results, Tryz.results40, go_sem]) rfl ?_
    have hX : strXF s p = (acc, q + 1, false) := HX.out
    rw [hX]
    exact ⟨rfl, HBL.out⟩
 ·have hd : (decide (p < s.size) && (bt s (p : Int) == 34)) = false := by
   by_cases h1 : p < s.size
   ·simp only [h1, decide_true, Bool.true_and]
    simpa using fun h2 => h ⟨h1, h2⟩
   ·simp [h1]
  have HX := Lib.hid (show strXF s p = ([], p, false) by unfold strXF; rw [if_neg h])
  rw [hd]
  go_wp2_with fail
  refine bodyPost_ret (v := .tuple #[.string ⟨#[]⟩, .int .i64 (p : Int), .bool false]) (by simp [results, Tryz.results40, go_sem]) rfl ?_
  rw [HX.out]
  exact ⟨rfl, pw_below_drewN (Below.refl _ _) m1⟩
end Go.Proofs.YtbonodglnilkfaaGreatDoor.Read
