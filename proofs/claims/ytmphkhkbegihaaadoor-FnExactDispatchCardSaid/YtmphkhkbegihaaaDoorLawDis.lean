/-
  The law FnExactDispatch, walked: whatever the hub, it returns true and writes into nothing that was there.
-/
import Derived.Test.YtmphkhkbegihaaaDoorDispP
namespace Go.Proofs.YtmphkhkbegihaaaDoor.HubLaw
open Go Go.RowKit Go.Proofs.YtmphkhkbegihaaaDoor.PHub Go.Proofs.YtmphkhkbegihaaaDoorW.PrintWords Go.Proofs.YtmphkhkbegihaaaDoor.Tree Go.Proofs.YtmphkhkbegihaaaDoor.Mark Go.Proofs.YtmphkhkbegihaaaDoor.To Go.Proofs.YtmphkhkbegihaaaDoor.Copy Go.Proofs.YtmphkhkbegihaaaDoor.Plain Go.Proofs.YtmphkhkbegihaaaDoor.SpecP Go.Proofs.YtmphkhkbegihaaaDoor.Open Go.Proofs.YtmphkhkbegihaaaDoor.Find Go.Proofs.YtmphkhkbegihaaaDoor.Tok Go.Proofs.YtmphkhkbegihaaaDoor.Own Go.Proofs.YtmphkhkbegihaaaDoor.Near Go.Proofs.YtmphkhkbegihaaaDoor.Tell
set_option linter.unusedVariables false
set_option linter.unusedSimpArgs false

set_option maxRecDepth 1000000 in
set_option maxHeartbeats 40000000 in
theorem law_dispatch (l0 : List S105) (l1 : List S107) (A0 A1 : Option Addr) (c0 c1 : Nat) (w : World) (hr0 : Kd.C k105 w A0 l0.length l0) (hc0 : l0.length ≤ c0) (hr1 : Kd.C k107 w A1 l1.length l1) (hc1 : l1.length ≤ c1) (hbd : bdHub l0 l1) (hG : GM w) :
    Calls Tryd.prog 9 #[.agg #[.slice A0 l0.length c0, .slice A1 l1.length c1]] w fun e w' => e = .returned (.bool true) ∧ Below w.heap.size w w' := by
  obtain ⟨r1, ev1, g1⟩ := szHub_tells l0 l1 hbd
  obtain ⟨k1, e1⟩ := ev1.rounds
  obtain ⟨W2, hW2⟩ : ∃ W2, W2 = (dp (cvWatS l0) (cvNewS l1)).1 := ⟨_, rfl⟩
  obtain ⟨N2, hN2⟩ : ∃ N2, N2 = (dp (cvWatS l0) (cvNewS l1)).2.1 := ⟨_, rfl⟩
  obtain ⟨rc, hrc⟩ : ∃ rc, rc = (dp (cvWatS l0) (cvNewS l1)).2.2 := ⟨_, rfl⟩
  have HBD := Lib.hid hbd
  have HGM := Lib.hid hG
  clear hG
  have HR0 := Lib.hid hr0
  have HC0 := Lib.hid hc0
  have HR1 := Lib.hid hr1
  have HC1 := Lib.hid hc1
  have HG1 := Lib.hid g1
  have HE1 := Lib.hid e1
  have HW2 := Lib.hid hW2
  have HN2 := Lib.hid hN2
  have HRC := Lib.hid hrc
  clear hr0 hr1 hc0 hc1 hbd g1 e1 ev1 hW2 hN2 hrc
  go_enter Tryd.func9, Tryd.ntmps9
  have HB := Lib.hid (Below.refl w.heap.size w)
  go_wp2_with fail
  replace HB := Lib.hid (below_alloc HB.out (.cells #[.slice A0 l0.length c0, .slice A1 l1.length c1] 39))
  have G0 := Lib.hid (heap_alloc_new w (.cells #[.slice A0 l0.length c0, .slice A1 l1.length c1] 39))
  refine (laws_szHub.calls k1 _ _ _ _ _ _ 1048576 r1 _ (Kd.C_below HR0.out HB.out) HC0.out (Kd.C_below HR1.out HB.out) HC1.out HE1.out).mono ?_
  rintro e w1 ⟨rfl, hs1⟩
  have HZ1 := Lib.hid (show w.heap.size + 1 ≤ w1.heap.size from by have := hs1.size; (try simp only [World.size_alloc] at this); omega)
  replace HB := Lib.hid (below_then HB.out HB.out.size hs1)
  replace G0 := Lib.hid (blk_below G0.out hs1)
  by_cases cn1 : r1 < 0
  · go_wp2_with fail
    go_ret
    exact ⟨rfl, HB.out⟩
  have ok1 := HG1.out.resolve_left cn1
  have HO1 := Lib.hid ok1
  have hsz2 := szHub_inv l0 l1 HBD.out k1 r1 HE1.out (by omega)
  have HZW := Lib.hid hsz2.1
  have HZN := Lib.hid hsz2.2
  clear ok1 HG1 hsz2
  have HFW := Lib.hid (fit_watches l0 HO1.out.2.2.1)
  have HFN := Lib.hid (fit_news l1 HO1.out.2.2.2)
  have HOW := Lib.hid HO1.out.2.2.1
  have HON := Lib.hid HO1.out.2.2.2
  have hcw := c_wWatS l0
  have hcn := c_wNewS l1
  have hcl := dp_c (cvWatS l0) (cvNewS l1) HFN.out
  have hcount : cWatS (cvWatS l0) + cNewS (cvNewS l1) ≤ 33554432 ∧ cWatS W2 ≤ cWatS (cvWatS l0) + 500000000 ∧ cNewS N2 ≤ cNewS (cvNewS l1) := by rw [HW2.out, HN2.out]; have := HO1.out.2.1; omega
  have HCT := Lib.hid hcount
  clear hcw hcn hcount hcl HO1
  have HSW := Lib.hid (small_watches (cvWatS l0) HFW.out)
  have HSN := Lib.hid (small_news (cvNewS l1) HFN.out)
  have HSW2 := Lib.hid (show smallWatS W2 from by rw [HW2.out]; exact (dp_small _ _ HFW.out HFN.out).1)
  have HSN2 := Lib.hid (show smallNewS N2 from by rw [HN2.out]; exact (dp_small _ _ HFW.out HFN.out).2)
  have hxG0_0 := blk_cell G0.out 0
  have hxG0_1 := blk_cell G0.out 1
  simp only [List.getElem?_toArray, List.getElem?_cons_zero, List.getElem?_cons_succ] at hxG0_0 hxG0_1
  go_wp2_with fail
  clear hxG0_0 hxG0_1
  refine (to_hub l0 l1 A0 A1 c0 c1 w _ HR0.out HC0.out HR1.out HC1.out HB.out HOW.out HON.out).mono ?_
  rintro e w3 ⟨v30, v31, rfl, hT, hs3⟩
  obtain ⟨B30, d30, B31, d31, rfl, rfl, _, _, _, _⟩ := hT.reads
  have hT' : HubT w3 (w1.heap.size) w3.heap.size (.slice B30 (cvWatS l0).length d30) (.slice B31 (cvNewS l1).length d31) (cvWatS l0) (cvNewS l1) := by have h := hT; (try simp only [World.size_alloc] at h); exact h
  clear hT
  have HZ3 := Lib.hid (show w1.heap.size ≤ w3.heap.size from by have := hs3.size; (try simp only [World.size_alloc] at this); omega)
  replace HB := Lib.hid (below_then HB.out HB.out.size hs3)
  replace G0 := Lib.hid (blk_below G0.out hs3)
  have HX := Lib.hid (hT')
  clear hs3 hT'
  go_wp2_with fail
  refine (spec_dispatch (cvWatS l0) (cvNewS l1) _ _ _ _ _ HX.out.reads'.2.2.1 HX.out.reads'.1 HX.out.reads'.2.2.2 HX.out.reads'.2.1 HFW.out HFN.out HZW.out HZN.out).mono ?_
  rw [← HW2.out, ← HN2.out, ← HRC.out]
  rintro e w4 ⟨v0, v1, rfl, hT, hs4⟩
  obtain ⟨B80, d80, B81, d81, rfl, rfl, _, _, _, _⟩ := hT.reads
  have hT' : HubG w4 (w3.heap.size) w4.heap.size (.slice B80 W2.length d80) (.slice B81 N2.length d81) W2 N2 := by have h := hT; (try simp only [World.size_alloc] at h); exact h
  clear hT
  have HZ4 := Lib.hid (show w3.heap.size ≤ w4.heap.size from by have := hs4.size; (try simp only [World.size_alloc] at this); omega)
  clear HX
  replace HB := Lib.hid (below_then HB.out HB.out.size hs4)
  replace G0 := Lib.hid (blk_below G0.out hs4)
  have HW := Lib.hid (hT')
  clear hs4 hT'
  have hxG0_0 := blk_cell (blk_alloc G0.out (.cells #[.slice B80 W2.length d80, .slice B81 N2.length d81] 44)) 0
  have hxG0_1 := blk_cell (blk_alloc G0.out (.cells #[.slice B80 W2.length d80, .slice B81 N2.length d81] 44)) 1
  simp only [List.getElem?_toArray, List.getElem?_cons_zero, List.getElem?_cons_succ] at hxG0_0 hxG0_1
  go_wp2_with fail
  clear hxG0_0 hxG0_1
  replace HB := Lib.hid (below_alloc HB.out (.cells #[.slice B80 W2.length d80, .slice B81 N2.length d81] 44))
  replace G0 := Lib.hid (blk_alloc G0.out (.cells #[.slice B80 W2.length d80, .slice B81 N2.length d81] 44))
  replace HW := Lib.hid (HW.out.below (below_alloc (Below.refl _ _) (.cells #[.slice B80 W2.length d80, .slice B81 N2.length d81] 44)))
  have G8 := Lib.hid (heap_alloc_new w4 (.cells #[.slice B80 W2.length d80, .slice B81 N2.length d81] 44))
  refine (to_hub l0 l1 A0 A1 c0 c1 w _ HR0.out HC0.out HR1.out HC1.out HB.out HOW.out HON.out).mono ?_
  rintro e w5 ⟨v50, v51, rfl, hT, hs5⟩
  obtain ⟨B50, d50, B51, d51, rfl, rfl, _, _, _, _⟩ := hT.reads
  have hT' : HubT w5 (w4.heap.size + 1) w5.heap.size (.slice B50 (cvWatS l0).length d50) (.slice B51 (cvNewS l1).length d51) (cvWatS l0) (cvNewS l1) := by have h := hT; (try simp only [World.size_alloc] at h); exact h
  clear hT
  have HZ5 := Lib.hid (show w4.heap.size + 1 ≤ w5.heap.size from by have := hs5.size; (try simp only [World.size_alloc] at this); omega)
  replace HB := Lib.hid (below_then HB.out HB.out.size hs5)
  replace G0 := Lib.hid (blk_below G0.out hs5)
  replace HW := Lib.hid (HW.out.below hs5)
  replace G8 := Lib.hid (blk_below G8.out hs5)
  have HX := Lib.hid (hT')
  clear hs5 hT'
  go_wp2_with fail
  replace HB := Lib.hid (below_alloc HB.out (.cells #[.slice B50 (cvWatS l0).length d50, .slice B51 (cvNewS l1).length d51] 44))
  replace G0 := Lib.hid (blk_alloc G0.out (.cells #[.slice B50 (cvWatS l0).length d50, .slice B51 (cvNewS l1).length d51] 44))
  replace HW := Lib.hid (HW.out.below (below_alloc (Below.refl _ _) (.cells #[.slice B50 (cvWatS l0).length d50, .slice B51 (cvNewS l1).length d51] 44)))
  replace G8 := Lib.hid (blk_alloc G8.out (.cells #[.slice B50 (cvWatS l0).length d50, .slice B51 (cvNewS l1).length d51] 44))
  replace HX := Lib.hid (HX.out.below (below_alloc (Below.refl _ _) (.cells #[.slice B50 (cvWatS l0).length d50, .slice B51 (cvNewS l1).length d51] 44)))
  have G9 := Lib.hid (heap_alloc_new w5 (.cells #[.slice B50 (cvWatS l0).length d50, .slice B51 (cvNewS l1).length d51] 44))
  refine (dispatch (cvWatS l0) (cvNewS l1) _ _ _ _ _ _ HX.out.reads'.2.2.1 HX.out.reads'.1 HX.out.reads'.2.2.2 HX.out.reads'.2.1 (Below.refl _ _) HFW.out HFN.out HZW.out HZN.out (GM.of HGM.out HB.out)).mono ?_
  rw [← HW2.out, ← HN2.out, ← HRC.out]
  rintro e w6 ⟨v60, v61, rfl, hT, hs6⟩
  obtain ⟨B60, d60, B61, d61, rfl, rfl, _, _, _, _⟩ := hT.reads
  have hT' : HubG w6 (w5.heap.size + 1) w6.heap.size (.slice B60 W2.length d60) (.slice B61 N2.length d61) W2 N2 := by have h := hT; (try simp only [World.size_alloc] at h); exact h
  clear hT
  have HZ6 := Lib.hid (show w5.heap.size + 1 ≤ w6.heap.size from by have := hs6.size; (try simp only [World.size_alloc] at this); omega)
  replace HB := Lib.hid (below_then HB.out HB.out.size hs6)
  replace G0 := Lib.hid (blk_below G0.out hs6)
  replace HW := Lib.hid (HW.out.below hs6)
  replace G8 := Lib.hid (blk_below G8.out hs6)
  replace HX := Lib.hid (HX.out.below hs6)
  replace G9 := Lib.hid (blk_below G9.out hs6)
  have HG := Lib.hid (hT')
  clear hs6 hT'
  have hxG8_0 := blk_cell (blk_alloc G8.out (.cells #[.slice B60 W2.length d60, .slice B61 N2.length d61] 44)) 0
  have hxG8_1 := blk_cell (blk_alloc G8.out (.cells #[.slice B60 W2.length d60, .slice B61 N2.length d61] 44)) 1
  simp only [List.getElem?_toArray, List.getElem?_cons_zero, List.getElem?_cons_succ] at hxG8_0 hxG8_1
  go_wp2_with fail
  clear hxG8_0 hxG8_1
  replace HB := Lib.hid (below_alloc HB.out (.cells #[.slice B60 W2.length d60, .slice B61 N2.length d61] 44))
  replace G0 := Lib.hid (blk_alloc G0.out (.cells #[.slice B60 W2.length d60, .slice B61 N2.length d61] 44))
  replace HW := Lib.hid (HW.out.below (below_alloc (Below.refl _ _) (.cells #[.slice B60 W2.length d60, .slice B61 N2.length d61] 44)))
  replace G8 := Lib.hid (blk_alloc G8.out (.cells #[.slice B60 W2.length d60, .slice B61 N2.length d61] 44))
  replace HX := Lib.hid (HX.out.below (below_alloc (Below.refl _ _) (.cells #[.slice B60 W2.length d60, .slice B61 N2.length d61] 44)))
  replace G9 := Lib.hid (blk_alloc G9.out (.cells #[.slice B60 W2.length d60, .slice B61 N2.length d61] 44))
  replace HG := Lib.hid (HG.out.below (below_alloc (Below.refl _ _) (.cells #[.slice B60 W2.length d60, .slice B61 N2.length d61] 44)))
  have G11 := Lib.hid (heap_alloc_new w6 (.cells #[.slice B60 W2.length d60, .slice B61 N2.length d61] 44))
  refine (eq_hubGG HG.out HW.out HSW2.out HSN2.out).mono ?_
  rintro e w7 ⟨rfl, hs7⟩
  have HZ7 := Lib.hid (show w6.heap.size + 1 ≤ w7.heap.size from by have := hs7.size; (try simp only [World.size_alloc] at this); omega)
  replace HB := Lib.hid (below_then HB.out HB.out.size hs7)
  replace G0 := Lib.hid (blk_below G0.out hs7)
  replace HW := Lib.hid (HW.out.below hs7)
  replace G8 := Lib.hid (blk_below G8.out hs7)
  replace HX := Lib.hid (HX.out.below hs7)
  replace G9 := Lib.hid (blk_below G9.out hs7)
  replace HG := Lib.hid (HG.out.below hs7)
  replace G11 := Lib.hid (blk_below G11.out hs7)
  clear hs7
  go_wp2_with fail
  have hxG9_0 := blk_cell G9.out 0
  have hxG9_1 := blk_cell G9.out 1
  have hxG0_0 := blk_cell G0.out 0
  have hxG0_1 := blk_cell G0.out 1
  simp only [List.getElem?_toArray, List.getElem?_cons_zero, List.getElem?_cons_succ] at hxG9_0 hxG9_1 hxG0_0 hxG0_1
  go_region_with (first | (go_at_call 27; refine (to_hub l0 l1 A0 A1 c0 c1 w _ HR0.out HC0.out HR1.out HC1.out (below_drew HB.out) HOW.out HON.out).mono ?_; rintro e w8 ⟨v80, v81, rfl, hT, hs8⟩; obtain ⟨B80, d80, B81, d81, rfl, rfl, _, _, _, _⟩ := hT.reads; have hT' : HubT w8 (w7.heap.size) w8.heap.size (.slice B80 (cvWatS l0).length d80) (.slice B81 (cvNewS l1).length d81) (cvWatS l0) (cvNewS l1) := (by have h := hT; (try simp only [World.size_alloc] at h); exact h); clear hT; replace hs8 := below_then (below_drew (Below.refl _ _)) (Nat.le_refl _) hs8; have HZ8 := Lib.hid (show w7.heap.size ≤ w8.heap.size from by have := hs8.size; (try simp only [World.size_alloc] at this); omega); replace HB := Lib.hid (below_then HB.out HB.out.size hs8); replace G0 := Lib.hid (blk_below G0.out hs8); replace HW := Lib.hid (HW.out.below hs8); replace G8 := Lib.hid (blk_below G8.out hs8); replace HX := Lib.hid (HX.out.below hs8); replace G9 := Lib.hid (blk_below G9.out hs8); replace HG := Lib.hid (HG.out.below hs8); replace G11 := Lib.hid (blk_below G11.out hs8); have HQ := Lib.hid (hT'); clear hs8 hT'; have hqG9_0 := blk_cell G9.out 0; have hqG9_1 := blk_cell G9.out 1; have hqG0_0 := blk_cell G0.out 0; have hqG0_1 := blk_cell G0.out 1; simp only [List.getElem?_toArray, List.getElem?_cons_zero, List.getElem?_cons_succ] at hqG9_0 hqG9_1 hqG0_0 hqG0_1) | (go_at_call 29; refine (eq_hubTT HX.out HQ.out HSW.out HSN.out).mono ?_; rintro e w9 ⟨rfl, hs9⟩; have HZ9 := Lib.hid (show w8.heap.size ≤ w9.heap.size from by have := hs9.size; (try simp only [World.size_alloc] at this); omega); replace HB := Lib.hid (below_then HB.out HB.out.size hs9); replace G0 := Lib.hid (blk_below G0.out hs9); replace HW := Lib.hid (HW.out.below hs9); replace G8 := Lib.hid (blk_below G8.out hs9); replace HX := Lib.hid (HX.out.below hs9); replace G9 := Lib.hid (blk_below G9.out hs9); replace HG := Lib.hid (HG.out.below hs9); replace G11 := Lib.hid (blk_below G11.out hs9); replace HQ := Lib.hid (HQ.out.below hs9); clear hs9))
  all_goals
    clear hqG9_0 hqG9_1 hqG0_0 hqG0_1 hxG9_0 hxG9_1 hxG0_0 hxG0_1
    clear HQ
    have hxG9_0 := blk_cell G9.out 0
    have hxG9_1 := blk_cell G9.out 1
    simp only [List.getElem?_toArray, List.getElem?_cons_zero, List.getElem?_cons_succ] at hxG9_0 hxG9_1
    go_wp2_with fail
    clear hxG9_0 hxG9_1
    refine (mark_hub _ _ 1 _ _ _ _ _ (by omega) (by have := HZ1.out; have := HCT.out; have := HZ3.out; have := HZ4.out; have := HZ5.out; have := HZ6.out; have := HZ7.out; have := HZ8.out; have := HZ9.out; omega) HX.out (by have := HZ1.out; have := HCT.out; have := HZ3.out; have := HZ4.out; have := HZ5.out; have := HZ6.out; have := HZ7.out; have := HZ8.out; have := HZ9.out; omega)).mono ?_
    rintro e w10 ⟨rfl, hT, ht10⟩
    have HZ10 := Lib.hid (show w9.heap.size ≤ w10.heap.size from ht10.kept.1)
    clear HX
    replace HB := Lib.hid (below_tch HB.out ht10 (fun k h => by have := HZ1.out; have := HCT.out; have := HZ3.out; have := HZ4.out; have := HZ5.out; have := HZ6.out; have := HZ7.out; have := HZ8.out; have := HZ9.out; have := HZ10.out; omega))
    replace G0 := Lib.hid (blk_kept G0.out ht10.kept (fun h => by first | exact h | (have := HZ1.out; have := HCT.out; have := HZ3.out; have := HZ4.out; have := HZ5.out; have := HZ6.out; have := HZ7.out; have := HZ8.out; have := HZ9.out; have := HZ10.out; omega)))
    replace HW := Lib.hid (HW.out.tch ht10 (fun k h1 h2 h3 => by have := HZ1.out; have := HCT.out; have := HZ3.out; have := HZ4.out; have := HZ5.out; have := HZ6.out; have := HZ7.out; have := HZ8.out; have := HZ9.out; have := HZ10.out; omega))
    replace G8 := Lib.hid (blk_kept G8.out ht10.kept (fun h => by first | exact h | (have := HZ1.out; have := HCT.out; have := HZ3.out; have := HZ4.out; have := HZ5.out; have := HZ6.out; have := HZ7.out; have := HZ8.out; have := HZ9.out; have := HZ10.out; omega)))
    replace G9 := Lib.hid (blk_kept G9.out ht10.kept (fun h => by first | exact h | (have := HZ1.out; have := HCT.out; have := HZ3.out; have := HZ4.out; have := HZ5.out; have := HZ6.out; have := HZ7.out; have := HZ8.out; have := HZ9.out; have := HZ10.out; omega)))
    replace HG := Lib.hid (HG.out.tch ht10 (fun k h1 h2 h3 => by have := HZ1.out; have := HCT.out; have := HZ3.out; have := HZ4.out; have := HZ5.out; have := HZ6.out; have := HZ7.out; have := HZ8.out; have := HZ9.out; have := HZ10.out; omega))
    replace G11 := Lib.hid (blk_kept G11.out ht10.kept (fun h => by first | exact h | (have := HZ1.out; have := HCT.out; have := HZ3.out; have := HZ4.out; have := HZ5.out; have := HZ6.out; have := HZ7.out; have := HZ8.out; have := HZ9.out; have := HZ10.out; omega)))
    have HX := Lib.hid (hT)
    clear hT ht10
    have hneg : ¬ (1 + ((cWatS (cvWatS l0) : Nat) : Int) + ((cNewS (cvNewS l1) : Nat) : Int) < 0) := by omega
    clear HX
    have hxG11_0 := blk_cell G11.out 0
    have hxG11_1 := blk_cell G11.out 1
    have hxG8_0 := blk_cell G8.out 0
    have hxG8_1 := blk_cell G8.out 1
    simp only [List.getElem?_toArray, List.getElem?_cons_zero, List.getElem?_cons_succ] at hxG11_0 hxG11_1 hxG8_0 hxG8_1
    go_wp2_with fail
    clear hxG11_0 hxG11_1 hxG8_0 hxG8_1
    refine (eq_hubGG HG.out HW.out HSW2.out HSN2.out).mono ?_
    rintro e w11 ⟨rfl, hs11⟩
    have HZ11 := Lib.hid (show w10.heap.size ≤ w11.heap.size from by have := hs11.size; (try simp only [World.size_alloc] at this); omega)
    replace HB := Lib.hid (below_then HB.out HB.out.size hs11)
    replace G0 := Lib.hid (blk_below G0.out hs11)
    replace HW := Lib.hid (HW.out.below hs11)
    replace G8 := Lib.hid (blk_below G8.out hs11)
    replace G9 := Lib.hid (blk_below G9.out hs11)
    replace HG := Lib.hid (HG.out.below hs11)
    replace G11 := Lib.hid (blk_below G11.out hs11)
    clear hs11
    clear hneg
    have hxG11_0 := blk_cell G11.out 0
    have hxG11_1 := blk_cell G11.out 1
    simp only [List.getElem?_toArray, List.getElem?_cons_zero, List.getElem?_cons_succ] at hxG11_0 hxG11_1
    go_wp2_with fail
    clear hxG11_0 hxG11_1
    refine (mark_hubG _ _ 1 _ _ _ _ _ (by omega) (by have := HZ1.out; have := HCT.out; have := HZ3.out; have := HZ4.out; have := HZ5.out; have := HZ6.out; have := HZ7.out; have := HZ8.out; have := HZ9.out; have := HZ10.out; have := HZ11.out; omega) HG.out (by have := HZ1.out; have := HCT.out; have := HZ3.out; have := HZ4.out; have := HZ5.out; have := HZ6.out; have := HZ7.out; have := HZ8.out; have := HZ9.out; have := HZ10.out; have := HZ11.out; omega)).mono ?_
    rintro e w12 ⟨rfl, hT, ht12⟩
    have HZ12 := Lib.hid (show w11.heap.size ≤ w12.heap.size from ht12.kept.1)
    clear HG
    replace HB := Lib.hid (below_tch HB.out ht12 (fun k h => by have := HZ1.out; have := HCT.out; have := HZ3.out; have := HZ4.out; have := HZ5.out; have := HZ6.out; have := HZ7.out; have := HZ8.out; have := HZ9.out; have := HZ10.out; have := HZ11.out; have := HZ12.out; omega))
    replace G0 := Lib.hid (blk_kept G0.out ht12.kept (fun h => by first | exact h | (have := HZ1.out; have := HCT.out; have := HZ3.out; have := HZ4.out; have := HZ5.out; have := HZ6.out; have := HZ7.out; have := HZ8.out; have := HZ9.out; have := HZ10.out; have := HZ11.out; have := HZ12.out; omega)))
    replace HW := Lib.hid (HW.out.tch ht12 (fun k h1 h2 h3 => by have := HZ1.out; have := HCT.out; have := HZ3.out; have := HZ4.out; have := HZ5.out; have := HZ6.out; have := HZ7.out; have := HZ8.out; have := HZ9.out; have := HZ10.out; have := HZ11.out; have := HZ12.out; omega))
    replace G8 := Lib.hid (blk_kept G8.out ht12.kept (fun h => by first | exact h | (have := HZ1.out; have := HCT.out; have := HZ3.out; have := HZ4.out; have := HZ5.out; have := HZ6.out; have := HZ7.out; have := HZ8.out; have := HZ9.out; have := HZ10.out; have := HZ11.out; have := HZ12.out; omega)))
    replace G9 := Lib.hid (blk_kept G9.out ht12.kept (fun h => by first | exact h | (have := HZ1.out; have := HCT.out; have := HZ3.out; have := HZ4.out; have := HZ5.out; have := HZ6.out; have := HZ7.out; have := HZ8.out; have := HZ9.out; have := HZ10.out; have := HZ11.out; have := HZ12.out; omega)))
    replace G11 := Lib.hid (blk_kept G11.out ht12.kept (fun h => by first | exact h | (have := HZ1.out; have := HCT.out; have := HZ3.out; have := HZ4.out; have := HZ5.out; have := HZ6.out; have := HZ7.out; have := HZ8.out; have := HZ9.out; have := HZ10.out; have := HZ11.out; have := HZ12.out; omega)))
    have HG := Lib.hid (hT)
    clear hT ht12
    have hxG11_0 := blk_cell G11.out 0
    have hxG11_1 := blk_cell G11.out 1
    simp only [List.getElem?_toArray, List.getElem?_cons_zero, List.getElem?_cons_succ] at hxG11_0 hxG11_1
    go_wp2_with fail
    clear hxG11_0 hxG11_1
    refine (held_hubG HG.out (by omega) (by have := HZ1.out; have := HCT.out; have := HZ3.out; have := HZ4.out; have := HZ5.out; have := HZ6.out; have := HZ7.out; have := HZ8.out; have := HZ9.out; have := HZ10.out; have := HZ11.out; have := HZ12.out; omega)).mono ?_
    rintro e w13 ⟨rfl, hs13⟩
    have HZ13 := Lib.hid (show w12.heap.size ≤ w13.heap.size from by have := hs13.size; (try simp only [World.size_alloc] at this); omega)
    replace HB := Lib.hid (below_then HB.out HB.out.size hs13)
    replace G0 := Lib.hid (blk_below G0.out hs13)
    replace HW := Lib.hid (HW.out.below hs13)
    replace G8 := Lib.hid (blk_below G8.out hs13)
    replace G9 := Lib.hid (blk_below G9.out hs13)
    replace G11 := Lib.hid (blk_below G11.out hs13)
    replace HG := Lib.hid (HG.out.below hs13)
    clear hs13
    have hneg : ¬ (1 + ((cWatS W2 : Nat) : Int) + ((cNewS N2 : Nat) : Int) < 0) := by omega
    have hxG0_0 := blk_cell G0.out 0
    have hxG0_1 := blk_cell G0.out 1
    simp only [List.getElem?_toArray, List.getElem?_cons_zero, List.getElem?_cons_succ] at hxG0_0 hxG0_1
    go_wp2_with fail
    clear hxG0_0 hxG0_1
    clear hneg
    refine (to_hub l0 l1 A0 A1 c0 c1 w _ HR0.out HC0.out HR1.out HC1.out HB.out HOW.out HON.out).mono ?_
    rintro e w14 ⟨v140, v141, rfl, hT, hs14⟩
    obtain ⟨B140, d140, B141, d141, rfl, rfl, _, _, _, _⟩ := hT.reads
    have hT' : HubT w14 (w13.heap.size) w14.heap.size (.slice B140 (cvWatS l0).length d140) (.slice B141 (cvNewS l1).length d141) (cvWatS l0) (cvNewS l1) := by have h := hT; (try simp only [World.size_alloc] at h); exact h
    clear hT
    have HZ14 := Lib.hid (show w13.heap.size ≤ w14.heap.size from by have := hs14.size; (try simp only [World.size_alloc] at this); omega)
    replace HB := Lib.hid (below_then HB.out HB.out.size hs14)
    replace G0 := Lib.hid (blk_below G0.out hs14)
    replace HW := Lib.hid (HW.out.below hs14)
    replace G8 := Lib.hid (blk_below G8.out hs14)
    replace G9 := Lib.hid (blk_below G9.out hs14)
    replace G11 := Lib.hid (blk_below G11.out hs14)
    replace HG := Lib.hid (HG.out.below hs14)
    have HX := Lib.hid (hT')
    clear hs14 hT'
    go_wp2_with fail
    refine (dispatch (cvWatS l0) (cvNewS l1) _ _ _ _ _ _ HX.out.reads'.2.2.1 HX.out.reads'.1 HX.out.reads'.2.2.2 HX.out.reads'.2.1 (Below.refl _ _) HFW.out HFN.out HZW.out HZN.out (GM.of HGM.out HB.out)).mono ?_
    rw [← HW2.out, ← HN2.out, ← HRC.out]
    rintro e w15 ⟨v150, v151, rfl, hT, hs15⟩
    obtain ⟨B150, d150, B151, d151, rfl, rfl, _, _, _, _⟩ := hT.reads
    have hT' : HubG w15 (w14.heap.size) w15.heap.size (.slice B150 W2.length d150) (.slice B151 N2.length d151) W2 N2 := by have h := hT; (try simp only [World.size_alloc] at h); exact h
    clear hT
    have HZ15 := Lib.hid (show w14.heap.size ≤ w15.heap.size from by have := hs15.size; (try simp only [World.size_alloc] at this); omega)
    replace HB := Lib.hid (below_then HB.out HB.out.size hs15)
    replace G0 := Lib.hid (blk_below G0.out hs15)
    replace HW := Lib.hid (HW.out.below hs15)
    replace G8 := Lib.hid (blk_below G8.out hs15)
    replace G9 := Lib.hid (blk_below G9.out hs15)
    replace G11 := Lib.hid (blk_below G11.out hs15)
    replace HG := Lib.hid (HG.out.below hs15)
    replace HX := Lib.hid (HX.out.below hs15)
    have HP := Lib.hid (hT')
    clear hs15 hT'
    clear HX
    have hxG8_0 := blk_cell (blk_alloc G8.out (.cells #[.slice B150 W2.length d150, .slice B151 N2.length d151] 44)) 0
    have hxG8_1 := blk_cell (blk_alloc G8.out (.cells #[.slice B150 W2.length d150, .slice B151 N2.length d151] 44)) 1
    simp only [List.getElem?_toArray, List.getElem?_cons_zero, List.getElem?_cons_succ] at hxG8_0 hxG8_1
    go_wp2_with fail
    clear hxG8_0 hxG8_1
    replace HB := Lib.hid (below_alloc HB.out (.cells #[.slice B150 W2.length d150, .slice B151 N2.length d151] 44))
    replace G0 := Lib.hid (blk_alloc G0.out (.cells #[.slice B150 W2.length d150, .slice B151 N2.length d151] 44))
    replace HW := Lib.hid (HW.out.below (below_alloc (Below.refl _ _) (.cells #[.slice B150 W2.length d150, .slice B151 N2.length d151] 44)))
    replace G8 := Lib.hid (blk_alloc G8.out (.cells #[.slice B150 W2.length d150, .slice B151 N2.length d151] 44))
    replace G9 := Lib.hid (blk_alloc G9.out (.cells #[.slice B150 W2.length d150, .slice B151 N2.length d151] 44))
    replace G11 := Lib.hid (blk_alloc G11.out (.cells #[.slice B150 W2.length d150, .slice B151 N2.length d151] 44))
    replace HG := Lib.hid (HG.out.below (below_alloc (Below.refl _ _) (.cells #[.slice B150 W2.length d150, .slice B151 N2.length d151] 44)))
    replace HP := Lib.hid (HP.out.below (below_alloc (Below.refl _ _) (.cells #[.slice B150 W2.length d150, .slice B151 N2.length d151] 44)))
    refine (eq_hubGG HP.out HW.out HSW2.out HSN2.out).mono ?_
    rintro e w16 ⟨rfl, hs16⟩
    have HZ16 := Lib.hid (show w15.heap.size + 1 ≤ w16.heap.size from by have := hs16.size; (try simp only [World.size_alloc] at this); omega)
    replace HB := Lib.hid (below_then HB.out HB.out.size hs16)
    replace G0 := Lib.hid (blk_below G0.out hs16)
    replace HW := Lib.hid (HW.out.below hs16)
    replace G8 := Lib.hid (blk_below G8.out hs16)
    replace G9 := Lib.hid (blk_below G9.out hs16)
    replace G11 := Lib.hid (blk_below G11.out hs16)
    replace HG := Lib.hid (HG.out.below hs16)
    replace HP := Lib.hid (HP.out.below hs16)
    clear hs16
    clear HP
    have hxG11_0 := blk_cell G11.out 0
    have hxG11_1 := blk_cell G11.out 1
    simp only [List.getElem?_toArray, List.getElem?_cons_zero, List.getElem?_cons_succ] at hxG11_0 hxG11_1
    go_wp2_with fail
    clear hxG11_0 hxG11_1
    refine (held_hubG HG.out (by omega) (by have := HZ1.out; have := HCT.out; have := HZ3.out; have := HZ4.out; have := HZ5.out; have := HZ6.out; have := HZ7.out; have := HZ8.out; have := HZ9.out; have := HZ10.out; have := HZ11.out; have := HZ12.out; have := HZ13.out; have := HZ14.out; have := HZ15.out; have := HZ16.out; omega)).mono ?_
    rintro e w17 ⟨rfl, hs17⟩
    have HZ17 := Lib.hid (show w16.heap.size ≤ w17.heap.size from by have := hs17.size; (try simp only [World.size_alloc] at this); omega)
    replace HB := Lib.hid (below_then HB.out HB.out.size hs17)
    replace G0 := Lib.hid (blk_below G0.out hs17)
    replace HW := Lib.hid (HW.out.below hs17)
    replace G8 := Lib.hid (blk_below G8.out hs17)
    replace G9 := Lib.hid (blk_below G9.out hs17)
    replace G11 := Lib.hid (blk_below G11.out hs17)
    replace HG := Lib.hid (HG.out.below hs17)
    clear hs17
    have hneg : ¬ (1 + ((cWatS W2 : Nat) : Int) + ((cNewS N2 : Nat) : Int) < 0) := by omega
    go_wp2_with fail
    go_ret
    exact ⟨rfl, HB.out⟩
end Go.Proofs.YtmphkhkbegihaaaDoor.HubLaw
