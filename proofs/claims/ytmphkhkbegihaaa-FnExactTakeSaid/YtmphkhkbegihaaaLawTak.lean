/-
  The law FnExactTake, walked: whatever the hub and the client, it returns true and writes into nothing that was there.
-/
import Derived.Test.YtmphkhkbegihaaaSpecT
namespace Go.Proofs.Ytmphkhkbegihaaa.HubLaw
open Go Go.RowKit Go.Proofs.Ytmphkhkbegihaaa.PHub Go.Proofs.YtmphkhkbegihaaaW.PrintWords Go.Proofs.Ytmphkhkbegihaaa.Tree Go.Proofs.Ytmphkhkbegihaaa.Mark Go.Proofs.Ytmphkhkbegihaaa.To Go.Proofs.Ytmphkhkbegihaaa.Copy Go.Proofs.Ytmphkhkbegihaaa.Plain Go.Proofs.Ytmphkhkbegihaaa.SpecP Go.Proofs.Ytmphkhkbegihaaa.Open Go.Proofs.Ytmphkhkbegihaaa.Find Go.Proofs.Ytmphkhkbegihaaa.Ring
set_option linter.unusedVariables false
set_option linter.unusedSimpArgs false

set_option maxRecDepth 1000000 in
set_option maxHeartbeats 40000000 in
theorem law_take (l0 : List S78) (l1 : List S80) (client : Int) (A0 A1 : Option Addr) (c0 c1 : Nat) (w : World) (hr0 : Kd.C k78 w A0 l0.length l0) (hc0 : l0.length ≤ c0) (hr1 : Kd.C k80 w A1 l1.length l1) (hc1 : l1.length ≤ c1) (hbd : bdHub l0 l1) :
    Calls Try.prog 5 #[.agg #[.slice A0 l0.length c0, .slice A1 l1.length c1], .int .i64 client] w fun e w' => e = .returned (.bool true) ∧ Below w.heap.size w w' := by
  obtain ⟨r1, ev1, g1⟩ := szHub_tells l0 l1 hbd
  obtain ⟨k1, e1⟩ := ev1.rounds
  obtain ⟨W2, hW2⟩ : ∃ W2, W2 = (tk client (cvWatS l0)).1 := ⟨_, rfl⟩
  obtain ⟨mf, hmf⟩ : ∃ mf, mf = (tk client (cvWatS l0)).2.1.f0 := ⟨_, rfl⟩
  obtain ⟨ps, hps⟩ : ∃ ps, ps = (tk client (cvWatS l0)).2.1.f1 := ⟨_, rfl⟩
  obtain ⟨mb, hmb⟩ : ∃ mb, mb = (tk client (cvWatS l0)).2.1.f2 := ⟨_, rfl⟩
  obtain ⟨rc, hrc⟩ : ∃ rc, rc = (tk client (cvWatS l0)).2.2 := ⟨_, rfl⟩
  have HR0 := Lib.hid hr0
  have HC0 := Lib.hid hc0
  have HR1 := Lib.hid hr1
  have HC1 := Lib.hid hc1
  have HG1 := Lib.hid g1
  have HE1 := Lib.hid e1
  have HW2 := Lib.hid hW2
  have HRC := Lib.hid hrc
  have HMF := Lib.hid hmf
  have HPS := Lib.hid hps
  have HMB := Lib.hid hmb
  clear hr0 hr1 hc0 hc1 hbd g1 e1 ev1 hW2 hrc hmf hps hmb
  go_enter Try.func5, Try.ntmps5
  have HB := Lib.hid (Below.refl w.heap.size w)
  go_wp2_with fail
  replace HB := Lib.hid (below_alloc HB.out (.cells #[.slice A0 l0.length c0, .slice A1 l1.length c1] 25))
  have G0 := Lib.hid (heap_alloc_new w (.cells #[.slice A0 l0.length c0, .slice A1 l1.length c1] 25))
  refine (laws_szHub.calls k1 _ _ _ _ _ _ 1048576 r1 _ (Kd.C_below HR0.out HB.out) HC0.out (Kd.C_below HR1.out HB.out) HC1.out HE1.out).mono ?_
  rintro e w1 ⟨rfl, hs1⟩
  have HZ1 := Lib.hid (show w.heap.size + 1 ≤ w1.heap.size from by have := hs1.size; (try simp only [World.size_alloc] at this); omega)
  replace HB := Lib.hid (below_then HB.out HB.out.size hs1)
  replace G0 := Lib.hid (blk_below G0.out hs1)
  by_cases cn1 : r1 < 0
  · go_wp2_with fail
    go_ret
    exact ⟨rfl, HB.out⟩
  have ok1 := HG1.out.resolve_left cn1
  have HO1 := Lib.hid ok1
  clear ok1 HG1
  have HFW := Lib.hid (fit_watches l0 HO1.out.2.2.1)
  have HFN := Lib.hid (fit_news l1 HO1.out.2.2.2)
  have HOW := Lib.hid HO1.out.2.2.1
  have HON := Lib.hid HO1.out.2.2.2
  have hcw := c_wWatS l0
  have hcn := c_wNewS l1
  have hcl := tk_c client (cvWatS l0)
  have hpl := (tk_fit client (cvWatS l0) HFW.out).2
  have hcount : cWatS (cvWatS l0) + cNewS (cvNewS l1) ≤ 33554432 ∧ cWatS W2 ≤ cWatS (cvWatS l0) ∧ ps.length ≤ 4194304 := by rw [HW2.out, HPS.out]; have := HO1.out.2.1; omega
  have HCT := Lib.hid hcount
  clear hcw hcn hcount hcl hpl HO1
  have HSW := Lib.hid (small_watches (cvWatS l0) HFW.out)
  have HSN := Lib.hid (small_news (cvNewS l1) HFN.out)
  have HSW2 := Lib.hid (show smallWatS W2 from by rw [HW2.out]; exact small_watches _ (tk_fit _ _ HFW.out).1)
  have HSP := Lib.hid (show ps.length ≤ 4611686018427387904 from by have := HCT.out; omega)
  have hxG0_0 := blk_cell G0.out 0
  have hxG0_1 := blk_cell G0.out 1
  simp only [List.getElem?_toArray, List.getElem?_cons_zero, List.getElem?_cons_succ] at hxG0_0 hxG0_1
  go_wp2_with fail
  clear hxG0_0 hxG0_1
  refine (to_hub l0 l1 A0 A1 c0 c1 w _ HR0.out HC0.out HR1.out HC1.out HB.out HOW.out HON.out).mono ?_
  rintro e w3 ⟨v30, v31, rfl, hT, hs3⟩
  obtain ⟨B30, d30, B31, d31, rfl, rfl, _, _, _, _⟩ := hT.reads
  have hT' : HubT w3 (w1.heap.size) w3.heap.size (.slice B30 (cvWatS l0).length d30) (.slice B31 (cvNewS l1).length d31) (cvWatS l0) (cvNewS l1) := by have h := hT; (try simp only [World.size_alloc] at h); exact h
  clear hT
  have HZ3 := Lib.hid (show w1.heap.size ≤ w3.heap.size from by have := hs3.size; (try simp only [World.size_alloc] at this); omega)
  replace HB := Lib.hid (below_then HB.out HB.out.size hs3)
  replace G0 := Lib.hid (blk_below G0.out hs3)
  have HX := Lib.hid (hT')
  clear hs3 hT'
  go_wp2_with fail
  refine (spec_take (cvWatS l0) (cvNewS l1) client _ _ _ _ _ HX.out.reads'.2.2.1 HX.out.reads'.1 HX.out.reads'.2.2.2 HX.out.reads'.2.1 HFW.out HFN.out).mono ?_
  rw [← HW2.out, ← HRC.out, ← HMF.out, ← HPS.out, ← HMB.out]
  clear HX
  rintro e w4 ⟨v40, v41, u42, rfl, hT, hs4⟩
  obtain ⟨B40, d40, B41, d41, B42, d42, rfl, rfl, rfl, _, _, _, _, _, _⟩ := hT.reads
  have hT' : HubN w4 (w3.heap.size) w4.heap.size (.slice B40 W2.length d40) (.slice B41 (cvNewS l1).length d41) (.slice B42 ps.length d42) W2 (cvNewS l1) ps := by have h := hT; (try simp only [World.size_alloc] at h); exact h
  clear hT
  have HZ4 := Lib.hid (show w3.heap.size ≤ w4.heap.size from by have := hs4.size; (try simp only [World.size_alloc] at this); omega)
  replace HB := Lib.hid (below_then HB.out HB.out.size hs4)
  replace G0 := Lib.hid (blk_below G0.out hs4)
  have HW := Lib.hid (hT')
  clear hs4 hT'
  have hxG0_0 := blk_cell (blk_alloc (blk_alloc G0.out (.cells #[.slice B40 W2.length d40, .slice B41 (cvNewS l1).length d41] 32)) (.cells #[.int .i64 mf, .slice B42 ps.length d42, .bool mb] 44)) 0
  have hxG0_1 := blk_cell (blk_alloc (blk_alloc G0.out (.cells #[.slice B40 W2.length d40, .slice B41 (cvNewS l1).length d41] 32)) (.cells #[.int .i64 mf, .slice B42 ps.length d42, .bool mb] 44)) 1
  simp only [List.getElem?_toArray, List.getElem?_cons_zero, List.getElem?_cons_succ] at hxG0_0 hxG0_1
  go_wp2_with fail
  clear hxG0_0 hxG0_1
  replace HB := Lib.hid (below_alloc HB.out (.cells #[.slice B40 W2.length d40, .slice B41 (cvNewS l1).length d41] 32))
  replace G0 := Lib.hid (blk_alloc G0.out (.cells #[.slice B40 W2.length d40, .slice B41 (cvNewS l1).length d41] 32))
  replace HW := Lib.hid (HW.out.below (below_alloc (Below.refl _ _) (.cells #[.slice B40 W2.length d40, .slice B41 (cvNewS l1).length d41] 32)))
  have G8 := Lib.hid (heap_alloc_new w4 (.cells #[.slice B40 W2.length d40, .slice B41 (cvNewS l1).length d41] 32))
  replace HB := Lib.hid (below_alloc HB.out (.cells #[.int .i64 mf, .slice B42 ps.length d42, .bool mb] 44))
  replace G0 := Lib.hid (blk_alloc G0.out (.cells #[.int .i64 mf, .slice B42 ps.length d42, .bool mb] 44))
  replace HW := Lib.hid (HW.out.below (below_alloc (Below.refl _ _) (.cells #[.int .i64 mf, .slice B42 ps.length d42, .bool mb] 44)))
  replace G8 := Lib.hid (blk_alloc G8.out (.cells #[.int .i64 mf, .slice B42 ps.length d42, .bool mb] 44))
  have hM8 := heap_alloc_new (w4.alloc (.cells #[.slice B40 W2.length d40, .slice B41 (cvNewS l1).length d41] 32)) (.cells #[.int .i64 mf, .slice B42 ps.length d42, .bool mb] 44)
  simp only [World.size_alloc] at hM8
  have M8 := Lib.hid (hM8)
  clear hM8
  refine (to_hub l0 l1 A0 A1 c0 c1 w _ HR0.out HC0.out HR1.out HC1.out HB.out HOW.out HON.out).mono ?_
  rintro e w5 ⟨v50, v51, rfl, hT, hs5⟩
  obtain ⟨B50, d50, B51, d51, rfl, rfl, _, _, _, _⟩ := hT.reads
  have hT' : HubT w5 (w4.heap.size + 2) w5.heap.size (.slice B50 (cvWatS l0).length d50) (.slice B51 (cvNewS l1).length d51) (cvWatS l0) (cvNewS l1) := by have h := hT; (try simp only [World.size_alloc] at h); exact h
  clear hT
  have HZ5 := Lib.hid (show w4.heap.size + 2 ≤ w5.heap.size from by have := hs5.size; (try simp only [World.size_alloc] at this); omega)
  replace HB := Lib.hid (below_then HB.out HB.out.size hs5)
  replace G0 := Lib.hid (blk_below G0.out hs5)
  replace HW := Lib.hid (HW.out.below hs5)
  replace G8 := Lib.hid (blk_below G8.out hs5)
  replace M8 := Lib.hid (blk_below M8.out hs5)
  have HX := Lib.hid (hT')
  clear hs5 hT'
  go_wp2_with fail
  replace HB := Lib.hid (below_alloc HB.out (.cells #[.slice B50 (cvWatS l0).length d50, .slice B51 (cvNewS l1).length d51] 32))
  replace G0 := Lib.hid (blk_alloc G0.out (.cells #[.slice B50 (cvWatS l0).length d50, .slice B51 (cvNewS l1).length d51] 32))
  replace HW := Lib.hid (HW.out.below (below_alloc (Below.refl _ _) (.cells #[.slice B50 (cvWatS l0).length d50, .slice B51 (cvNewS l1).length d51] 32)))
  replace G8 := Lib.hid (blk_alloc G8.out (.cells #[.slice B50 (cvWatS l0).length d50, .slice B51 (cvNewS l1).length d51] 32))
  replace M8 := Lib.hid (blk_alloc M8.out (.cells #[.slice B50 (cvWatS l0).length d50, .slice B51 (cvNewS l1).length d51] 32))
  replace HX := Lib.hid (HX.out.below (below_alloc (Below.refl _ _) (.cells #[.slice B50 (cvWatS l0).length d50, .slice B51 (cvNewS l1).length d51] 32)))
  have G9 := Lib.hid (heap_alloc_new w5 (.cells #[.slice B50 (cvWatS l0).length d50, .slice B51 (cvNewS l1).length d51] 32))
  refine (take (cvWatS l0) (cvNewS l1) client _ _ _ _ _ _ HX.out.reads'.2.2.1 HX.out.reads'.1 HX.out.reads'.2.2.2 HX.out.reads'.2.1 (Below.refl _ _) HFW.out HFN.out).mono ?_
  rw [← HW2.out, ← HRC.out, ← HMF.out, ← HPS.out, ← HMB.out]
  rintro e w6 ⟨v60, v61, u62, rfl, hT, hs6⟩
  obtain ⟨B60, d60, B61, d61, B62, d62, rfl, rfl, rfl, _, _, _, _, _, _⟩ := hT.reads
  have hT' : HubM w6 (w5.heap.size + 1) w6.heap.size (.slice B60 W2.length d60) (.slice B61 (cvNewS l1).length d61) (.slice B62 ps.length d62) W2 (cvNewS l1) ps := by have h := hT; (try simp only [World.size_alloc] at h); exact h
  clear hT
  have HZ6 := Lib.hid (show w5.heap.size + 1 ≤ w6.heap.size from by have := hs6.size; (try simp only [World.size_alloc] at this); omega)
  replace HB := Lib.hid (below_then HB.out HB.out.size hs6)
  replace G0 := Lib.hid (blk_below G0.out hs6)
  replace HW := Lib.hid (HW.out.below hs6)
  replace G8 := Lib.hid (blk_below G8.out hs6)
  replace M8 := Lib.hid (blk_below M8.out hs6)
  replace HX := Lib.hid (HX.out.below hs6)
  replace G9 := Lib.hid (blk_below G9.out hs6)
  have HG := Lib.hid (hT')
  clear hs6 hT'
  have hxG8_0 := blk_cell (blk_alloc (blk_alloc G8.out (.cells #[.slice B60 W2.length d60, .slice B61 (cvNewS l1).length d61] 32)) (.cells #[.int .i64 mf, .slice B62 ps.length d62, .bool mb] 44)) 0
  have hxG8_1 := blk_cell (blk_alloc (blk_alloc G8.out (.cells #[.slice B60 W2.length d60, .slice B61 (cvNewS l1).length d61] 32)) (.cells #[.int .i64 mf, .slice B62 ps.length d62, .bool mb] 44)) 1
  simp only [List.getElem?_toArray, List.getElem?_cons_zero, List.getElem?_cons_succ] at hxG8_0 hxG8_1
  go_wp2_with fail
  clear hxG8_0 hxG8_1
  replace HB := Lib.hid (below_alloc HB.out (.cells #[.slice B60 W2.length d60, .slice B61 (cvNewS l1).length d61] 32))
  replace G0 := Lib.hid (blk_alloc G0.out (.cells #[.slice B60 W2.length d60, .slice B61 (cvNewS l1).length d61] 32))
  replace HW := Lib.hid (HW.out.below (below_alloc (Below.refl _ _) (.cells #[.slice B60 W2.length d60, .slice B61 (cvNewS l1).length d61] 32)))
  replace G8 := Lib.hid (blk_alloc G8.out (.cells #[.slice B60 W2.length d60, .slice B61 (cvNewS l1).length d61] 32))
  replace M8 := Lib.hid (blk_alloc M8.out (.cells #[.slice B60 W2.length d60, .slice B61 (cvNewS l1).length d61] 32))
  replace HX := Lib.hid (HX.out.below (below_alloc (Below.refl _ _) (.cells #[.slice B60 W2.length d60, .slice B61 (cvNewS l1).length d61] 32)))
  replace G9 := Lib.hid (blk_alloc G9.out (.cells #[.slice B60 W2.length d60, .slice B61 (cvNewS l1).length d61] 32))
  replace HG := Lib.hid (HG.out.below (below_alloc (Below.refl _ _) (.cells #[.slice B60 W2.length d60, .slice B61 (cvNewS l1).length d61] 32)))
  have G11 := Lib.hid (heap_alloc_new w6 (.cells #[.slice B60 W2.length d60, .slice B61 (cvNewS l1).length d61] 32))
  replace HB := Lib.hid (below_alloc HB.out (.cells #[.int .i64 mf, .slice B62 ps.length d62, .bool mb] 44))
  replace G0 := Lib.hid (blk_alloc G0.out (.cells #[.int .i64 mf, .slice B62 ps.length d62, .bool mb] 44))
  replace HW := Lib.hid (HW.out.below (below_alloc (Below.refl _ _) (.cells #[.int .i64 mf, .slice B62 ps.length d62, .bool mb] 44)))
  replace G8 := Lib.hid (blk_alloc G8.out (.cells #[.int .i64 mf, .slice B62 ps.length d62, .bool mb] 44))
  replace M8 := Lib.hid (blk_alloc M8.out (.cells #[.int .i64 mf, .slice B62 ps.length d62, .bool mb] 44))
  replace HX := Lib.hid (HX.out.below (below_alloc (Below.refl _ _) (.cells #[.int .i64 mf, .slice B62 ps.length d62, .bool mb] 44)))
  replace G9 := Lib.hid (blk_alloc G9.out (.cells #[.int .i64 mf, .slice B62 ps.length d62, .bool mb] 44))
  replace HG := Lib.hid (HG.out.below (below_alloc (Below.refl _ _) (.cells #[.int .i64 mf, .slice B62 ps.length d62, .bool mb] 44)))
  replace G11 := Lib.hid (blk_alloc G11.out (.cells #[.int .i64 mf, .slice B62 ps.length d62, .bool mb] 44))
  have hM11 := heap_alloc_new (w6.alloc (.cells #[.slice B60 W2.length d60, .slice B61 (cvNewS l1).length d61] 32)) (.cells #[.int .i64 mf, .slice B62 ps.length d62, .bool mb] 44)
  simp only [World.size_alloc] at hM11
  have M11 := Lib.hid (hM11)
  clear hM11
  refine (eq_hubMN HG.out HW.out HSW2.out HSN.out).mono ?_
  rintro e w7 ⟨rfl, hs7⟩
  have HZ7 := Lib.hid (show w6.heap.size + 2 ≤ w7.heap.size from by have := hs7.size; (try simp only [World.size_alloc] at this); omega)
  replace HB := Lib.hid (below_then HB.out HB.out.size hs7)
  replace G0 := Lib.hid (blk_below G0.out hs7)
  replace HW := Lib.hid (HW.out.below hs7)
  replace G8 := Lib.hid (blk_below G8.out hs7)
  replace M8 := Lib.hid (blk_below M8.out hs7)
  replace HX := Lib.hid (HX.out.below hs7)
  replace G9 := Lib.hid (blk_below G9.out hs7)
  replace HG := Lib.hid (HG.out.below hs7)
  replace G11 := Lib.hid (blk_below G11.out hs7)
  replace M11 := Lib.hid (blk_below M11.out hs7)
  clear hs7
  have hxM11_0 := blk_cell M11.out 0
  have hxM11_1 := blk_cell M11.out 1
  have hxM11_2 := blk_cell M11.out 2
  have hxM8_0 := blk_cell M8.out 0
  have hxM8_1 := blk_cell M8.out 1
  have hxM8_2 := blk_cell M8.out 2
  simp only [List.getElem?_toArray, List.getElem?_cons_zero, List.getElem?_cons_succ] at hxM11_0 hxM11_1 hxM11_2 hxM8_0 hxM8_1 hxM8_2
  go_wp2_with fail
  clear hxM11_0 hxM11_1 hxM11_2 hxM8_0 hxM8_1 hxM8_2
  refine (eq_msgMN HG.out HW.out HSP.out).mono ?_
  rintro e w8 ⟨rfl, hs8⟩
  have HZ8 := Lib.hid (show w7.heap.size ≤ w8.heap.size from by have := hs8.size; (try simp only [World.size_alloc] at this); omega)
  replace HB := Lib.hid (below_then HB.out HB.out.size hs8)
  replace G0 := Lib.hid (blk_below G0.out hs8)
  replace HW := Lib.hid (HW.out.below hs8)
  replace G8 := Lib.hid (blk_below G8.out hs8)
  replace M8 := Lib.hid (blk_below M8.out hs8)
  replace HX := Lib.hid (HX.out.below hs8)
  replace G9 := Lib.hid (blk_below G9.out hs8)
  replace HG := Lib.hid (HG.out.below hs8)
  replace G11 := Lib.hid (blk_below G11.out hs8)
  replace M11 := Lib.hid (blk_below M11.out hs8)
  clear hs8
  go_wp2_with fail
  have hxG9_0 := blk_cell G9.out 0
  have hxG9_1 := blk_cell G9.out 1
  have hxG0_0 := blk_cell G0.out 0
  have hxG0_1 := blk_cell G0.out 1
  simp only [List.getElem?_toArray, List.getElem?_cons_zero, List.getElem?_cons_succ] at hxG9_0 hxG9_1 hxG0_0 hxG0_1
  go_region_with (first | (go_at_call 9; refine (to_hub l0 l1 A0 A1 c0 c1 w _ HR0.out HC0.out HR1.out HC1.out (below_drew HB.out) HOW.out HON.out).mono ?_; rintro e w9 ⟨v90, v91, rfl, hT, hs9⟩; obtain ⟨B90, d90, B91, d91, rfl, rfl, _, _, _, _⟩ := hT.reads; have hT' : HubT w9 (w8.heap.size) w9.heap.size (.slice B90 (cvWatS l0).length d90) (.slice B91 (cvNewS l1).length d91) (cvWatS l0) (cvNewS l1) := (by have h := hT; (try simp only [World.size_alloc] at h); exact h); clear hT; replace hs9 := below_then (below_drew (Below.refl _ _)) (Nat.le_refl _) hs9; have HZ9 := Lib.hid (show w8.heap.size ≤ w9.heap.size from by have := hs9.size; (try simp only [World.size_alloc] at this); omega); replace HB := Lib.hid (below_then HB.out HB.out.size hs9); replace G0 := Lib.hid (blk_below G0.out hs9); replace HW := Lib.hid (HW.out.below hs9); replace G8 := Lib.hid (blk_below G8.out hs9); replace M8 := Lib.hid (blk_below M8.out hs9); replace HX := Lib.hid (HX.out.below hs9); replace G9 := Lib.hid (blk_below G9.out hs9); replace HG := Lib.hid (HG.out.below hs9); replace G11 := Lib.hid (blk_below G11.out hs9); replace M11 := Lib.hid (blk_below M11.out hs9); have HQ := Lib.hid (hT'); clear hs9 hT'; have hqG9_0 := blk_cell G9.out 0; have hqG9_1 := blk_cell G9.out 1; have hqG0_0 := blk_cell G0.out 0; have hqG0_1 := blk_cell G0.out 1; simp only [List.getElem?_toArray, List.getElem?_cons_zero, List.getElem?_cons_succ] at hqG9_0 hqG9_1 hqG0_0 hqG0_1) | (go_at_call 12; refine (eq_hubTT HX.out HQ.out HSW.out HSN.out).mono ?_; rintro e w10 ⟨rfl, hs10⟩; have HZ10 := Lib.hid (show w9.heap.size ≤ w10.heap.size from by have := hs10.size; (try simp only [World.size_alloc] at this); omega); replace HB := Lib.hid (below_then HB.out HB.out.size hs10); replace G0 := Lib.hid (blk_below G0.out hs10); replace HW := Lib.hid (HW.out.below hs10); replace G8 := Lib.hid (blk_below G8.out hs10); replace M8 := Lib.hid (blk_below M8.out hs10); replace HX := Lib.hid (HX.out.below hs10); replace G9 := Lib.hid (blk_below G9.out hs10); replace HG := Lib.hid (HG.out.below hs10); replace G11 := Lib.hid (blk_below G11.out hs10); replace M11 := Lib.hid (blk_below M11.out hs10); replace HQ := Lib.hid (HQ.out.below hs10); clear hs10))
  all_goals
    clear hqG9_0 hqG9_1 hqG0_0 hqG0_1 hxG9_0 hxG9_1 hxG0_0 hxG0_1
    clear HQ
    have hxG9_0 := blk_cell G9.out 0
    have hxG9_1 := blk_cell G9.out 1
    simp only [List.getElem?_toArray, List.getElem?_cons_zero, List.getElem?_cons_succ] at hxG9_0 hxG9_1
    go_wp2_with fail
    clear hxG9_0 hxG9_1
    refine (mark_hub _ _ 1 _ _ _ _ _ (by omega) (by have := HZ1.out; have := HCT.out; have := HZ3.out; have := HZ4.out; have := HZ5.out; have := HZ6.out; have := HZ7.out; have := HZ8.out; have := HZ9.out; have := HZ10.out; omega) HX.out (by have := HZ1.out; have := HCT.out; have := HZ3.out; have := HZ4.out; have := HZ5.out; have := HZ6.out; have := HZ7.out; have := HZ8.out; have := HZ9.out; have := HZ10.out; omega)).mono ?_
    rintro e w11 ⟨rfl, hT, ht11⟩
    have HZ11 := Lib.hid (show w10.heap.size ≤ w11.heap.size from ht11.kept.1)
    clear HX
    replace HB := Lib.hid (below_tch HB.out ht11 (fun k h => by have := HZ1.out; have := HCT.out; have := HZ3.out; have := HZ4.out; have := HZ5.out; have := HZ6.out; have := HZ7.out; have := HZ8.out; have := HZ9.out; have := HZ10.out; have := HZ11.out; omega))
    replace G0 := Lib.hid (blk_kept G0.out ht11.kept (fun h => by first | exact h | (have := HZ1.out; have := HCT.out; have := HZ3.out; have := HZ4.out; have := HZ5.out; have := HZ6.out; have := HZ7.out; have := HZ8.out; have := HZ9.out; have := HZ10.out; have := HZ11.out; omega)))
    replace HW := Lib.hid (HW.out.tch ht11 (fun k h1 h2 h3 => by have := HZ1.out; have := HCT.out; have := HZ3.out; have := HZ4.out; have := HZ5.out; have := HZ6.out; have := HZ7.out; have := HZ8.out; have := HZ9.out; have := HZ10.out; have := HZ11.out; omega))
    replace G8 := Lib.hid (blk_kept G8.out ht11.kept (fun h => by first | exact h | (have := HZ1.out; have := HCT.out; have := HZ3.out; have := HZ4.out; have := HZ5.out; have := HZ6.out; have := HZ7.out; have := HZ8.out; have := HZ9.out; have := HZ10.out; have := HZ11.out; omega)))
    replace M8 := Lib.hid (blk_kept M8.out ht11.kept (fun h => by first | exact h | (have := HZ1.out; have := HCT.out; have := HZ3.out; have := HZ4.out; have := HZ5.out; have := HZ6.out; have := HZ7.out; have := HZ8.out; have := HZ9.out; have := HZ10.out; have := HZ11.out; omega)))
    replace G9 := Lib.hid (blk_kept G9.out ht11.kept (fun h => by first | exact h | (have := HZ1.out; have := HCT.out; have := HZ3.out; have := HZ4.out; have := HZ5.out; have := HZ6.out; have := HZ7.out; have := HZ8.out; have := HZ9.out; have := HZ10.out; have := HZ11.out; omega)))
    replace HG := Lib.hid (HG.out.tch ht11 (fun k h1 h2 h3 => by have := HZ1.out; have := HCT.out; have := HZ3.out; have := HZ4.out; have := HZ5.out; have := HZ6.out; have := HZ7.out; have := HZ8.out; have := HZ9.out; have := HZ10.out; have := HZ11.out; omega))
    replace G11 := Lib.hid (blk_kept G11.out ht11.kept (fun h => by first | exact h | (have := HZ1.out; have := HCT.out; have := HZ3.out; have := HZ4.out; have := HZ5.out; have := HZ6.out; have := HZ7.out; have := HZ8.out; have := HZ9.out; have := HZ10.out; have := HZ11.out; omega)))
    replace M11 := Lib.hid (blk_kept M11.out ht11.kept (fun h => by first | exact h | (have := HZ1.out; have := HCT.out; have := HZ3.out; have := HZ4.out; have := HZ5.out; have := HZ6.out; have := HZ7.out; have := HZ8.out; have := HZ9.out; have := HZ10.out; have := HZ11.out; omega)))
    have HX := Lib.hid (hT)
    clear hT ht11
    have hneg : ¬ (1 + ((cWatS (cvWatS l0) : Nat) : Int) + ((cNewS (cvNewS l1) : Nat) : Int) < 0) := by omega
    clear HX
    have hxG11_0 := blk_cell G11.out 0
    have hxG11_1 := blk_cell G11.out 1
    have hxG8_0 := blk_cell G8.out 0
    have hxG8_1 := blk_cell G8.out 1
    simp only [List.getElem?_toArray, List.getElem?_cons_zero, List.getElem?_cons_succ] at hxG11_0 hxG11_1 hxG8_0 hxG8_1
    go_wp2_with fail
    clear hxG11_0 hxG11_1 hxG8_0 hxG8_1
    refine (eq_hubMN HG.out HW.out HSW2.out HSN.out).mono ?_
    rintro e w12 ⟨rfl, hs12⟩
    have HZ12 := Lib.hid (show w11.heap.size ≤ w12.heap.size from by have := hs12.size; (try simp only [World.size_alloc] at this); omega)
    replace HB := Lib.hid (below_then HB.out HB.out.size hs12)
    replace G0 := Lib.hid (blk_below G0.out hs12)
    replace HW := Lib.hid (HW.out.below hs12)
    replace G8 := Lib.hid (blk_below G8.out hs12)
    replace M8 := Lib.hid (blk_below M8.out hs12)
    replace G9 := Lib.hid (blk_below G9.out hs12)
    replace HG := Lib.hid (HG.out.below hs12)
    replace G11 := Lib.hid (blk_below G11.out hs12)
    replace M11 := Lib.hid (blk_below M11.out hs12)
    clear hs12
    have hxM11_0 := blk_cell M11.out 0
    have hxM11_1 := blk_cell M11.out 1
    have hxM11_2 := blk_cell M11.out 2
    have hxM8_0 := blk_cell M8.out 0
    have hxM8_1 := blk_cell M8.out 1
    have hxM8_2 := blk_cell M8.out 2
    simp only [List.getElem?_toArray, List.getElem?_cons_zero, List.getElem?_cons_succ] at hxM11_0 hxM11_1 hxM11_2 hxM8_0 hxM8_1 hxM8_2
    go_wp2_with fail
    clear hxM11_0 hxM11_1 hxM11_2 hxM8_0 hxM8_1 hxM8_2
    refine (eq_msgMN HG.out HW.out HSP.out).mono ?_
    rintro e w13 ⟨rfl, hs13⟩
    have HZ13 := Lib.hid (show w12.heap.size ≤ w13.heap.size from by have := hs13.size; (try simp only [World.size_alloc] at this); omega)
    replace HB := Lib.hid (below_then HB.out HB.out.size hs13)
    replace G0 := Lib.hid (blk_below G0.out hs13)
    replace HW := Lib.hid (HW.out.below hs13)
    replace G8 := Lib.hid (blk_below G8.out hs13)
    replace M8 := Lib.hid (blk_below M8.out hs13)
    replace G9 := Lib.hid (blk_below G9.out hs13)
    replace HG := Lib.hid (HG.out.below hs13)
    replace G11 := Lib.hid (blk_below G11.out hs13)
    replace M11 := Lib.hid (blk_below M11.out hs13)
    clear hs13
    clear hneg
    have hxG11_0 := blk_cell G11.out 0
    have hxG11_1 := blk_cell G11.out 1
    simp only [List.getElem?_toArray, List.getElem?_cons_zero, List.getElem?_cons_succ] at hxG11_0 hxG11_1
    go_wp2_with fail
    clear hxG11_0 hxG11_1
    refine (mark_hubM _ _ 1 _ _ _ _ _ _ (by omega) (by have := HZ1.out; have := HCT.out; have := HZ3.out; have := HZ4.out; have := HZ5.out; have := HZ6.out; have := HZ7.out; have := HZ8.out; have := HZ9.out; have := HZ10.out; have := HZ11.out; have := HZ12.out; have := HZ13.out; omega) HG.out (by have := HZ1.out; have := HCT.out; have := HZ3.out; have := HZ4.out; have := HZ5.out; have := HZ6.out; have := HZ7.out; have := HZ8.out; have := HZ9.out; have := HZ10.out; have := HZ11.out; have := HZ12.out; have := HZ13.out; omega)).mono ?_
    rintro e w14 ⟨rfl, hT, ht14⟩
    have HZ14 := Lib.hid (show w13.heap.size ≤ w14.heap.size from ht14.kept.1)
    clear HG
    replace HB := Lib.hid (below_tch HB.out ht14 (fun k h => by have := HZ1.out; have := HCT.out; have := HZ3.out; have := HZ4.out; have := HZ5.out; have := HZ6.out; have := HZ7.out; have := HZ8.out; have := HZ9.out; have := HZ10.out; have := HZ11.out; have := HZ12.out; have := HZ13.out; have := HZ14.out; omega))
    replace G0 := Lib.hid (blk_kept G0.out ht14.kept (fun h => by first | exact h | (have := HZ1.out; have := HCT.out; have := HZ3.out; have := HZ4.out; have := HZ5.out; have := HZ6.out; have := HZ7.out; have := HZ8.out; have := HZ9.out; have := HZ10.out; have := HZ11.out; have := HZ12.out; have := HZ13.out; have := HZ14.out; omega)))
    replace HW := Lib.hid (HW.out.tch ht14 (fun k h1 h2 h3 => by have := HZ1.out; have := HCT.out; have := HZ3.out; have := HZ4.out; have := HZ5.out; have := HZ6.out; have := HZ7.out; have := HZ8.out; have := HZ9.out; have := HZ10.out; have := HZ11.out; have := HZ12.out; have := HZ13.out; have := HZ14.out; omega))
    replace G8 := Lib.hid (blk_kept G8.out ht14.kept (fun h => by first | exact h | (have := HZ1.out; have := HCT.out; have := HZ3.out; have := HZ4.out; have := HZ5.out; have := HZ6.out; have := HZ7.out; have := HZ8.out; have := HZ9.out; have := HZ10.out; have := HZ11.out; have := HZ12.out; have := HZ13.out; have := HZ14.out; omega)))
    replace M8 := Lib.hid (blk_kept M8.out ht14.kept (fun h => by first | exact h | (have := HZ1.out; have := HCT.out; have := HZ3.out; have := HZ4.out; have := HZ5.out; have := HZ6.out; have := HZ7.out; have := HZ8.out; have := HZ9.out; have := HZ10.out; have := HZ11.out; have := HZ12.out; have := HZ13.out; have := HZ14.out; omega)))
    replace G9 := Lib.hid (blk_kept G9.out ht14.kept (fun h => by first | exact h | (have := HZ1.out; have := HCT.out; have := HZ3.out; have := HZ4.out; have := HZ5.out; have := HZ6.out; have := HZ7.out; have := HZ8.out; have := HZ9.out; have := HZ10.out; have := HZ11.out; have := HZ12.out; have := HZ13.out; have := HZ14.out; omega)))
    replace G11 := Lib.hid (blk_kept G11.out ht14.kept (fun h => by first | exact h | (have := HZ1.out; have := HCT.out; have := HZ3.out; have := HZ4.out; have := HZ5.out; have := HZ6.out; have := HZ7.out; have := HZ8.out; have := HZ9.out; have := HZ10.out; have := HZ11.out; have := HZ12.out; have := HZ13.out; have := HZ14.out; omega)))
    replace M11 := Lib.hid (blk_kept M11.out ht14.kept (fun h => by first | exact h | (have := HZ1.out; have := HCT.out; have := HZ3.out; have := HZ4.out; have := HZ5.out; have := HZ6.out; have := HZ7.out; have := HZ8.out; have := HZ9.out; have := HZ10.out; have := HZ11.out; have := HZ12.out; have := HZ13.out; have := HZ14.out; omega)))
    have HG := Lib.hid (hT)
    clear hT ht14
    have hxM11_0 := blk_cell M11.out 0
    have hxM11_1 := blk_cell M11.out 1
    have hxM11_2 := blk_cell M11.out 2
    simp only [List.getElem?_toArray, List.getElem?_cons_zero, List.getElem?_cons_succ] at hxM11_0 hxM11_1 hxM11_2
    go_wp2_with fail
    clear hxM11_0 hxM11_1 hxM11_2
    refine (mark_msgM mf mb (1 + ((cWatS W2 : Nat) : Int) + ((cNewS (cvNewS l1) : Nat) : Int)) _ _ _ _ _ _ (by omega) (by have := HZ1.out; have := HCT.out; have := HZ3.out; have := HZ4.out; have := HZ5.out; have := HZ6.out; have := HZ7.out; have := HZ8.out; have := HZ9.out; have := HZ10.out; have := HZ11.out; have := HZ12.out; have := HZ13.out; have := HZ14.out; omega) HG.out (by have := HZ1.out; have := HCT.out; have := HZ3.out; have := HZ4.out; have := HZ5.out; have := HZ6.out; have := HZ7.out; have := HZ8.out; have := HZ9.out; have := HZ10.out; have := HZ11.out; have := HZ12.out; have := HZ13.out; have := HZ14.out; omega)).mono ?_
    rintro e w15 ⟨rfl, hT, ht15⟩
    have HZ15 := Lib.hid (show w14.heap.size ≤ w15.heap.size from ht15.kept.1)
    clear HG
    replace HB := Lib.hid (below_tch HB.out ht15 (fun k h => by have := HZ1.out; have := HCT.out; have := HZ3.out; have := HZ4.out; have := HZ5.out; have := HZ6.out; have := HZ7.out; have := HZ8.out; have := HZ9.out; have := HZ10.out; have := HZ11.out; have := HZ12.out; have := HZ13.out; have := HZ14.out; have := HZ15.out; omega))
    replace G0 := Lib.hid (blk_kept G0.out ht15.kept (fun h => by first | exact h | (have := HZ1.out; have := HCT.out; have := HZ3.out; have := HZ4.out; have := HZ5.out; have := HZ6.out; have := HZ7.out; have := HZ8.out; have := HZ9.out; have := HZ10.out; have := HZ11.out; have := HZ12.out; have := HZ13.out; have := HZ14.out; have := HZ15.out; omega)))
    replace HW := Lib.hid (HW.out.tch ht15 (fun k h1 h2 h3 => by have := HZ1.out; have := HCT.out; have := HZ3.out; have := HZ4.out; have := HZ5.out; have := HZ6.out; have := HZ7.out; have := HZ8.out; have := HZ9.out; have := HZ10.out; have := HZ11.out; have := HZ12.out; have := HZ13.out; have := HZ14.out; have := HZ15.out; omega))
    replace G8 := Lib.hid (blk_kept G8.out ht15.kept (fun h => by first | exact h | (have := HZ1.out; have := HCT.out; have := HZ3.out; have := HZ4.out; have := HZ5.out; have := HZ6.out; have := HZ7.out; have := HZ8.out; have := HZ9.out; have := HZ10.out; have := HZ11.out; have := HZ12.out; have := HZ13.out; have := HZ14.out; have := HZ15.out; omega)))
    replace M8 := Lib.hid (blk_kept M8.out ht15.kept (fun h => by first | exact h | (have := HZ1.out; have := HCT.out; have := HZ3.out; have := HZ4.out; have := HZ5.out; have := HZ6.out; have := HZ7.out; have := HZ8.out; have := HZ9.out; have := HZ10.out; have := HZ11.out; have := HZ12.out; have := HZ13.out; have := HZ14.out; have := HZ15.out; omega)))
    replace G9 := Lib.hid (blk_kept G9.out ht15.kept (fun h => by first | exact h | (have := HZ1.out; have := HCT.out; have := HZ3.out; have := HZ4.out; have := HZ5.out; have := HZ6.out; have := HZ7.out; have := HZ8.out; have := HZ9.out; have := HZ10.out; have := HZ11.out; have := HZ12.out; have := HZ13.out; have := HZ14.out; have := HZ15.out; omega)))
    replace G11 := Lib.hid (blk_kept G11.out ht15.kept (fun h => by first | exact h | (have := HZ1.out; have := HCT.out; have := HZ3.out; have := HZ4.out; have := HZ5.out; have := HZ6.out; have := HZ7.out; have := HZ8.out; have := HZ9.out; have := HZ10.out; have := HZ11.out; have := HZ12.out; have := HZ13.out; have := HZ14.out; have := HZ15.out; omega)))
    replace M11 := Lib.hid (blk_kept M11.out ht15.kept (fun h => by first | exact h | (have := HZ1.out; have := HCT.out; have := HZ3.out; have := HZ4.out; have := HZ5.out; have := HZ6.out; have := HZ7.out; have := HZ8.out; have := HZ9.out; have := HZ10.out; have := HZ11.out; have := HZ12.out; have := HZ13.out; have := HZ14.out; have := HZ15.out; omega)))
    have HG := Lib.hid (hT)
    clear hT ht15
    have hxG11_0 := blk_cell G11.out 0
    have hxG11_1 := blk_cell G11.out 1
    simp only [List.getElem?_toArray, List.getElem?_cons_zero, List.getElem?_cons_succ] at hxG11_0 hxG11_1
    go_wp2_with fail
    clear hxG11_0 hxG11_1
    refine (held_hubM HG.out (by omega) (by have := HZ1.out; have := HCT.out; have := HZ3.out; have := HZ4.out; have := HZ5.out; have := HZ6.out; have := HZ7.out; have := HZ8.out; have := HZ9.out; have := HZ10.out; have := HZ11.out; have := HZ12.out; have := HZ13.out; have := HZ14.out; have := HZ15.out; omega)).mono ?_
    rintro e w16 ⟨rfl, hs16⟩
    have HZ16 := Lib.hid (show w15.heap.size ≤ w16.heap.size from by have := hs16.size; (try simp only [World.size_alloc] at this); omega)
    replace HB := Lib.hid (below_then HB.out HB.out.size hs16)
    replace G0 := Lib.hid (blk_below G0.out hs16)
    replace HW := Lib.hid (HW.out.below hs16)
    replace G8 := Lib.hid (blk_below G8.out hs16)
    replace M8 := Lib.hid (blk_below M8.out hs16)
    replace G9 := Lib.hid (blk_below G9.out hs16)
    replace G11 := Lib.hid (blk_below G11.out hs16)
    replace M11 := Lib.hid (blk_below M11.out hs16)
    replace HG := Lib.hid (HG.out.below hs16)
    clear hs16
    have hneg : ¬ (1 + ((cWatS W2 : Nat) : Int) + ((cNewS (cvNewS l1) : Nat) : Int) < 0) := by omega
    have hxM11_0 := blk_cell M11.out 0
    have hxM11_1 := blk_cell M11.out 1
    have hxM11_2 := blk_cell M11.out 2
    simp only [List.getElem?_toArray, List.getElem?_cons_zero, List.getElem?_cons_succ] at hxM11_0 hxM11_1 hxM11_2
    go_wp2_with fail
    clear hxM11_0 hxM11_1 hxM11_2
    clear hneg
    refine (held_msgM HG.out (by omega) (by have := HZ1.out; have := HCT.out; have := HZ3.out; have := HZ4.out; have := HZ5.out; have := HZ6.out; have := HZ7.out; have := HZ8.out; have := HZ9.out; have := HZ10.out; have := HZ11.out; have := HZ12.out; have := HZ13.out; have := HZ14.out; have := HZ15.out; have := HZ16.out; omega)).mono ?_
    rintro e w17 ⟨rfl, hs17⟩
    have HZ17 := Lib.hid (show w16.heap.size ≤ w17.heap.size from by have := hs17.size; (try simp only [World.size_alloc] at this); omega)
    replace HB := Lib.hid (below_then HB.out HB.out.size hs17)
    replace G0 := Lib.hid (blk_below G0.out hs17)
    replace HW := Lib.hid (HW.out.below hs17)
    replace G8 := Lib.hid (blk_below G8.out hs17)
    replace M8 := Lib.hid (blk_below M8.out hs17)
    replace G9 := Lib.hid (blk_below G9.out hs17)
    replace G11 := Lib.hid (blk_below G11.out hs17)
    replace M11 := Lib.hid (blk_below M11.out hs17)
    replace HG := Lib.hid (HG.out.below hs17)
    clear hs17
    have hneg : ¬ (1 + ((cWatS W2 : Nat) : Int) + ((cNewS (cvNewS l1) : Nat) : Int) + (ps.length : Int) < 0) := by omega
    have hxG0_0 := blk_cell G0.out 0
    have hxG0_1 := blk_cell G0.out 1
    simp only [List.getElem?_toArray, List.getElem?_cons_zero, List.getElem?_cons_succ] at hxG0_0 hxG0_1
    go_wp2_with fail
    clear hxG0_0 hxG0_1
    clear hneg
    refine (to_hub l0 l1 A0 A1 c0 c1 w _ HR0.out HC0.out HR1.out HC1.out HB.out HOW.out HON.out).mono ?_
    rintro e w18 ⟨v180, v181, rfl, hT, hs18⟩
    obtain ⟨B180, d180, B181, d181, rfl, rfl, _, _, _, _⟩ := hT.reads
    have hT' : HubT w18 (w17.heap.size) w18.heap.size (.slice B180 (cvWatS l0).length d180) (.slice B181 (cvNewS l1).length d181) (cvWatS l0) (cvNewS l1) := by have h := hT; (try simp only [World.size_alloc] at h); exact h
    clear hT
    have HZ18 := Lib.hid (show w17.heap.size ≤ w18.heap.size from by have := hs18.size; (try simp only [World.size_alloc] at this); omega)
    replace HB := Lib.hid (below_then HB.out HB.out.size hs18)
    replace G0 := Lib.hid (blk_below G0.out hs18)
    replace HW := Lib.hid (HW.out.below hs18)
    replace G8 := Lib.hid (blk_below G8.out hs18)
    replace M8 := Lib.hid (blk_below M8.out hs18)
    replace G9 := Lib.hid (blk_below G9.out hs18)
    replace G11 := Lib.hid (blk_below G11.out hs18)
    replace M11 := Lib.hid (blk_below M11.out hs18)
    replace HG := Lib.hid (HG.out.below hs18)
    have HX := Lib.hid (hT')
    clear hs18 hT'
    go_wp2_with fail
    refine (take (cvWatS l0) (cvNewS l1) client _ _ _ _ _ _ HX.out.reads'.2.2.1 HX.out.reads'.1 HX.out.reads'.2.2.2 HX.out.reads'.2.1 (Below.refl _ _) HFW.out HFN.out).mono ?_
    rw [← HW2.out, ← HRC.out, ← HMF.out, ← HPS.out, ← HMB.out]
    rintro e w19 ⟨v190, v191, u192, rfl, hT, hs19⟩
    obtain ⟨B190, d190, B191, d191, B192, d192, rfl, rfl, rfl, _, _, _, _, _, _⟩ := hT.reads
    have hT' : HubM w19 (w18.heap.size) w19.heap.size (.slice B190 W2.length d190) (.slice B191 (cvNewS l1).length d191) (.slice B192 ps.length d192) W2 (cvNewS l1) ps := by have h := hT; (try simp only [World.size_alloc] at h); exact h
    clear hT
    have HZ19 := Lib.hid (show w18.heap.size ≤ w19.heap.size from by have := hs19.size; (try simp only [World.size_alloc] at this); omega)
    replace HB := Lib.hid (below_then HB.out HB.out.size hs19)
    replace G0 := Lib.hid (blk_below G0.out hs19)
    replace HW := Lib.hid (HW.out.below hs19)
    replace G8 := Lib.hid (blk_below G8.out hs19)
    replace M8 := Lib.hid (blk_below M8.out hs19)
    replace G9 := Lib.hid (blk_below G9.out hs19)
    replace G11 := Lib.hid (blk_below G11.out hs19)
    replace M11 := Lib.hid (blk_below M11.out hs19)
    replace HG := Lib.hid (HG.out.below hs19)
    replace HX := Lib.hid (HX.out.below hs19)
    have HP := Lib.hid (hT')
    clear hs19 hT'
    clear HX
    have hxG8_0 := blk_cell (blk_alloc (blk_alloc G8.out (.cells #[.slice B190 W2.length d190, .slice B191 (cvNewS l1).length d191] 32)) (.cells #[.int .i64 mf, .slice B192 ps.length d192, .bool mb] 44)) 0
    have hxG8_1 := blk_cell (blk_alloc (blk_alloc G8.out (.cells #[.slice B190 W2.length d190, .slice B191 (cvNewS l1).length d191] 32)) (.cells #[.int .i64 mf, .slice B192 ps.length d192, .bool mb] 44)) 1
    simp only [List.getElem?_toArray, List.getElem?_cons_zero, List.getElem?_cons_succ] at hxG8_0 hxG8_1
    go_wp2_with fail
    clear hxG8_0 hxG8_1
    replace HB := Lib.hid (below_alloc HB.out (.cells #[.slice B190 W2.length d190, .slice B191 (cvNewS l1).length d191] 32))
    replace G0 := Lib.hid (blk_alloc G0.out (.cells #[.slice B190 W2.length d190, .slice B191 (cvNewS l1).length d191] 32))
    replace HW := Lib.hid (HW.out.below (below_alloc (Below.refl _ _) (.cells #[.slice B190 W2.length d190, .slice B191 (cvNewS l1).length d191] 32)))
    replace G8 := Lib.hid (blk_alloc G8.out (.cells #[.slice B190 W2.length d190, .slice B191 (cvNewS l1).length d191] 32))
    replace M8 := Lib.hid (blk_alloc M8.out (.cells #[.slice B190 W2.length d190, .slice B191 (cvNewS l1).length d191] 32))
    replace G9 := Lib.hid (blk_alloc G9.out (.cells #[.slice B190 W2.length d190, .slice B191 (cvNewS l1).length d191] 32))
    replace G11 := Lib.hid (blk_alloc G11.out (.cells #[.slice B190 W2.length d190, .slice B191 (cvNewS l1).length d191] 32))
    replace M11 := Lib.hid (blk_alloc M11.out (.cells #[.slice B190 W2.length d190, .slice B191 (cvNewS l1).length d191] 32))
    replace HG := Lib.hid (HG.out.below (below_alloc (Below.refl _ _) (.cells #[.slice B190 W2.length d190, .slice B191 (cvNewS l1).length d191] 32)))
    replace HP := Lib.hid (HP.out.below (below_alloc (Below.refl _ _) (.cells #[.slice B190 W2.length d190, .slice B191 (cvNewS l1).length d191] 32)))
    replace HB := Lib.hid (below_alloc HB.out (.cells #[.int .i64 mf, .slice B192 ps.length d192, .bool mb] 44))
    replace G0 := Lib.hid (blk_alloc G0.out (.cells #[.int .i64 mf, .slice B192 ps.length d192, .bool mb] 44))
    replace HW := Lib.hid (HW.out.below (below_alloc (Below.refl _ _) (.cells #[.int .i64 mf, .slice B192 ps.length d192, .bool mb] 44)))
    replace G8 := Lib.hid (blk_alloc G8.out (.cells #[.int .i64 mf, .slice B192 ps.length d192, .bool mb] 44))
    replace M8 := Lib.hid (blk_alloc M8.out (.cells #[.int .i64 mf, .slice B192 ps.length d192, .bool mb] 44))
    replace G9 := Lib.hid (blk_alloc G9.out (.cells #[.int .i64 mf, .slice B192 ps.length d192, .bool mb] 44))
    replace G11 := Lib.hid (blk_alloc G11.out (.cells #[.int .i64 mf, .slice B192 ps.length d192, .bool mb] 44))
    replace M11 := Lib.hid (blk_alloc M11.out (.cells #[.int .i64 mf, .slice B192 ps.length d192, .bool mb] 44))
    replace HG := Lib.hid (HG.out.below (below_alloc (Below.refl _ _) (.cells #[.int .i64 mf, .slice B192 ps.length d192, .bool mb] 44)))
    replace HP := Lib.hid (HP.out.below (below_alloc (Below.refl _ _) (.cells #[.int .i64 mf, .slice B192 ps.length d192, .bool mb] 44)))
    have hM15 := heap_alloc_new (w19.alloc (.cells #[.slice B190 W2.length d190, .slice B191 (cvNewS l1).length d191] 32)) (.cells #[.int .i64 mf, .slice B192 ps.length d192, .bool mb] 44)
    simp only [World.size_alloc] at hM15
    have M15 := Lib.hid (hM15)
    clear hM15
    refine (eq_hubMN HP.out HW.out HSW2.out HSN.out).mono ?_
    rintro e w20 ⟨rfl, hs20⟩
    have HZ20 := Lib.hid (show w19.heap.size + 2 ≤ w20.heap.size from by have := hs20.size; (try simp only [World.size_alloc] at this); omega)
    replace HB := Lib.hid (below_then HB.out HB.out.size hs20)
    replace G0 := Lib.hid (blk_below G0.out hs20)
    replace HW := Lib.hid (HW.out.below hs20)
    replace G8 := Lib.hid (blk_below G8.out hs20)
    replace M8 := Lib.hid (blk_below M8.out hs20)
    replace G9 := Lib.hid (blk_below G9.out hs20)
    replace G11 := Lib.hid (blk_below G11.out hs20)
    replace M11 := Lib.hid (blk_below M11.out hs20)
    replace HG := Lib.hid (HG.out.below hs20)
    replace HP := Lib.hid (HP.out.below hs20)
    replace M15 := Lib.hid (blk_below M15.out hs20)
    clear hs20
    have hxM15_0 := blk_cell M15.out 0
    have hxM15_1 := blk_cell M15.out 1
    have hxM15_2 := blk_cell M15.out 2
    have hxM8_0 := blk_cell M8.out 0
    have hxM8_1 := blk_cell M8.out 1
    have hxM8_2 := blk_cell M8.out 2
    simp only [List.getElem?_toArray, List.getElem?_cons_zero, List.getElem?_cons_succ] at hxM15_0 hxM15_1 hxM15_2 hxM8_0 hxM8_1 hxM8_2
    go_wp2_with fail
    clear hxM15_0 hxM15_1 hxM15_2 hxM8_0 hxM8_1 hxM8_2
    refine (eq_msgMN HP.out HW.out HSP.out).mono ?_
    rintro e w21 ⟨rfl, hs21⟩
    have HZ21 := Lib.hid (show w20.heap.size ≤ w21.heap.size from by have := hs21.size; (try simp only [World.size_alloc] at this); omega)
    replace HB := Lib.hid (below_then HB.out HB.out.size hs21)
    replace G0 := Lib.hid (blk_below G0.out hs21)
    replace HW := Lib.hid (HW.out.below hs21)
    replace G8 := Lib.hid (blk_below G8.out hs21)
    replace M8 := Lib.hid (blk_below M8.out hs21)
    replace G9 := Lib.hid (blk_below G9.out hs21)
    replace G11 := Lib.hid (blk_below G11.out hs21)
    replace M11 := Lib.hid (blk_below M11.out hs21)
    replace HG := Lib.hid (HG.out.below hs21)
    replace HP := Lib.hid (HP.out.below hs21)
    replace M15 := Lib.hid (blk_below M15.out hs21)
    clear hs21
    clear HP
    have hxG11_0 := blk_cell G11.out 0
    have hxG11_1 := blk_cell G11.out 1
    simp only [List.getElem?_toArray, List.getElem?_cons_zero, List.getElem?_cons_succ] at hxG11_0 hxG11_1
    go_wp2_with fail
    clear hxG11_0 hxG11_1
    refine (held_hubM HG.out (by omega) (by have := HZ1.out; have := HCT.out; have := HZ3.out; have := HZ4.out; have := HZ5.out; have := HZ6.out; have := HZ7.out; have := HZ8.out; have := HZ9.out; have := HZ10.out; have := HZ11.out; have := HZ12.out; have := HZ13.out; have := HZ14.out; have := HZ15.out; have := HZ16.out; have := HZ17.out; have := HZ18.out; have := HZ19.out; have := HZ20.out; have := HZ21.out; omega)).mono ?_
    rintro e w22 ⟨rfl, hs22⟩
    have HZ22 := Lib.hid (show w21.heap.size ≤ w22.heap.size from by have := hs22.size; (try simp only [World.size_alloc] at this); omega)
    replace HB := Lib.hid (below_then HB.out HB.out.size hs22)
    replace G0 := Lib.hid (blk_below G0.out hs22)
    replace HW := Lib.hid (HW.out.below hs22)
    replace G8 := Lib.hid (blk_below G8.out hs22)
    replace M8 := Lib.hid (blk_below M8.out hs22)
    replace G9 := Lib.hid (blk_below G9.out hs22)
    replace G11 := Lib.hid (blk_below G11.out hs22)
    replace M11 := Lib.hid (blk_below M11.out hs22)
    replace HG := Lib.hid (HG.out.below hs22)
    replace M15 := Lib.hid (blk_below M15.out hs22)
    clear hs22
    have hneg : ¬ (1 + ((cWatS W2 : Nat) : Int) + ((cNewS (cvNewS l1) : Nat) : Int) < 0) := by omega
    have hxM11_0 := blk_cell M11.out 0
    have hxM11_1 := blk_cell M11.out 1
    have hxM11_2 := blk_cell M11.out 2
    simp only [List.getElem?_toArray, List.getElem?_cons_zero, List.getElem?_cons_succ] at hxM11_0 hxM11_1 hxM11_2
    go_wp2_with fail
    clear hxM11_0 hxM11_1 hxM11_2
    clear hneg
    refine (held_msgM HG.out (by omega) (by have := HZ1.out; have := HCT.out; have := HZ3.out; have := HZ4.out; have := HZ5.out; have := HZ6.out; have := HZ7.out; have := HZ8.out; have := HZ9.out; have := HZ10.out; have := HZ11.out; have := HZ12.out; have := HZ13.out; have := HZ14.out; have := HZ15.out; have := HZ16.out; have := HZ17.out; have := HZ18.out; have := HZ19.out; have := HZ20.out; have := HZ21.out; have := HZ22.out; omega)).mono ?_
    rintro e w23 ⟨rfl, hs23⟩
    have HZ23 := Lib.hid (show w22.heap.size ≤ w23.heap.size from by have := hs23.size; (try simp only [World.size_alloc] at this); omega)
    replace HB := Lib.hid (below_then HB.out HB.out.size hs23)
    replace G0 := Lib.hid (blk_below G0.out hs23)
    replace HW := Lib.hid (HW.out.below hs23)
    replace G8 := Lib.hid (blk_below G8.out hs23)
    replace M8 := Lib.hid (blk_below M8.out hs23)
    replace G9 := Lib.hid (blk_below G9.out hs23)
    replace G11 := Lib.hid (blk_below G11.out hs23)
    replace M11 := Lib.hid (blk_below M11.out hs23)
    replace HG := Lib.hid (HG.out.below hs23)
    replace M15 := Lib.hid (blk_below M15.out hs23)
    clear hs23
    have hneg : ¬ (1 + ((cWatS W2 : Nat) : Int) + ((cNewS (cvNewS l1) : Nat) : Int) + (ps.length : Int) < 0) := by omega
    go_wp2_with fail
    go_ret
    exact ⟨rfl, HB.out⟩
end Go.Proofs.Ytmphkhkbegihaaa.HubLaw
