/-
  The law FnExactPublish, walked: whatever the hub, the number and the pointers, it returns true and writes into nothing that was there.
-/
import Derived.Test.YtmphkhkbegihaaaLawB
namespace Go.Proofs.Ytmphkhkbegihaaa.HubLaw
open Go Go.RowKit Go.Proofs.Ytmphkhkbegihaaa.PHub Go.Proofs.YtmphkhkbegihaaaW.PrintWords Go.Proofs.Ytmphkhkbegihaaa.Tree Go.Proofs.Ytmphkhkbegihaaa.Mark Go.Proofs.Ytmphkhkbegihaaa.To Go.Proofs.Ytmphkhkbegihaaa.Copy Go.Proofs.Ytmphkhkbegihaaa.Plain Go.Proofs.Ytmphkhkbegihaaa.SpecP Go.Proofs.Ytmphkhkbegihaaa.Open
set_option linter.unusedVariables false
set_option linter.unusedSimpArgs false

set_option maxRecDepth 1000000 in
set_option maxHeartbeats 40000000 in
theorem law_publish (l0 : List S78) (l1 : List S80) (ver : Int) (l2 : List ByteArray) (A0 A1 A2 : Option Addr) (c0 c1 c2 : Nat) (w : World) (hr0 : Kd.C k78 w A0 l0.length l0) (hc0 : l0.length ≤ c0) (hr1 : Kd.C k80 w A1 l1.length l1) (hc1 : l1.length ≤ c1) (hr2 : Kd.C Kd.string w A2 l2.length l2) (hc2 : l2.length ≤ c2) (hbd : bdHub l0 l1) (hbs : (∀ x ∈ l2, x.size ≤ 9223372036854775807) ∧ l2.length ≤ 9223372036854775807) :
    Calls Try.prog 3 #[.agg #[.slice A0 l0.length c0, .slice A1 l1.length c1], .int .i64 ver, .slice A2 l2.length c2] w fun e w' => e = .returned (.bool true) ∧ Below w.heap.size w w' := by
  obtain ⟨r1, ev1, g1⟩ := szHub_tells l0 l1 hbd
  obtain ⟨k1, e1⟩ := ev1.rounds
  have HR0 := Lib.hid hr0
  have HC0 := Lib.hid hc0
  have HR1 := Lib.hid hr1
  have HC1 := Lib.hid hc1
  have HR2 := Lib.hid hr2
  have HC2 := Lib.hid hc2
  have HG1 := Lib.hid g1
  have HE1 := Lib.hid e1
  have HBS := Lib.hid hbs
  clear hr0 hr1 hr2 hc0 hc1 hc2 hbd hbs g1 e1 ev1
  go_enter Try.func3, Try.ntmps3
  have HB := Lib.hid (Below.refl w.heap.size w)
  go_wp2_with fail
  have Y1_0 := Lib.hid (below_alloc HB.out (.cells #[.slice A0 l0.length c0, .slice A1 l1.length c1] 25))
  clear HB
  have HB := Y1_0
  clear Y1_0
  have G0 := Lib.hid (heap_alloc_new w (.cells #[.slice A0 l0.length c0, .slice A1 l1.length c1] 25))
  refine (laws_szHub.calls k1 _ _ _ _ _ _ 1048576 r1 _ (Kd.C_below HR0.out HB.out) HC0.out (Kd.C_below HR1.out HB.out) HC1.out HE1.out).mono ?_
  rintro e w1 ⟨rfl, hs1⟩
  have HZ1 := Lib.hid (show w.heap.size + 1 ≤ w1.heap.size from by have := hs1.size; (try simp only [World.size_alloc] at this); omega)
  have Y2_0 := Lib.hid (below_then HB.out HB.out.size hs1)
  have Y2_1 := Lib.hid (blk_below G0.out hs1)
  clear HB G0
  have HB := Y2_0
  have G0 := Y2_1
  clear Y2_0 Y2_1
  by_cases cn1 : r1 < 0
  · go_wp2_with fail
    go_ret
    exact ⟨rfl, HB.out⟩
  have ok1 := HG1.out.resolve_left cn1
  obtain ⟨r2, ev2, g2⟩ := szStr_tells l2 HBS.out r1 ok1.1 (by omega)
  obtain ⟨k2, e2⟩ := ev2.rounds
  have HO1 := Lib.hid ok1
  have HG2 := Lib.hid g2
  have HE2 := Lib.hid e2
  clear ok1 g2 e2 ev2 HG1
  go_wp2_with fail
  refine (laws_szStringS.calls k2 _ _ _ r1 r2 _ (Kd.C_below HR2.out HB.out) HC2.out HE2.out).mono ?_
  rintro e w2 ⟨rfl, hd⟩
  have hs2 := hd.below
  have HZ2 := Lib.hid (show w1.heap.size ≤ w2.heap.size from hs2.size)
  have Y3_0 := Lib.hid (below_then HB.out HB.out.size hs2)
  have Y3_1 := Lib.hid (blk_below G0.out hs2)
  clear HB G0
  have HB := Y3_0
  have G0 := Y3_1
  clear Y3_0 Y3_1
  clear hd hs2
  by_cases cn2 : r2 < 0
  · go_wp2_with fail
    go_ret
    exact ⟨rfl, HB.out⟩
  have ok2 := HG2.out.resolve_left cn2
  have HFW := Lib.hid (fit_watches l0 HO1.out.2.2.1)
  have HFN := Lib.hid (fit_news l1 HO1.out.2.2.2)
  have HOW := Lib.hid HO1.out.2.2.1
  have HON := Lib.hid HO1.out.2.2.2
  have HOS := Lib.hid ok2.2.2
  have hcw := c_wWatS l0
  have hcn := c_wNewS l1
  have hcount : cWatS (cvWatS l0) + cNewS (cvNewS l1) + l2.length ≤ 33554432 := by have := HO1.out.2.1; have := ok2.2.1; omega
  have HCT := Lib.hid hcount
  clear hcw hcn hcount ok2 HO1 HG2
  have HSW := Lib.hid (small_watches (cvWatS l0) HFW.out)
  have HSN := Lib.hid (small_news (cvNewS l1) HFN.out)
  have HLEN := Lib.hid (show (cvNewS l1 ++ [(⟨ver, l2⟩ : S53)]).length = ((cvNewS l1).length + 1) from by simp)
  have HSN2 := Lib.hid (small_news_snoc (cvNewS l1) ⟨ver, l2⟩ HFN.out HOS.out)
  have hxG0_0 := blk_cell G0.out 0
  have hxG0_1 := blk_cell G0.out 1
  simp only [List.getElem?_toArray, List.getElem?_cons_zero, List.getElem?_cons_succ] at hxG0_0 hxG0_1
  go_wp2_with fail
  clear hxG0_0 hxG0_1
  refine (to_hub l0 l1 A0 A1 c0 c1 w _ HR0.out HC0.out HR1.out HC1.out HB.out HOW.out HON.out).mono ?_
  rintro e w4 ⟨v40, v41, rfl, hT, hs4⟩
  obtain ⟨B40, d40, B41, d41, rfl, rfl, _, _, _, _⟩ := hT.reads
  have hT' : HubT w4 (w2.heap.size) w4.heap.size (.slice B40 (cvWatS l0).length d40) (.slice B41 (cvNewS l1).length d41) (cvWatS l0) (cvNewS l1) := by have h := hT; (try simp only [World.size_alloc] at h); exact h
  clear hT
  have HZ4 := Lib.hid (show w2.heap.size ≤ w4.heap.size from by have := hs4.size; (try simp only [World.size_alloc] at this); omega)
  have Y4_0 := Lib.hid (below_then HB.out HB.out.size hs4)
  have Y4_1 := Lib.hid (blk_below G0.out hs4)
  clear HB G0
  have HB := Y4_0
  have G0 := Y4_1
  clear Y4_0 Y4_1
  have HX := Lib.hid (hT')
  clear hs4 hT'
  go_wp2_with fail
  refine (to_str l2 A2 c2 w _ HR2.out HB.out HOS.out).mono ?_
  rintro e w5 ⟨v5, rfl, hT, hs5⟩
  obtain ⟨B5, d5, rfl, _⟩ := T_slice hT
  have hT' : T Kd.string 9 w5 0 (fun k => w4.heap.size ≤ k ∧ k < w5.heap.size) (.slice B5 l2.length d5) l2 := T_mono (T_now hT) (fun k hk => ⟨by have h := hk.1; (try simp only [World.size_alloc] at h); exact h, hk.2.2⟩)
  clear hT
  have HZ5 := Lib.hid (show w4.heap.size ≤ w5.heap.size from by have := hs5.size; (try simp only [World.size_alloc] at this); omega)
  have Y5_0 := Lib.hid (below_then HB.out HB.out.size hs5)
  have Y5_1 := Lib.hid (blk_below G0.out hs5)
  have Y5_2 := Lib.hid (HX.out.below hs5)
  clear HB G0 HX
  have HB := Y5_0
  have G0 := Y5_1
  have HX := Y5_2
  clear Y5_0 Y5_1 Y5_2
  have HY := Lib.hid (hT')
  clear hs5 hT'
  go_wp2_with fail
  obtain ⟨k3, e3⟩ := (publish_ev (cvWatS l0) (cvNewS l1) HFW.out HFN.out ver l2 HOS.out).rounds
  refine (spec_Publish.calls k3 _ _ _ _ _ _ ver _ _ _ _ _ _ HX.out.reads'.2.2.1 HX.out.reads'.1 HX.out.reads'.2.2.2 HX.out.reads'.2.1 (T_reads' HY.out).2.2 (T_reads' HY.out).2.1 e3).mono ?_
  rintro e w6 ⟨v0, v1, rfl, hR, hS, hs6⟩
  have hT := HubR.of_R hR (Kd.S_R hS)
  obtain ⟨B80, d80, B81, d81, rfl, rfl, _, _, _, _⟩ := hT.reads
  have hT' : HubR w6 (w5.heap.size) w6.heap.size (.slice B80 (cvWatS l0).length d80) (.slice B81 ((cvNewS l1).length + 1) d81) (cvWatS l0) (cvNewS l1 ++ [(⟨ver, l2⟩ : S53)]) := by have h := hT; rw [HLEN.out] at h; exact h
  clear hT hR hS e3
  have HZ6 := Lib.hid (show w5.heap.size ≤ w6.heap.size from hs6.size)
  clear HX HY
  have Y6_0 := Lib.hid (below_then HB.out HB.out.size hs6)
  have Y6_1 := Lib.hid (blk_below G0.out hs6)
  clear HB G0
  have HB := Y6_0
  have G0 := Y6_1
  clear Y6_0 Y6_1
  have HW := Lib.hid (hT')
  clear hs6 hT'
  have hxG0_0 := blk_cell (blk_alloc G0.out (.cells #[.slice B80 (cvWatS l0).length d80, .slice B81 ((cvNewS l1).length + 1) d81] 32)) 0
  have hxG0_1 := blk_cell (blk_alloc G0.out (.cells #[.slice B80 (cvWatS l0).length d80, .slice B81 ((cvNewS l1).length + 1) d81] 32)) 1
  simp only [List.getElem?_toArray, List.getElem?_cons_zero, List.getElem?_cons_succ] at hxG0_0 hxG0_1
  go_wp2_with fail
  clear hxG0_0 hxG0_1
  have Y7_0 := Lib.hid (below_alloc HB.out (.cells #[.slice B80 (cvWatS l0).length d80, .slice B81 ((cvNewS l1).length + 1) d81] 32))
  have Y7_1 := Lib.hid (blk_alloc G0.out (.cells #[.slice B80 (cvWatS l0).length d80, .slice B81 ((cvNewS l1).length + 1) d81] 32))
  have Y7_2 := Lib.hid (HW.out.below (below_alloc (Below.refl _ _) (.cells #[.slice B80 (cvWatS l0).length d80, .slice B81 ((cvNewS l1).length + 1) d81] 32)))
  clear HB G0 HW
  have HB := Y7_0
  have G0 := Y7_1
  have HW := Y7_2
  clear Y7_0 Y7_1 Y7_2
  have G8 := Lib.hid (heap_alloc_new w6 (.cells #[.slice B80 (cvWatS l0).length d80, .slice B81 ((cvNewS l1).length + 1) d81] 32))
  refine (to_hub l0 l1 A0 A1 c0 c1 w _ HR0.out HC0.out HR1.out HC1.out HB.out HOW.out HON.out).mono ?_
  rintro e w7 ⟨v70, v71, rfl, hT, hs7⟩
  obtain ⟨B70, d70, B71, d71, rfl, rfl, _, _, _, _⟩ := hT.reads
  have hT' : HubT w7 (w6.heap.size + 1) w7.heap.size (.slice B70 (cvWatS l0).length d70) (.slice B71 (cvNewS l1).length d71) (cvWatS l0) (cvNewS l1) := by have h := hT; (try simp only [World.size_alloc] at h); exact h
  clear hT
  have HZ7 := Lib.hid (show w6.heap.size + 1 ≤ w7.heap.size from by have := hs7.size; (try simp only [World.size_alloc] at this); omega)
  have Y8_0 := Lib.hid (below_then HB.out HB.out.size hs7)
  have Y8_1 := Lib.hid (blk_below G0.out hs7)
  have Y8_2 := Lib.hid (HW.out.below hs7)
  have Y8_3 := Lib.hid (blk_below G8.out hs7)
  clear HB G0 HW G8
  have HB := Y8_0
  have G0 := Y8_1
  have HW := Y8_2
  have G8 := Y8_3
  clear Y8_0 Y8_1 Y8_2 Y8_3
  have HX := Lib.hid (hT')
  clear hs7 hT'
  go_wp2_with fail
  have Y9_0 := Lib.hid (below_alloc HB.out (.cells #[.slice B70 (cvWatS l0).length d70, .slice B71 (cvNewS l1).length d71] 32))
  have Y9_1 := Lib.hid (blk_alloc G0.out (.cells #[.slice B70 (cvWatS l0).length d70, .slice B71 (cvNewS l1).length d71] 32))
  have Y9_2 := Lib.hid (HW.out.below (below_alloc (Below.refl _ _) (.cells #[.slice B70 (cvWatS l0).length d70, .slice B71 (cvNewS l1).length d71] 32)))
  have Y9_3 := Lib.hid (blk_alloc G8.out (.cells #[.slice B70 (cvWatS l0).length d70, .slice B71 (cvNewS l1).length d71] 32))
  have Y9_4 := Lib.hid (HX.out.below (below_alloc (Below.refl _ _) (.cells #[.slice B70 (cvWatS l0).length d70, .slice B71 (cvNewS l1).length d71] 32)))
  clear HB G0 HW G8 HX
  have HB := Y9_0
  have G0 := Y9_1
  have HW := Y9_2
  have G8 := Y9_3
  have HX := Y9_4
  clear Y9_0 Y9_1 Y9_2 Y9_3 Y9_4
  have G9 := Lib.hid (heap_alloc_new w7 (.cells #[.slice B70 (cvWatS l0).length d70, .slice B71 (cvNewS l1).length d71] 32))
  refine (to_str l2 A2 c2 w _ HR2.out HB.out HOS.out).mono ?_
  rintro e w8 ⟨v8, rfl, hT, hs8⟩
  obtain ⟨B8, d8, rfl, _⟩ := T_slice hT
  have hT' : T Kd.string 9 w8 0 (fun k => w7.heap.size + 1 ≤ k ∧ k < w8.heap.size) (.slice B8 l2.length d8) l2 := T_mono (T_now hT) (fun k hk => ⟨by have h := hk.1; (try simp only [World.size_alloc] at h); exact h, hk.2.2⟩)
  clear hT
  have HZ8 := Lib.hid (show w7.heap.size + 1 ≤ w8.heap.size from by have := hs8.size; (try simp only [World.size_alloc] at this); omega)
  have Y10_0 := Lib.hid (below_then HB.out HB.out.size hs8)
  have Y10_1 := Lib.hid (blk_below G0.out hs8)
  have Y10_2 := Lib.hid (HW.out.below hs8)
  have Y10_3 := Lib.hid (blk_below G8.out hs8)
  have Y10_4 := Lib.hid (HX.out.below hs8)
  have Y10_5 := Lib.hid (blk_below G9.out hs8)
  clear HB G0 HW G8 HX G9
  have HB := Y10_0
  have G0 := Y10_1
  have HW := Y10_2
  have G8 := Y10_3
  have HX := Y10_4
  have G9 := Y10_5
  clear Y10_0 Y10_1 Y10_2 Y10_3 Y10_4 Y10_5
  have HY := Lib.hid (hT')
  clear hs8 hT'
  have hxG9_0 := blk_cell G9.out 0
  have hxG9_1 := blk_cell G9.out 1
  simp only [List.getElem?_toArray, List.getElem?_cons_zero, List.getElem?_cons_succ] at hxG9_0 hxG9_1
  go_wp2_with fail
  clear hxG9_0 hxG9_1
  refine (publish (cvWatS l0) (cvNewS l1) ver l2 _ _ _ _ _ _ _ _ HX.out.reads'.2.2.1 HX.out.reads'.1 HX.out.reads'.2.2.2 HX.out.reads'.2.1 (T_reads' HY.out).2.2 (T_reads' HY.out).2.1 (Below.refl _ _) HFW.out HFN.out HOS.out).mono ?_
  rintro e w9 ⟨v90, v91, m, rfl, hS0, hS1, hs9, hm0, hm1⟩
  have hT := HubT.of_S hS0 hS1 hm0 hm1
  obtain ⟨B90, d90, B91, d91, rfl, rfl, _, _, _, _⟩ := hT.reads
  have hT' : HubT w9 (w8.heap.size) w9.heap.size (.slice B90 (cvWatS l0).length d90) (.slice B91 ((cvNewS l1).length + 1) d91) (cvWatS l0) (cvNewS l1 ++ [(⟨ver, l2⟩ : S53)]) := by have h := hT; (try simp only [World.size_alloc] at h); rw [HLEN.out] at h; exact h
  clear hT hS0 hS1 hm0 hm1
  have HZ9 := Lib.hid (show w8.heap.size ≤ w9.heap.size from by have := hs9.size; (try simp only [World.size_alloc] at this); omega)
  have Y11_0 := Lib.hid (below_then HB.out HB.out.size hs9)
  have Y11_1 := Lib.hid (blk_below G0.out hs9)
  have Y11_2 := Lib.hid (HW.out.below hs9)
  have Y11_3 := Lib.hid (blk_below G8.out hs9)
  have Y11_4 := Lib.hid (HX.out.below hs9)
  have Y11_5 := Lib.hid (blk_below G9.out hs9)
  have Y11_6 := Lib.hid (T_below HY.out hs9)
  clear HB G0 HW G8 HX G9 HY
  have HB := Y11_0
  have G0 := Y11_1
  have HW := Y11_2
  have G8 := Y11_3
  have HX := Y11_4
  have G9 := Y11_5
  have HY := Y11_6
  clear Y11_0 Y11_1 Y11_2 Y11_3 Y11_4 Y11_5 Y11_6
  have HG := Lib.hid (hT')
  clear hs9 hT'
  have hxG8_0 := blk_cell (blk_alloc G8.out (.cells #[.slice B90 (cvWatS l0).length d90, .slice B91 ((cvNewS l1).length + 1) d91] 32)) 0
  have hxG8_1 := blk_cell (blk_alloc G8.out (.cells #[.slice B90 (cvWatS l0).length d90, .slice B91 ((cvNewS l1).length + 1) d91] 32)) 1
  simp only [List.getElem?_toArray, List.getElem?_cons_zero, List.getElem?_cons_succ] at hxG8_0 hxG8_1
  go_wp2_with fail
  clear hxG8_0 hxG8_1
  have Y12_0 := Lib.hid (below_alloc HB.out (.cells #[.slice B90 (cvWatS l0).length d90, .slice B91 ((cvNewS l1).length + 1) d91] 32))
  have Y12_1 := Lib.hid (blk_alloc G0.out (.cells #[.slice B90 (cvWatS l0).length d90, .slice B91 ((cvNewS l1).length + 1) d91] 32))
  have Y12_2 := Lib.hid (HW.out.below (below_alloc (Below.refl _ _) (.cells #[.slice B90 (cvWatS l0).length d90, .slice B91 ((cvNewS l1).length + 1) d91] 32)))
  have Y12_3 := Lib.hid (blk_alloc G8.out (.cells #[.slice B90 (cvWatS l0).length d90, .slice B91 ((cvNewS l1).length + 1) d91] 32))
  have Y12_4 := Lib.hid (HX.out.below (below_alloc (Below.refl _ _) (.cells #[.slice B90 (cvWatS l0).length d90, .slice B91 ((cvNewS l1).length + 1) d91] 32)))
  have Y12_5 := Lib.hid (blk_alloc G9.out (.cells #[.slice B90 (cvWatS l0).length d90, .slice B91 ((cvNewS l1).length + 1) d91] 32))
  have Y12_6 := Lib.hid (T_below HY.out (below_alloc (Below.refl _ _) (.cells #[.slice B90 (cvWatS l0).length d90, .slice B91 ((cvNewS l1).length + 1) d91] 32)))
  have Y12_7 := Lib.hid (HG.out.below (below_alloc (Below.refl _ _) (.cells #[.slice B90 (cvWatS l0).length d90, .slice B91 ((cvNewS l1).length + 1) d91] 32)))
  clear HB G0 HW G8 HX G9 HY HG
  have HB := Y12_0
  have G0 := Y12_1
  have HW := Y12_2
  have G8 := Y12_3
  have HX := Y12_4
  have G9 := Y12_5
  have HY := Y12_6
  have HG := Y12_7
  clear Y12_0 Y12_1 Y12_2 Y12_3 Y12_4 Y12_5 Y12_6 Y12_7
  have G11 := Lib.hid (heap_alloc_new w9 (.cells #[.slice B90 (cvWatS l0).length d90, .slice B91 ((cvNewS l1).length + 1) d91] 32))
  refine (eq_hubTR HG.out HW.out HSW.out HSN2.out).mono ?_
  rintro e w10 ⟨rfl, hs10⟩
  have HZ10 := Lib.hid (show w9.heap.size + 1 ≤ w10.heap.size from by have := hs10.size; (try simp only [World.size_alloc] at this); omega)
  have Y13_0 := Lib.hid (below_then HB.out HB.out.size hs10)
  have Y13_1 := Lib.hid (blk_below G0.out hs10)
  have Y13_2 := Lib.hid (HW.out.below hs10)
  have Y13_3 := Lib.hid (blk_below G8.out hs10)
  have Y13_4 := Lib.hid (HX.out.below hs10)
  have Y13_5 := Lib.hid (blk_below G9.out hs10)
  have Y13_6 := Lib.hid (T_below HY.out hs10)
  have Y13_7 := Lib.hid (HG.out.below hs10)
  have Y13_8 := Lib.hid (blk_below G11.out hs10)
  clear HB G0 HW G8 HX G9 HY HG G11
  have HB := Y13_0
  have G0 := Y13_1
  have HW := Y13_2
  have G8 := Y13_3
  have HX := Y13_4
  have G9 := Y13_5
  have HY := Y13_6
  have HG := Y13_7
  have G11 := Y13_8
  clear Y13_0 Y13_1 Y13_2 Y13_3 Y13_4 Y13_5 Y13_6 Y13_7 Y13_8
  clear hs10
  go_wp2_with fail
  have hxG9_0 := blk_cell G9.out 0
  have hxG9_1 := blk_cell G9.out 1
  have hxG0_0 := blk_cell G0.out 0
  have hxG0_1 := blk_cell G0.out 1
  simp only [List.getElem?_toArray, List.getElem?_cons_zero, List.getElem?_cons_succ] at hxG9_0 hxG9_1 hxG0_0 hxG0_1
  go_region_with (first | (go_at_call 9; refine (to_hub l0 l1 A0 A1 c0 c1 w _ HR0.out HC0.out HR1.out HC1.out (below_drew HB.out) HOW.out HON.out).mono ?_; rintro e w11 ⟨v110, v111, rfl, hT, hs11⟩; obtain ⟨B110, d110, B111, d111, rfl, rfl, _, _, _, _⟩ := hT.reads; have hT' : HubT w11 (w10.heap.size) w11.heap.size (.slice B110 (cvWatS l0).length d110) (.slice B111 (cvNewS l1).length d111) (cvWatS l0) (cvNewS l1) := (by have h := hT; (try simp only [World.size_alloc] at h); exact h); clear hT; replace hs11 := below_then (below_drew (Below.refl _ _)) (Nat.le_refl _) hs11; have HZ11 := Lib.hid (show w10.heap.size ≤ w11.heap.size from by have := hs11.size; (try simp only [World.size_alloc] at this); omega); have Y14_0 := Lib.hid (below_then HB.out HB.out.size hs11); have Y14_1 := Lib.hid (blk_below G0.out hs11); have Y14_2 := Lib.hid (HW.out.below hs11); have Y14_3 := Lib.hid (blk_below G8.out hs11); have Y14_4 := Lib.hid (HX.out.below hs11); have Y14_5 := Lib.hid (blk_below G9.out hs11); have Y14_6 := Lib.hid (T_below HY.out hs11); have Y14_7 := Lib.hid (HG.out.below hs11); have Y14_8 := Lib.hid (blk_below G11.out hs11); clear HB G0 HW G8 HX G9 HY HG G11; have HB := Y14_0; have G0 := Y14_1; have HW := Y14_2; have G8 := Y14_3; have HX := Y14_4; have G9 := Y14_5; have HY := Y14_6; have HG := Y14_7; have G11 := Y14_8; clear Y14_0 Y14_1 Y14_2 Y14_3 Y14_4 Y14_5 Y14_6 Y14_7 Y14_8; have HQ := Lib.hid (hT'); clear hs11 hT'; have hqG9_0 := blk_cell G9.out 0; have hqG9_1 := blk_cell G9.out 1; have hqG0_0 := blk_cell G0.out 0; have hqG0_1 := blk_cell G0.out 1; simp only [List.getElem?_toArray, List.getElem?_cons_zero, List.getElem?_cons_succ] at hqG9_0 hqG9_1 hqG0_0 hqG0_1) | (go_at_call 12; refine (eq_hubTT HX.out HQ.out HSW.out HSN.out).mono ?_; rintro e w12 ⟨rfl, hs12⟩; have HZ12 := Lib.hid (show w11.heap.size ≤ w12.heap.size from by have := hs12.size; (try simp only [World.size_alloc] at this); omega); have Y15_0 := Lib.hid (below_then HB.out HB.out.size hs12); have Y15_1 := Lib.hid (blk_below G0.out hs12); have Y15_2 := Lib.hid (HW.out.below hs12); have Y15_3 := Lib.hid (blk_below G8.out hs12); have Y15_4 := Lib.hid (HX.out.below hs12); have Y15_5 := Lib.hid (blk_below G9.out hs12); have Y15_6 := Lib.hid (T_below HY.out hs12); have Y15_7 := Lib.hid (HG.out.below hs12); have Y15_8 := Lib.hid (blk_below G11.out hs12); have Y15_9 := Lib.hid (HQ.out.below hs12); clear HB G0 HW G8 HX G9 HY HG G11 HQ; have HB := Y15_0; have G0 := Y15_1; have HW := Y15_2; have G8 := Y15_3; have HX := Y15_4; have G9 := Y15_5; have HY := Y15_6; have HG := Y15_7; have G11 := Y15_8; have HQ := Y15_9; clear Y15_0 Y15_1 Y15_2 Y15_3 Y15_4 Y15_5 Y15_6 Y15_7 Y15_8 Y15_9; clear hs12))
  all_goals
    clear hqG9_0 hqG9_1 hqG0_0 hqG0_1 hxG9_0 hxG9_1 hxG0_0 hxG0_1
    clear HQ
    go_wp2_with fail
    refine (to_str l2 A2 c2 w _ HR2.out HB.out HOS.out).mono ?_
    rintro e w13 ⟨v13, rfl, hT, hs13⟩
    obtain ⟨B13, d13, rfl, _⟩ := T_slice hT
    have hT' : T Kd.string 9 w13 0 (fun k => w12.heap.size ≤ k ∧ k < w13.heap.size) (.slice B13 l2.length d13) l2 := T_mono (T_now hT) (fun k hk => ⟨by have h := hk.1; (try simp only [World.size_alloc] at h); exact h, hk.2.2⟩)
    clear hT
    have HZ13 := Lib.hid (show w12.heap.size ≤ w13.heap.size from by have := hs13.size; (try simp only [World.size_alloc] at this); omega)
    have Y16_0 := Lib.hid (below_then HB.out HB.out.size hs13)
    have Y16_1 := Lib.hid (blk_below G0.out hs13)
    have Y16_2 := Lib.hid (HW.out.below hs13)
    have Y16_3 := Lib.hid (blk_below G8.out hs13)
    have Y16_4 := Lib.hid (HX.out.below hs13)
    have Y16_5 := Lib.hid (blk_below G9.out hs13)
    have Y16_6 := Lib.hid (T_below HY.out hs13)
    have Y16_7 := Lib.hid (HG.out.below hs13)
    have Y16_8 := Lib.hid (blk_below G11.out hs13)
    clear HB G0 HW G8 HX G9 HY HG G11
    have HB := Y16_0
    have G0 := Y16_1
    have HW := Y16_2
    have G8 := Y16_3
    have HX := Y16_4
    have G9 := Y16_5
    have HY := Y16_6
    have HG := Y16_7
    have G11 := Y16_8
    clear Y16_0 Y16_1 Y16_2 Y16_3 Y16_4 Y16_5 Y16_6 Y16_7 Y16_8
    have HQ := Lib.hid (hT')
    clear hs13 hT'
    go_wp2_with fail
    obtain ⟨k4, e4⟩ := (eqStr_refl l2 (show l2.length ≤ _ from by have := HOS.out; omega)).rounds
    refine (laws_eqStringS.calls k4 _ _ _ _ _ _ _ _ (T_reads' HY.out).2.2 (T_reads' HY.out).2.1 (T_reads' HQ.out).2.2 (T_reads' HQ.out).2.1 e4).mono ?_
    rintro e w14 ⟨rfl, hd⟩
    have hs14 := hd.below
    have HZ14 := Lib.hid (show w13.heap.size ≤ w14.heap.size from hs14.size)
    clear HQ
    have Y17_0 := Lib.hid (below_then HB.out HB.out.size hs14)
    have Y17_1 := Lib.hid (blk_below G0.out hs14)
    have Y17_2 := Lib.hid (HW.out.below hs14)
    have Y17_3 := Lib.hid (blk_below G8.out hs14)
    have Y17_4 := Lib.hid (HX.out.below hs14)
    have Y17_5 := Lib.hid (blk_below G9.out hs14)
    have Y17_6 := Lib.hid (T_below HY.out hs14)
    have Y17_7 := Lib.hid (HG.out.below hs14)
    have Y17_8 := Lib.hid (blk_below G11.out hs14)
    clear HB G0 HW G8 HX G9 HY HG G11
    have HB := Y17_0
    have G0 := Y17_1
    have HW := Y17_2
    have G8 := Y17_3
    have HX := Y17_4
    have G9 := Y17_5
    have HY := Y17_6
    have HG := Y17_7
    have G11 := Y17_8
    clear Y17_0 Y17_1 Y17_2 Y17_3 Y17_4 Y17_5 Y17_6 Y17_7 Y17_8
    clear hd hs14 e4
    have hxG9_0 := blk_cell G9.out 0
    have hxG9_1 := blk_cell G9.out 1
    simp only [List.getElem?_toArray, List.getElem?_cons_zero, List.getElem?_cons_succ] at hxG9_0 hxG9_1
    go_wp2_with fail
    clear hxG9_0 hxG9_1
    refine (mark_hub _ _ 1 _ _ _ _ _ (by omega) (by have := HZ1.out; have := HZ2.out; have := HCT.out; have := HZ4.out; have := HZ5.out; have := HZ6.out; have := HZ7.out; have := HZ8.out; have := HZ9.out; have := HZ10.out; have := HZ11.out; have := HZ12.out; have := HZ13.out; have := HZ14.out; omega) HX.out (by have := HZ1.out; have := HZ2.out; have := HCT.out; have := HZ4.out; have := HZ5.out; have := HZ6.out; have := HZ7.out; have := HZ8.out; have := HZ9.out; have := HZ10.out; have := HZ11.out; have := HZ12.out; have := HZ13.out; have := HZ14.out; omega)).mono ?_
    rintro e w15 ⟨rfl, hT, ht15⟩
    have HZ15 := Lib.hid (show w14.heap.size ≤ w15.heap.size from ht15.kept.1)
    clear HX
    have Y18_0 := Lib.hid (below_tch HB.out ht15 (fun k h => by have := HZ1.out; have := HZ2.out; have := HCT.out; have := HZ4.out; have := HZ5.out; have := HZ6.out; have := HZ7.out; have := HZ8.out; have := HZ9.out; have := HZ10.out; have := HZ11.out; have := HZ12.out; have := HZ13.out; have := HZ14.out; have := HZ15.out; omega))
    have Y18_1 := Lib.hid (blk_kept G0.out ht15.kept (fun h => by first | exact h | (have := HZ1.out; have := HZ2.out; have := HCT.out; have := HZ4.out; have := HZ5.out; have := HZ6.out; have := HZ7.out; have := HZ8.out; have := HZ9.out; have := HZ10.out; have := HZ11.out; have := HZ12.out; have := HZ13.out; have := HZ14.out; have := HZ15.out; omega)))
    have Y18_2 := Lib.hid (HW.out.tch ht15 (fun k h1 h2 h3 => by have := HZ1.out; have := HZ2.out; have := HCT.out; have := HZ4.out; have := HZ5.out; have := HZ6.out; have := HZ7.out; have := HZ8.out; have := HZ9.out; have := HZ10.out; have := HZ11.out; have := HZ12.out; have := HZ13.out; have := HZ14.out; have := HZ15.out; omega))
    have Y18_3 := Lib.hid (blk_kept G8.out ht15.kept (fun h => by first | exact h | (have := HZ1.out; have := HZ2.out; have := HCT.out; have := HZ4.out; have := HZ5.out; have := HZ6.out; have := HZ7.out; have := HZ8.out; have := HZ9.out; have := HZ10.out; have := HZ11.out; have := HZ12.out; have := HZ13.out; have := HZ14.out; have := HZ15.out; omega)))
    have Y18_4 := Lib.hid (blk_kept G9.out ht15.kept (fun h => by first | exact h | (have := HZ1.out; have := HZ2.out; have := HCT.out; have := HZ4.out; have := HZ5.out; have := HZ6.out; have := HZ7.out; have := HZ8.out; have := HZ9.out; have := HZ10.out; have := HZ11.out; have := HZ12.out; have := HZ13.out; have := HZ14.out; have := HZ15.out; omega)))
    have Y18_5 := Lib.hid (T_kept HY.out ht15.kept (fun k h1 h2 => by have := HZ1.out; have := HZ2.out; have := HCT.out; have := HZ4.out; have := HZ5.out; have := HZ6.out; have := HZ7.out; have := HZ8.out; have := HZ9.out; have := HZ10.out; have := HZ11.out; have := HZ12.out; have := HZ13.out; have := HZ14.out; have := HZ15.out; omega))
    have Y18_6 := Lib.hid (HG.out.tch ht15 (fun k h1 h2 h3 => by have := HZ1.out; have := HZ2.out; have := HCT.out; have := HZ4.out; have := HZ5.out; have := HZ6.out; have := HZ7.out; have := HZ8.out; have := HZ9.out; have := HZ10.out; have := HZ11.out; have := HZ12.out; have := HZ13.out; have := HZ14.out; have := HZ15.out; omega))
    have Y18_7 := Lib.hid (blk_kept G11.out ht15.kept (fun h => by first | exact h | (have := HZ1.out; have := HZ2.out; have := HCT.out; have := HZ4.out; have := HZ5.out; have := HZ6.out; have := HZ7.out; have := HZ8.out; have := HZ9.out; have := HZ10.out; have := HZ11.out; have := HZ12.out; have := HZ13.out; have := HZ14.out; have := HZ15.out; omega)))
    clear HB G0 HW G8 G9 HY HG G11
    have HB := Y18_0
    have G0 := Y18_1
    have HW := Y18_2
    have G8 := Y18_3
    have G9 := Y18_4
    have HY := Y18_5
    have HG := Y18_6
    have G11 := Y18_7
    clear Y18_0 Y18_1 Y18_2 Y18_3 Y18_4 Y18_5 Y18_6 Y18_7
    have HX := Lib.hid (hT)
    clear hT ht15
    go_wp2_with fail
    refine (mark_str l2 _ _ _ _ (by omega) (by have := HZ1.out; have := HZ2.out; have := HCT.out; have := HZ4.out; have := HZ5.out; have := HZ6.out; have := HZ7.out; have := HZ8.out; have := HZ9.out; have := HZ10.out; have := HZ11.out; have := HZ12.out; have := HZ13.out; have := HZ14.out; have := HZ15.out; omega) HY.out).mono ?_
    rintro e w16 ⟨rfl, hT, ht16⟩
    have HZ16 := Lib.hid (show w15.heap.size ≤ w16.heap.size from ht16.kept.1)
    clear HY HX
    have Y19_0 := Lib.hid (below_tch HB.out ht16 (fun k h => by have := HZ1.out; have := HZ2.out; have := HCT.out; have := HZ4.out; have := HZ5.out; have := HZ6.out; have := HZ7.out; have := HZ8.out; have := HZ9.out; have := HZ10.out; have := HZ11.out; have := HZ12.out; have := HZ13.out; have := HZ14.out; have := HZ15.out; have := HZ16.out; omega))
    have Y19_1 := Lib.hid (blk_kept G0.out ht16.kept (fun h => by first | exact h | (have := HZ1.out; have := HZ2.out; have := HCT.out; have := HZ4.out; have := HZ5.out; have := HZ6.out; have := HZ7.out; have := HZ8.out; have := HZ9.out; have := HZ10.out; have := HZ11.out; have := HZ12.out; have := HZ13.out; have := HZ14.out; have := HZ15.out; have := HZ16.out; omega)))
    have Y19_2 := Lib.hid (HW.out.tch ht16 (fun k h1 h2 h3 => by have := HZ1.out; have := HZ2.out; have := HCT.out; have := HZ4.out; have := HZ5.out; have := HZ6.out; have := HZ7.out; have := HZ8.out; have := HZ9.out; have := HZ10.out; have := HZ11.out; have := HZ12.out; have := HZ13.out; have := HZ14.out; have := HZ15.out; have := HZ16.out; omega))
    have Y19_3 := Lib.hid (blk_kept G8.out ht16.kept (fun h => by first | exact h | (have := HZ1.out; have := HZ2.out; have := HCT.out; have := HZ4.out; have := HZ5.out; have := HZ6.out; have := HZ7.out; have := HZ8.out; have := HZ9.out; have := HZ10.out; have := HZ11.out; have := HZ12.out; have := HZ13.out; have := HZ14.out; have := HZ15.out; have := HZ16.out; omega)))
    have Y19_4 := Lib.hid (blk_kept G9.out ht16.kept (fun h => by first | exact h | (have := HZ1.out; have := HZ2.out; have := HCT.out; have := HZ4.out; have := HZ5.out; have := HZ6.out; have := HZ7.out; have := HZ8.out; have := HZ9.out; have := HZ10.out; have := HZ11.out; have := HZ12.out; have := HZ13.out; have := HZ14.out; have := HZ15.out; have := HZ16.out; omega)))
    have Y19_5 := Lib.hid (HG.out.tch ht16 (fun k h1 h2 h3 => by have := HZ1.out; have := HZ2.out; have := HCT.out; have := HZ4.out; have := HZ5.out; have := HZ6.out; have := HZ7.out; have := HZ8.out; have := HZ9.out; have := HZ10.out; have := HZ11.out; have := HZ12.out; have := HZ13.out; have := HZ14.out; have := HZ15.out; have := HZ16.out; omega))
    have Y19_6 := Lib.hid (blk_kept G11.out ht16.kept (fun h => by first | exact h | (have := HZ1.out; have := HZ2.out; have := HCT.out; have := HZ4.out; have := HZ5.out; have := HZ6.out; have := HZ7.out; have := HZ8.out; have := HZ9.out; have := HZ10.out; have := HZ11.out; have := HZ12.out; have := HZ13.out; have := HZ14.out; have := HZ15.out; have := HZ16.out; omega)))
    clear HB G0 HW G8 G9 HG G11
    have HB := Y19_0
    have G0 := Y19_1
    have HW := Y19_2
    have G8 := Y19_3
    have G9 := Y19_4
    have HG := Y19_5
    have G11 := Y19_6
    clear Y19_0 Y19_1 Y19_2 Y19_3 Y19_4 Y19_5 Y19_6
    clear hT ht16
    have hneg : ¬ (1 + ((cWatS (cvWatS l0) : Nat) : Int) + ((cNewS (cvNewS l1) : Nat) : Int) + (l2.length : Int) < 0) := by omega
    have hxG11_0 := blk_cell G11.out 0
    have hxG11_1 := blk_cell G11.out 1
    have hxG8_0 := blk_cell G8.out 0
    have hxG8_1 := blk_cell G8.out 1
    simp only [List.getElem?_toArray, List.getElem?_cons_zero, List.getElem?_cons_succ] at hxG11_0 hxG11_1 hxG8_0 hxG8_1
    go_wp2_with fail
    clear hxG11_0 hxG11_1 hxG8_0 hxG8_1
    refine (eq_hubTR HG.out HW.out HSW.out HSN2.out).mono ?_
    rintro e w17 ⟨rfl, hs17⟩
    have HZ17 := Lib.hid (show w16.heap.size ≤ w17.heap.size from by have := hs17.size; (try simp only [World.size_alloc] at this); omega)
    have Y20_0 := Lib.hid (below_then HB.out HB.out.size hs17)
    have Y20_1 := Lib.hid (blk_below G0.out hs17)
    have Y20_2 := Lib.hid (HW.out.below hs17)
    have Y20_3 := Lib.hid (blk_below G8.out hs17)
    have Y20_4 := Lib.hid (blk_below G9.out hs17)
    have Y20_5 := Lib.hid (HG.out.below hs17)
    have Y20_6 := Lib.hid (blk_below G11.out hs17)
    clear HB G0 HW G8 G9 HG G11
    have HB := Y20_0
    have G0 := Y20_1
    have HW := Y20_2
    have G8 := Y20_3
    have G9 := Y20_4
    have HG := Y20_5
    have G11 := Y20_6
    clear Y20_0 Y20_1 Y20_2 Y20_3 Y20_4 Y20_5 Y20_6
    clear hs17
    clear hneg
    have hc2 := cNewS_snoc (cvNewS l1) ⟨ver, l2⟩
    have hc3 : cNew (⟨ver, l2⟩ : S53) = 1 + l2.length := rfl
    have HCT2 := Lib.hid (show cWatS (cvWatS l0) + cNewS (cvNewS l1 ++ [(⟨ver, l2⟩ : S53)]) ≤ 33554433 from by have := HCT.out; omega)
    have HZpad := HCT2
    clear hc2 hc3 HZpad
    have hxG11_0 := blk_cell G11.out 0
    have hxG11_1 := blk_cell G11.out 1
    simp only [List.getElem?_toArray, List.getElem?_cons_zero, List.getElem?_cons_succ] at hxG11_0 hxG11_1
    go_wp2_with fail
    clear hxG11_0 hxG11_1
    refine (mark_hub _ _ 1 _ _ _ _ _ (by omega) (by have := HZ1.out; have := HZ2.out; have := HCT.out; have := HZ4.out; have := HZ5.out; have := HZ6.out; have := HZ7.out; have := HZ8.out; have := HZ9.out; have := HZ10.out; have := HZ11.out; have := HZ12.out; have := HZ13.out; have := HZ14.out; have := HZ15.out; have := HZ16.out; have := HZ17.out; have := HCT2.out; omega) HG.out (by have := HZ1.out; have := HZ2.out; have := HCT.out; have := HZ4.out; have := HZ5.out; have := HZ6.out; have := HZ7.out; have := HZ8.out; have := HZ9.out; have := HZ10.out; have := HZ11.out; have := HZ12.out; have := HZ13.out; have := HZ14.out; have := HZ15.out; have := HZ16.out; have := HZ17.out; have := HCT2.out; omega)).mono ?_
    rintro e w19 ⟨rfl, hT, ht19⟩
    have HZ19 := Lib.hid (show w17.heap.size ≤ w19.heap.size from ht19.kept.1)
    clear HG
    have Y21_0 := Lib.hid (below_tch HB.out ht19 (fun k h => by have := HZ1.out; have := HZ2.out; have := HCT.out; have := HZ4.out; have := HZ5.out; have := HZ6.out; have := HZ7.out; have := HZ8.out; have := HZ9.out; have := HZ10.out; have := HZ11.out; have := HZ12.out; have := HZ13.out; have := HZ14.out; have := HZ15.out; have := HZ16.out; have := HZ17.out; have := HCT2.out; have := HZ19.out; omega))
    have Y21_1 := Lib.hid (blk_kept G0.out ht19.kept (fun h => by first | exact h | (have := HZ1.out; have := HZ2.out; have := HCT.out; have := HZ4.out; have := HZ5.out; have := HZ6.out; have := HZ7.out; have := HZ8.out; have := HZ9.out; have := HZ10.out; have := HZ11.out; have := HZ12.out; have := HZ13.out; have := HZ14.out; have := HZ15.out; have := HZ16.out; have := HZ17.out; have := HCT2.out; have := HZ19.out; omega)))
    have Y21_2 := Lib.hid (HW.out.tch ht19 (fun k h1 h2 h3 => by have := HZ1.out; have := HZ2.out; have := HCT.out; have := HZ4.out; have := HZ5.out; have := HZ6.out; have := HZ7.out; have := HZ8.out; have := HZ9.out; have := HZ10.out; have := HZ11.out; have := HZ12.out; have := HZ13.out; have := HZ14.out; have := HZ15.out; have := HZ16.out; have := HZ17.out; have := HCT2.out; have := HZ19.out; omega))
    have Y21_3 := Lib.hid (blk_kept G8.out ht19.kept (fun h => by first | exact h | (have := HZ1.out; have := HZ2.out; have := HCT.out; have := HZ4.out; have := HZ5.out; have := HZ6.out; have := HZ7.out; have := HZ8.out; have := HZ9.out; have := HZ10.out; have := HZ11.out; have := HZ12.out; have := HZ13.out; have := HZ14.out; have := HZ15.out; have := HZ16.out; have := HZ17.out; have := HCT2.out; have := HZ19.out; omega)))
    have Y21_4 := Lib.hid (blk_kept G9.out ht19.kept (fun h => by first | exact h | (have := HZ1.out; have := HZ2.out; have := HCT.out; have := HZ4.out; have := HZ5.out; have := HZ6.out; have := HZ7.out; have := HZ8.out; have := HZ9.out; have := HZ10.out; have := HZ11.out; have := HZ12.out; have := HZ13.out; have := HZ14.out; have := HZ15.out; have := HZ16.out; have := HZ17.out; have := HCT2.out; have := HZ19.out; omega)))
    have Y21_5 := Lib.hid (blk_kept G11.out ht19.kept (fun h => by first | exact h | (have := HZ1.out; have := HZ2.out; have := HCT.out; have := HZ4.out; have := HZ5.out; have := HZ6.out; have := HZ7.out; have := HZ8.out; have := HZ9.out; have := HZ10.out; have := HZ11.out; have := HZ12.out; have := HZ13.out; have := HZ14.out; have := HZ15.out; have := HZ16.out; have := HZ17.out; have := HCT2.out; have := HZ19.out; omega)))
    clear HB G0 HW G8 G9 G11
    have HB := Y21_0
    have G0 := Y21_1
    have HW := Y21_2
    have G8 := Y21_3
    have G9 := Y21_4
    have G11 := Y21_5
    clear Y21_0 Y21_1 Y21_2 Y21_3 Y21_4 Y21_5
    have HG := Lib.hid (hT)
    clear hT ht19
    have hxG11_0 := blk_cell G11.out 0
    have hxG11_1 := blk_cell G11.out 1
    simp only [List.getElem?_toArray, List.getElem?_cons_zero, List.getElem?_cons_succ] at hxG11_0 hxG11_1
    go_wp2_with fail
    clear hxG11_0 hxG11_1
    refine (held_hub HG.out (by omega) (by have := HZ1.out; have := HZ2.out; have := HCT.out; have := HZ4.out; have := HZ5.out; have := HZ6.out; have := HZ7.out; have := HZ8.out; have := HZ9.out; have := HZ10.out; have := HZ11.out; have := HZ12.out; have := HZ13.out; have := HZ14.out; have := HZ15.out; have := HZ16.out; have := HZ17.out; have := HCT2.out; have := HZ19.out; omega)).mono ?_
    rintro e w20 ⟨rfl, hs20⟩
    have HZ20 := Lib.hid (show w19.heap.size ≤ w20.heap.size from by have := hs20.size; (try simp only [World.size_alloc] at this); omega)
    have Y22_0 := Lib.hid (below_then HB.out HB.out.size hs20)
    have Y22_1 := Lib.hid (blk_below G0.out hs20)
    have Y22_2 := Lib.hid (HW.out.below hs20)
    have Y22_3 := Lib.hid (blk_below G8.out hs20)
    have Y22_4 := Lib.hid (blk_below G9.out hs20)
    have Y22_5 := Lib.hid (blk_below G11.out hs20)
    have Y22_6 := Lib.hid (HG.out.below hs20)
    clear HB G0 HW G8 G9 G11 HG
    have HB := Y22_0
    have G0 := Y22_1
    have HW := Y22_2
    have G8 := Y22_3
    have G9 := Y22_4
    have G11 := Y22_5
    have HG := Y22_6
    clear Y22_0 Y22_1 Y22_2 Y22_3 Y22_4 Y22_5 Y22_6
    clear hs20
    have hneg : ¬ (1 + ((cWatS (cvWatS l0) : Nat) : Int) + ((cNewS (cvNewS l1 ++ [(⟨ver, l2⟩ : S53)]) : Nat) : Int) < 0) := by omega
    have hxG0_0 := blk_cell G0.out 0
    have hxG0_1 := blk_cell G0.out 1
    simp only [List.getElem?_toArray, List.getElem?_cons_zero, List.getElem?_cons_succ] at hxG0_0 hxG0_1
    go_wp2_with fail
    clear hxG0_0 hxG0_1
    clear hneg
    refine (to_hub l0 l1 A0 A1 c0 c1 w _ HR0.out HC0.out HR1.out HC1.out HB.out HOW.out HON.out).mono ?_
    rintro e w21 ⟨v210, v211, rfl, hT, hs21⟩
    obtain ⟨B210, d210, B211, d211, rfl, rfl, _, _, _, _⟩ := hT.reads
    have hT' : HubT w21 (w20.heap.size) w21.heap.size (.slice B210 (cvWatS l0).length d210) (.slice B211 (cvNewS l1).length d211) (cvWatS l0) (cvNewS l1) := by have h := hT; (try simp only [World.size_alloc] at h); exact h
    clear hT
    have HZ21 := Lib.hid (show w20.heap.size ≤ w21.heap.size from by have := hs21.size; (try simp only [World.size_alloc] at this); omega)
    have Y23_0 := Lib.hid (below_then HB.out HB.out.size hs21)
    have Y23_1 := Lib.hid (blk_below G0.out hs21)
    have Y23_2 := Lib.hid (HW.out.below hs21)
    have Y23_3 := Lib.hid (blk_below G8.out hs21)
    have Y23_4 := Lib.hid (blk_below G9.out hs21)
    have Y23_5 := Lib.hid (blk_below G11.out hs21)
    have Y23_6 := Lib.hid (HG.out.below hs21)
    clear HB G0 HW G8 G9 G11 HG
    have HB := Y23_0
    have G0 := Y23_1
    have HW := Y23_2
    have G8 := Y23_3
    have G9 := Y23_4
    have G11 := Y23_5
    have HG := Y23_6
    clear Y23_0 Y23_1 Y23_2 Y23_3 Y23_4 Y23_5 Y23_6
    have HX := Lib.hid (hT')
    clear hs21 hT'
    go_wp2_with fail
    refine (to_str l2 A2 c2 w _ HR2.out HB.out HOS.out).mono ?_
    rintro e w22 ⟨v22, rfl, hT, hs22⟩
    obtain ⟨B22, d22, rfl, _⟩ := T_slice hT
    have hT' : T Kd.string 9 w22 0 (fun k => w21.heap.size ≤ k ∧ k < w22.heap.size) (.slice B22 l2.length d22) l2 := T_mono (T_now hT) (fun k hk => ⟨by have h := hk.1; (try simp only [World.size_alloc] at h); exact h, hk.2.2⟩)
    clear hT
    have HZ22 := Lib.hid (show w21.heap.size ≤ w22.heap.size from by have := hs22.size; (try simp only [World.size_alloc] at this); omega)
    have Y24_0 := Lib.hid (below_then HB.out HB.out.size hs22)
    have Y24_1 := Lib.hid (blk_below G0.out hs22)
    have Y24_2 := Lib.hid (HW.out.below hs22)
    have Y24_3 := Lib.hid (blk_below G8.out hs22)
    have Y24_4 := Lib.hid (blk_below G9.out hs22)
    have Y24_5 := Lib.hid (blk_below G11.out hs22)
    have Y24_6 := Lib.hid (HG.out.below hs22)
    have Y24_7 := Lib.hid (HX.out.below hs22)
    clear HB G0 HW G8 G9 G11 HG HX
    have HB := Y24_0
    have G0 := Y24_1
    have HW := Y24_2
    have G8 := Y24_3
    have G9 := Y24_4
    have G11 := Y24_5
    have HG := Y24_6
    have HX := Y24_7
    clear Y24_0 Y24_1 Y24_2 Y24_3 Y24_4 Y24_5 Y24_6 Y24_7
    have HY := Lib.hid (hT')
    clear hs22 hT'
    go_wp2_with fail
    refine (publish (cvWatS l0) (cvNewS l1) ver l2 _ _ _ _ _ _ _ _ HX.out.reads'.2.2.1 HX.out.reads'.1 HX.out.reads'.2.2.2 HX.out.reads'.2.1 (T_reads' HY.out).2.2 (T_reads' HY.out).2.1 (Below.refl _ _) HFW.out HFN.out HOS.out).mono ?_
    rintro e w23 ⟨v230, v231, m, rfl, hS0, hS1, hs23, hm0, hm1⟩
    have hT := HubT.of_S hS0 hS1 hm0 hm1
    obtain ⟨B230, d230, B231, d231, rfl, rfl, _, _, _, _⟩ := hT.reads
    have hT' : HubT w23 (w22.heap.size) w23.heap.size (.slice B230 (cvWatS l0).length d230) (.slice B231 ((cvNewS l1).length + 1) d231) (cvWatS l0) (cvNewS l1 ++ [(⟨ver, l2⟩ : S53)]) := by have h := hT; (try simp only [World.size_alloc] at h); rw [HLEN.out] at h; exact h
    clear hT hS0 hS1 hm0 hm1
    have HZ23 := Lib.hid (show w22.heap.size ≤ w23.heap.size from by have := hs23.size; (try simp only [World.size_alloc] at this); omega)
    have Y25_0 := Lib.hid (below_then HB.out HB.out.size hs23)
    have Y25_1 := Lib.hid (blk_below G0.out hs23)
    have Y25_2 := Lib.hid (HW.out.below hs23)
    have Y25_3 := Lib.hid (blk_below G8.out hs23)
    have Y25_4 := Lib.hid (blk_below G9.out hs23)
    have Y25_5 := Lib.hid (blk_below G11.out hs23)
    have Y25_6 := Lib.hid (HG.out.below hs23)
    have Y25_7 := Lib.hid (HX.out.below hs23)
    have Y25_8 := Lib.hid (T_below HY.out hs23)
    clear HB G0 HW G8 G9 G11 HG HX HY
    have HB := Y25_0
    have G0 := Y25_1
    have HW := Y25_2
    have G8 := Y25_3
    have G9 := Y25_4
    have G11 := Y25_5
    have HG := Y25_6
    have HX := Y25_7
    have HY := Y25_8
    clear Y25_0 Y25_1 Y25_2 Y25_3 Y25_4 Y25_5 Y25_6 Y25_7 Y25_8
    have HP := Lib.hid (hT')
    clear hs23 hT'
    clear HX HY
    have hxG8_0 := blk_cell (blk_alloc G8.out (.cells #[.slice B230 (cvWatS l0).length d230, .slice B231 ((cvNewS l1).length + 1) d231] 32)) 0
    have hxG8_1 := blk_cell (blk_alloc G8.out (.cells #[.slice B230 (cvWatS l0).length d230, .slice B231 ((cvNewS l1).length + 1) d231] 32)) 1
    simp only [List.getElem?_toArray, List.getElem?_cons_zero, List.getElem?_cons_succ] at hxG8_0 hxG8_1
    go_wp2_with fail
    clear hxG8_0 hxG8_1
    have Y26_0 := Lib.hid (below_alloc HB.out (.cells #[.slice B230 (cvWatS l0).length d230, .slice B231 ((cvNewS l1).length + 1) d231] 32))
    have Y26_1 := Lib.hid (blk_alloc G0.out (.cells #[.slice B230 (cvWatS l0).length d230, .slice B231 ((cvNewS l1).length + 1) d231] 32))
    have Y26_2 := Lib.hid (HW.out.below (below_alloc (Below.refl _ _) (.cells #[.slice B230 (cvWatS l0).length d230, .slice B231 ((cvNewS l1).length + 1) d231] 32)))
    have Y26_3 := Lib.hid (blk_alloc G8.out (.cells #[.slice B230 (cvWatS l0).length d230, .slice B231 ((cvNewS l1).length + 1) d231] 32))
    have Y26_4 := Lib.hid (blk_alloc G9.out (.cells #[.slice B230 (cvWatS l0).length d230, .slice B231 ((cvNewS l1).length + 1) d231] 32))
    have Y26_5 := Lib.hid (blk_alloc G11.out (.cells #[.slice B230 (cvWatS l0).length d230, .slice B231 ((cvNewS l1).length + 1) d231] 32))
    have Y26_6 := Lib.hid (HG.out.below (below_alloc (Below.refl _ _) (.cells #[.slice B230 (cvWatS l0).length d230, .slice B231 ((cvNewS l1).length + 1) d231] 32)))
    have Y26_7 := Lib.hid (HP.out.below (below_alloc (Below.refl _ _) (.cells #[.slice B230 (cvWatS l0).length d230, .slice B231 ((cvNewS l1).length + 1) d231] 32)))
    clear HB G0 HW G8 G9 G11 HG HP
    have HB := Y26_0
    have G0 := Y26_1
    have HW := Y26_2
    have G8 := Y26_3
    have G9 := Y26_4
    have G11 := Y26_5
    have HG := Y26_6
    have HP := Y26_7
    clear Y26_0 Y26_1 Y26_2 Y26_3 Y26_4 Y26_5 Y26_6 Y26_7
    refine (eq_hubTR HP.out HW.out HSW.out HSN2.out).mono ?_
    rintro e w24 ⟨rfl, hs24⟩
    have HZ24 := Lib.hid (show w23.heap.size + 1 ≤ w24.heap.size from by have := hs24.size; (try simp only [World.size_alloc] at this); omega)
    have Y27_0 := Lib.hid (below_then HB.out HB.out.size hs24)
    have Y27_1 := Lib.hid (blk_below G0.out hs24)
    have Y27_2 := Lib.hid (HW.out.below hs24)
    have Y27_3 := Lib.hid (blk_below G8.out hs24)
    have Y27_4 := Lib.hid (blk_below G9.out hs24)
    have Y27_5 := Lib.hid (blk_below G11.out hs24)
    have Y27_6 := Lib.hid (HG.out.below hs24)
    have Y27_7 := Lib.hid (HP.out.below hs24)
    clear HB G0 HW G8 G9 G11 HG HP
    have HB := Y27_0
    have G0 := Y27_1
    have HW := Y27_2
    have G8 := Y27_3
    have G9 := Y27_4
    have G11 := Y27_5
    have HG := Y27_6
    have HP := Y27_7
    clear Y27_0 Y27_1 Y27_2 Y27_3 Y27_4 Y27_5 Y27_6 Y27_7
    clear hs24
    clear HP
    have hxG11_0 := blk_cell G11.out 0
    have hxG11_1 := blk_cell G11.out 1
    simp only [List.getElem?_toArray, List.getElem?_cons_zero, List.getElem?_cons_succ] at hxG11_0 hxG11_1
    go_wp2_with fail
    clear hxG11_0 hxG11_1
    refine (held_hub HG.out (by omega) (by have := HZ1.out; have := HZ2.out; have := HCT.out; have := HZ4.out; have := HZ5.out; have := HZ6.out; have := HZ7.out; have := HZ8.out; have := HZ9.out; have := HZ10.out; have := HZ11.out; have := HZ12.out; have := HZ13.out; have := HZ14.out; have := HZ15.out; have := HZ16.out; have := HZ17.out; have := HCT2.out; have := HZ19.out; have := HZ20.out; have := HZ21.out; have := HZ22.out; have := HZ23.out; have := HZ24.out; omega)).mono ?_
    rintro e w25 ⟨rfl, hs25⟩
    have HZ25 := Lib.hid (show w24.heap.size ≤ w25.heap.size from by have := hs25.size; (try simp only [World.size_alloc] at this); omega)
    have Y28_0 := Lib.hid (below_then HB.out HB.out.size hs25)
    have Y28_1 := Lib.hid (blk_below G0.out hs25)
    have Y28_2 := Lib.hid (HW.out.below hs25)
    have Y28_3 := Lib.hid (blk_below G8.out hs25)
    have Y28_4 := Lib.hid (blk_below G9.out hs25)
    have Y28_5 := Lib.hid (blk_below G11.out hs25)
    have Y28_6 := Lib.hid (HG.out.below hs25)
    clear HB G0 HW G8 G9 G11 HG
    have HB := Y28_0
    have G0 := Y28_1
    have HW := Y28_2
    have G8 := Y28_3
    have G9 := Y28_4
    have G11 := Y28_5
    have HG := Y28_6
    clear Y28_0 Y28_1 Y28_2 Y28_3 Y28_4 Y28_5 Y28_6
    clear hs25
    have hneg : ¬ (1 + ((cWatS (cvWatS l0) : Nat) : Int) + ((cNewS (cvNewS l1 ++ [(⟨ver, l2⟩ : S53)]) : Nat) : Int) < 0) := by omega
    go_wp2_with fail
    go_ret
    exact ⟨rfl, HB.out⟩
end Go.Proofs.Ytmphkhkbegihaaa.HubLaw
