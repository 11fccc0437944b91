/- spec.Take: its contract by hand. -/
import Derived.Test.YtmphkhkbegihaaaTake
import Derived.Test.YtmphkhkbegihaaaSpecC
namespace Go.Proofs.Ytmphkhkbegihaaa.HubLaw
open Go Go.RowKit Go.Proofs.Ytmphkhkbegihaaa.PHub Go.Proofs.YtmphkhkbegihaaaW.PrintWords Go.Proofs.Ytmphkhkbegihaaa.Tree Go.Proofs.Ytmphkhkbegihaaa.Mark Go.Proofs.Ytmphkhkbegihaaa.To Go.Proofs.Ytmphkhkbegihaaa.Copy Go.Proofs.Ytmphkhkbegihaaa.Plain Go.Proofs.Ytmphkhkbegihaaa.SpecP Go.Proofs.Ytmphkhkbegihaaa.Open Go.Proofs.Ytmphkhkbegihaaa.Find Go.Proofs.Ytmphkhkbegihaaa.Ring
set_option linter.unusedVariables false
set_option linter.unusedSimpArgs false

set_option maxRecDepth 100000 in
set_option maxHeartbeats 8000000 in
theorem spec_take (ws : List S65) (ns : List S53) (client : Int) (A0 A1 : Option Addr) (c0 c1 : Nat) (w : World) (hr0 : Kd.C k65 w A0 ws.length ws) (hc0 : ws.length ≤ c0) (hr1 : Kd.C k53 w A1 ns.length ns) (hc1 : ns.length ≤ c1) (hfw : fitWatS ws) (hfn : fitNewS ns) :
    Calls Try.prog 19 #[.agg #[.slice A0 ws.length c0, .slice A1 ns.length c1], .int .i64 client] w fun e w' => ∃ v0 v1 u1, e = .returned (.tuple #[.agg #[v0, v1], .agg #[.int .i64 (tk client ws).2.1.f0, u1, .bool (tk client ws).2.1.f2], .int .i64 (tk client ws).2.2]) ∧ HubN w' w.heap.size w'.heap.size v0 v1 u1 (tk client ws).1 ns (tk client ws).2.1.f1 ∧ Below w.heap.size w w' := by
  obtain ⟨R, hR⟩ : ∃ R, R = tk client ws := ⟨_, rfl⟩
  rw [← hR]
  have HR := Lib.hid hR
  have HR0 := Lib.hid hr0
  have HR1 := Lib.hid hr1
  have HC0 := Lib.hid hc0
  have HC1 := Lib.hid hc1
  have HFW := Lib.hid hfw
  have HFN := Lib.hid hfn
  obtain ⟨kf, ef⟩ := (find_ev ws ns hfw client).rounds
  obtain ⟨kc, ec⟩ := (copy_id ws ns hfw hfn).rounds
  have HEF := Lib.hid ef
  have HEC := Lib.hid ec
  clear hr0 hr1 hc0 hc1 hfw hfn hR ef ec
  go_enter Try.func19, Try.ntmps19
  go_wp2_with fail
  have HB := Lib.hid (show Below w.heap.size w (((w.alloc (.cells #[.slice A0 ws.length c0, .slice A1 ns.length c1] 32)).alloc (.cells #[.slice none 0 0, .slice none 0 0] 32)).alloc (.cells #[.int .i64 0, .slice none 0 0, .bool false] 44)) from below_alloc (below_alloc (below_alloc (Below.refl _ _) _) _) _)
  refine (spec_l5Find.calls kf _ _ _ _ _ _ client _ _ (Kd.C_below HR0.out HB.out) HC0.out (Kd.C_below HR1.out HB.out) HC1.out HEF.out).mono ?_
  rintro e w1 ⟨rfl, hb1⟩
  have HB1 := Lib.hid (below_then HB.out HB.out.size hb1)
  have HG5 := Lib.hid (blk_below (by have := heap_alloc_new ((w.alloc (.cells #[.slice A0 ws.length c0, .slice A1 ns.length c1] 32)).alloc (.cells #[.slice none 0 0, .slice none 0 0] 32)) (.cells #[.int .i64 0, .slice none 0 0, .bool false] 44); rwa [World.size_alloc, World.size_alloc] at this : (((w.alloc (.cells #[.slice A0 ws.length c0, .slice A1 ns.length c1] 32)).alloc (.cells #[.slice none 0 0, .slice none 0 0] 32)).alloc (.cells #[.int .i64 0, .slice none 0 0, .bool false] 44)).heap[w.heap.size + 1 + 1]? = some (.cells #[.int .i64 0, .slice none 0 0, .bool false] 44 (0, 0))) hb1)
  have HG4 := Lib.hid (blk_below (blk_alloc (by have := heap_alloc_new (w.alloc (.cells #[.slice A0 ws.length c0, .slice A1 ns.length c1] 32)) (.cells #[.slice none 0 0, .slice none 0 0] 32); rwa [World.size_alloc] at this : ((w.alloc (.cells #[.slice A0 ws.length c0, .slice A1 ns.length c1] 32)).alloc (.cells #[.slice none 0 0, .slice none 0 0] 32)).heap[w.heap.size + 1]? = some (.cells #[.slice none 0 0, .slice none 0 0] 32 (0, 0))) (.cells #[.int .i64 0, .slice none 0 0, .bool false] 44)) hb1)
  have HG2 := Lib.hid (blk_below (blk_alloc (blk_alloc (heap_alloc_new w (.cells #[.slice A0 ws.length c0, .slice A1 ns.length c1] 32)) (.cells #[.slice none 0 0, .slice none 0 0] 32)) (.cells #[.int .i64 0, .slice none 0 0, .bool false] 44)) hb1)
  have HZ1 := Lib.hid (show w.heap.size + 3 ≤ w1.heap.size by have := hb1.size; simp at this; omega)
  clear hb1 HB
  have hx0 := blk_cell HG2.out 0
  have hx1 := blk_cell HG2.out 1
  simp only [List.getElem?_toArray, List.getElem?_cons_zero, List.getElem?_cons_succ] at hx0 hx1
  go_wp2_with fail
  refine (spec_l5Copy.calls kc _ _ _ _ _ _ (-1) 0 _ _ _ (Kd.C_below HR0.out HB1.out) HC0.out (Kd.C_below HR1.out HB1.out) HC1.out HEC.out).mono ?_
  rintro e w2 ⟨v0, v1, rfl, hS0, hS1, hb2⟩
  obtain ⟨AW, cW, rfl⟩ := Kd.R_slice hS0
  obtain ⟨AN, cN, rfl⟩ := Kd.S_slice hS1
  have HG42 := Lib.hid (blk_below HG4.out hb2)
  have HG52 := Lib.hid (blk_below HG5.out hb2)
  have HG22 := Lib.hid (blk_below HG2.out hb2)
  have HB2 := Lib.hid (below_then HB1.out HB1.out.size hb2)
  have HZ2 := Lib.hid hb2.size
  have HS0 := Lib.hid (Kd.R_mono (Kd.R_bound hS0) (ok' := fun k => w1.heap.size ≤ k ∧ k < w2.heap.size) (fun k hk => ⟨hk.2.1, hk.2.2.1⟩))
  have HS1 := Lib.hid (Kd.R_mono (Kd.R_bound (Kd.S_R hS1)) (ok' := fun k => w1.heap.size ≤ k ∧ k < w2.heap.size) (fun k hk => ⟨hk.2.1, hk.2.2.1⟩))
  clear hb2 hS0 hS1 HG4 HG5 HG2 hx0 hx1 HB1
  -- the ways that leave the hub as it is
  have hsame : ∀ w', Tch w2 w' (fun k => (w.heap.size ≤ k ∧ k < w.heap.size + 3) ∨ w2.heap.size ≤ k) → HubN w' w.heap.size w'.heap.size (.slice AW ws.length cW) (.slice AN ns.length cN) (.slice none 0 0) ws ns [] ∧ Below w.heap.size w w' := by
    intro w' ht
    have hsz := ht.kept.1
    have hz1 := HZ1.out
    refine ⟨⟨⟨Kd.R_mono (Kd.R_lower (Kd.R_kept HS0.out ht.kept (fun k hk h => by omega)) (Nat.zero_le _)) (fun k hk => ⟨by omega, by omega⟩), Kd.R_mono (Kd.R_lower (Kd.R_kept HS1.out ht.kept (fun k hk h => by omega)) (Nat.zero_le _)) (fun k hk => ⟨by omega, by omega⟩)⟩, Kd.R_nil _ _ _ _ _⟩, ?_⟩
    exact below_tch HB2.out ht (fun k hk => by have := HZ2.out; rcases hk with hk | hk <;> omega)
  have HSM := Lib.hid hsame
  clear hsame
  rcases fnd_cases client ws 0 with hf | ⟨j, hj, hf⟩
  · have HF := Lib.hid hf
    have hneg : fnd client 0 ws < 0 := by omega
    rw [HF.out]
    have hRR : R = (ws, ⟨0, [], false⟩, 1) := HR.out.trans (tk_no hneg)
    subst hRR
    clear hf hneg
    have hy0 := blk_cell HG42.out 0
    have hy1 := blk_cell HG42.out 1
    have hz0 := blk_cell HG52.out 0
    have hz1 := blk_cell HG52.out 1
    have hz2 := blk_cell HG52.out 2
    have hg0 := blk_frozen HG42.out 0
    have hg1 := blk_frozen HG42.out 1
    have hh0 := blk_frozen HG52.out 0
    have hh1 := blk_frozen HG52.out 1
    have hh2 := blk_frozen HG52.out 2
    have hl4 := blk_lt HG42.out
    have hl5 := blk_lt HG52.out
    simp only [List.getElem?_toArray, List.getElem?_cons_zero, List.getElem?_cons_succ] at hy0 hy1 hz0 hz1 hz2
    go_wp2_with fail
    refine bodyPost_ret (v := .tuple #[.agg #[.slice AW ws.length cW, .slice AN ns.length cN], .agg #[.int .i64 0, .slice none 0 0, .bool false], .int .i64 1]) (by simp [results, Try.results19, go_sem, hy0, hy1, hz0, hz1, hz2, hl4, hl5]) rfl ⟨_, _, _, rfl, HSM.out _ ?_⟩
    repeat (first | with_reducible exact Tch.refl _ _ | with_reducible apply Tch.drew | with_reducible refine Tch.setCell ?_ (.inl (by simp <;> omega)) _ | with_reducible refine Tch.below ?_ (below_alloc (Below.refl _ _) _))
  · have hf2 : fnd client 0 ws = (j : Int) := by rw [hf]; simp
    have HF := Lib.hid hf2
    rw [HF.out]
    have hrd : rd_T65 ws (j : Int) = ws[j] := by simp [rd_T65, List.getD_eq_getElem?_getD, List.getElem?_eq_getElem hj]
    obtain ⟨x, hxx⟩ : ∃ x, ws[j] = x := ⟨_, rfl⟩
    have hx : ws[j]? = some x := by rw [List.getElem?_eq_getElem hj, hxx]
    have HX := Lib.hid hx
    rw [hxx] at hrd
    have hmj : ws.length ≤ 4194304 := HFW.out.1
    have hj0 : ¬ ((j : Int) < 0) := by omega
    obtain ⟨ad, A5, c5, had, hw0, hw1, hw2, hw3, hw4, hw5, hl5, hr5⟩ := at_T65 HR0.out (j : Int) (by omega) (by omega)
    subst had
    rw [Int.toNat_natCast] at hw0 hw1 hw2 hw3 hw4 hw5
    rw [hrd] at hw0 hw1 hw2 hw3 hw4 hw5 hl5 hr5
    have hadl0 : ad.block < w.heap.size := Kd.C_lt HR0.out (by omega) (by decide)
    have hadl : (ad.add (j * 6)).block < w.heap.size := by rw [add_block]; exact hadl0
    have hB8 := below_alloc HB2.out (.cells #[.slice AW ws.length cW, .slice AN ns.length cN] 32)
    have HR5 := Lib.hid hr5
    have HL5 := Lib.hid hl5
    replace hw0 := (hB8.cell (p := ad.add (j * 6)) hadl).trans hw0
    replace hw1 := (hB8.cell (p := ⟨(ad.add (j * 6)).block, (ad.add (j * 6)).off + 1, none⟩) hadl).trans hw1
    replace hw2 := (hB8.cell (p := ⟨(ad.add (j * 6)).block, (ad.add (j * 6)).off + 2, none⟩) hadl).trans hw2
    replace hw3 := (hB8.cell (p := ⟨(ad.add (j * 6)).block, (ad.add (j * 6)).off + 3, none⟩) hadl).trans hw3
    replace hw4 := (hB8.cell (p := ⟨(ad.add (j * 6)).block, (ad.add (j * 6)).off + 4, none⟩) hadl).trans hw4
    replace hw5 := (hB8.cell (p := ⟨(ad.add (j * 6)).block, (ad.add (j * 6)).off + 5, none⟩) hadl).trans hw5
    clear hf hf2 hx hxx hrd hr5 hl5 hB8
    have hx0 := blk_cell HG22.out 0
    simp only [List.getElem?_toArray, List.getElem?_cons_zero, List.getElem?_cons_succ] at hx0
    have hl2 := blk_lt HG22.out
    cases h5 : x.f5 with
    | nil =>
      have hRR : R = (ws, ⟨0, [], false⟩, if x.f4 then 3 else 2) := HR.out.trans (tk_nil HF.out HX.out h5)
      subst hRR
      rw [h5] at hw5
      simp only [List.length_nil] at hw5
      clear h5
      have hy0 := blk_cell HG42.out 0
      have hy1 := blk_cell HG42.out 1
      have hz0 := blk_cell HG52.out 0
      have hz1 := blk_cell HG52.out 1
      have hz2 := blk_cell HG52.out 2
      have hg0 := blk_frozen HG42.out 0
      have hg1 := blk_frozen HG42.out 1
      have hh0 := blk_frozen HG52.out 0
      have hh1 := blk_frozen HG52.out 1
      have hh2 := blk_frozen HG52.out 2
      have hl4 := blk_lt HG42.out
      have hl5 := blk_lt HG52.out
      simp only [List.getElem?_toArray, List.getElem?_cons_zero, List.getElem?_cons_succ] at hy0 hy1 hz0 hz1 hz2
      cases h4 : x.f4
      all_goals
        rw [h4] at hw4
        go_wp2_with fail
      · refine bodyPost_ret (v := .tuple #[.agg #[.slice AW ws.length cW, .slice AN ns.length cN], .agg #[.int .i64 0, .slice none 0 0, .bool false], .int .i64 2]) (by simp [results, Try.results19, go_sem, hy0, hy1, hz0, hz1, hz2, hl2, hl4, hl5]) rfl ⟨_, _, _, rfl, HSM.out _ ?_⟩
        repeat (first | with_reducible exact Tch.refl _ _ | with_reducible apply Tch.drew | with_reducible refine Tch.setCell ?_ (.inl (by simp <;> omega)) _ | with_reducible refine Tch.below ?_ (below_alloc (Below.refl _ _) _))
      · refine bodyPost_ret (v := .tuple #[.agg #[.slice AW ws.length cW, .slice AN ns.length cN], .agg #[.int .i64 0, .slice none 0 0, .bool false], .int .i64 3]) (by simp [results, Try.results19, go_sem, hy0, hy1, hz0, hz1, hz2, hl2, hl4, hl5]) rfl ⟨_, _, _, rfl, HSM.out _ ?_⟩
        repeat (first | with_reducible exact Tch.refl _ _ | with_reducible apply Tch.drew | with_reducible refine Tch.setCell ?_ (.inl (by simp <;> omega)) _ | with_reducible refine Tch.below ?_ (below_alloc (Below.refl _ _) _))
    | cons y t =>
      have hRR : R = (ws.set j ⟨x.f0, x.f1, x.f2, x.f3, x.f4, t⟩, y, if y.f2 then 4 else 0) := HR.out.trans (tk_cons HF.out HX.out h5)
      subst hRR
      have H5 := Lib.hid h5
      have hn5 : ((x.f5.length : Int) == 0) = false := by rw [h5]; simp; omega
      have hn5' : 0 < x.f5.length := by rw [h5]; simp
      have hfx := HFW.out.2 x (List.mem_of_getElem? HX.out)
      have HFX := Lib.hid hfx
      clear h5 hfx
      obtain ⟨kw, ew⟩ := (watch_drop x HFX.out 1 (by rw [H5.out]; simp)).rounds
      have hdr : x.f5.drop 1 = t := by rw [H5.out]; rfl
      rw [hdr] at ew
      have HEW := Lib.hid ew
      clear ew hdr
      obtain ⟨gW, cW', hv, hgb, hgl, _⟩ := Kd.R_form HS0.out (by omega)
      injection hv with h1 h2 h3
      subst h1; subst h3
      have hgW := (HS0.out).1 gW rfl
      have HGW := Lib.hid hgW
      clear hgb hgl hgW
      go_wp2_with fail
      have HB10 := Lib.hid (show Below w2.heap.size w2 ((w2.alloc (.cells #[.slice (some ⟨gW, 0, none⟩) ws.length cW, .slice AN ns.length cN] 32)).alloc (.cells #[.int .i64 x.f0, .string x.f1, .int .i64 x.f2, .int .i64 x.f3, .bool x.f4, .slice A5 x.f5.length c5] 65)) from below_alloc (below_alloc (Below.refl _ _) _) _)
      have HG9 := Lib.hid (heap_alloc_new (w2.alloc (.cells #[.slice (some ⟨gW, 0, none⟩) ws.length cW, .slice AN ns.length cN] 32)) (.cells #[.int .i64 x.f0, .string x.f1, .int .i64 x.f2, .int .i64 x.f3, .bool x.f4, .slice A5 x.f5.length c5] 65))
      have HG8 := Lib.hid (blk_alloc (heap_alloc_new w2 (.cells #[.slice (some ⟨gW, 0, none⟩) ws.length cW, .slice AN ns.length cN] 32)) (.cells #[.int .i64 x.f0, .string x.f1, .int .i64 x.f2, .int .i64 x.f3, .bool x.f4, .slice A5 x.f5.length c5] 65))
      have hrow : ∀ w3 : World, Below w2.heap.size w2 w3 → ∃ u, w3.cell? ⟨gW, j * 6, none⟩ = some (.int .i64 x.f0) ∧ w3.cell? ⟨gW, j * 6 + 1, none⟩ = some (.string x.f1) ∧ w3.cell? ⟨gW, j * 6 + 2, none⟩ = some (.int .i64 x.f2) ∧ w3.cell? ⟨gW, j * 6 + 3, none⟩ = some (.int .i64 x.f3) ∧ w3.cell? ⟨gW, j * 6 + 4, none⟩ = some (.bool x.f4) ∧ w3.cell? ⟨gW, j * 6 + 5, none⟩ = some u ∧ (∀ k, w3.frozen? ⟨gW, j * 6 + k, none⟩ = false) := by
        intro w3 hb3
        obtain ⟨c, hcl, hM, hcc, hfr⟩ := Kd.R_elem (Kd.R_below HS0.out hb3) x (j : Int) (by omega) (by omega)
        rw [Int.toNat_natCast] at hM hcc hfr
        rw [show ws.getD j x = x by rw [List.getD_eq_getElem?_getD, HX.out]; rfl] at hM
        obtain ⟨v, rfl, _⟩ := k65_openM hM
        exact ⟨v, hcc 0 _ rfl, hcc 1 _ rfl, hcc 2 _ rfl, hcc 3 _ rfl, hcc 4 _ rfl, hcc 5 _ rfl, fun k => hfr k⟩
      have HROW := Lib.hid hrow
      clear hrow
      go_region_with (first | (go_at_call 42; refine (spec_l5Watch.calls kw x.f0 x.f1 x.f2 x.f3 x.f4 A5 c5 x.f5 1 x.f0 x.f1 x.f2 x.f3 x.f4 t _ (Kd.C_below (Kd.C_below HR5.out (HB2.out.trans (HB10.out.mono HB2.out.size))) (below_drew (Below.refl _ _))) HL5.out HEW.out).mono ?_; (rintro e w3 ⟨v5, rfl, hS5, hb3⟩); (have hb3' : Below w2.heap.size w2 w3 := below_then (below_drew HB10.out) HB10.out.size hb3); (have hq8 := blk_cell (blk_below (blk_drew HG8.out) hb3) 0); (obtain ⟨A7, c7, rfl⟩ := Kd.S_slice hS5); (obtain ⟨u, r0, r1, r2, r3, r4, r5, rf⟩ := HROW.out _ hb3'); (have rf0 := rf 0); (have rf1 := rf 1); (have rf2 := rf 2); (have rf3 := rf 3); (have rf4 := rf 4); (have rf5 := rf 5); (have HS5 := Lib.hid hS5); (have HB3 := Lib.hid hb3'); (have HG93 := Lib.hid (blk_below (blk_drew HG9.out) hb3)); (have HG83 := Lib.hid (blk_below (blk_drew HG8.out) hb3)); (have HZ3 := Lib.hid hb3.size); (simp only [List.getElem?_toArray, List.getElem?_cons_zero, Nat.add_zero] at hq8 rf0); clear rf hS5 hb3 hb3'))
      all_goals
        clear hq8 r0 r1 r2 r3 r4 r5 rf0 rf1 rf2 rf3 rf4 rf5 hw0 hw1 hw2 hw3 hw4 hw5 hx0
        generalize hW4 : ((((((w3.setCell ⟨gW, j * 6, none⟩ (.int .i64 x.f0)).setCell ⟨gW, j * 6 + 1, none⟩ (.string x.f1)).setCell ⟨gW, j * 6 + 2, none⟩ (.int .i64 x.f2)).setCell ⟨gW, j * 6 + 3, none⟩ (.int .i64 x.f3)).setCell ⟨gW, j * 6 + 4, none⟩ (.bool x.f4)).setCell ⟨gW, j * 6 + 5, none⟩ (.slice A7 t.length c7)) = W4
        have hz3 : w2.heap.size + 2 ≤ w3.heap.size := by have := HZ3.out; simp at this; omega
        have ht4 : Tch w3 W4 (fun k => k = gW) := by
          rw [← hW4]
          repeat (first | with_reducible exact Tch.refl _ _ | with_reducible refine Tch.setCell ?_ (.inl (by simp)) _)
        have hS04 : Kd.R k65 65 W4 w1.heap.size (fun k => w1.heap.size ≤ k ∧ k < w3.heap.size) (.slice (some ⟨gW, 0, none⟩) ws.length cW) (ws.set j ⟨x.f0, x.f1, x.f2, x.f3, x.f4, t⟩) := by
          have hS := Kd.R_mono (Kd.R_below HS0.out HB3.out) (ok' := fun k => w1.heap.size ≤ k ∧ k < w3.heap.size) (fun k hk => ⟨hk.1, by omega⟩)
          obtain ⟨c, hcl, hM, hcc, hfr⟩ := Kd.R_elem hS x (j : Int) (by omega) (by omega)
          have h := (Kd.R_seg hS (j : Int) (by omega) (by omega) (seg := [.int .i64 x.f0, .string x.f1, .int .i64 x.f2, .int .i64 x.f3, .bool x.f4, .slice A7 t.length c7]) (j := 0) hcl hcc (Nat.le_refl 6) (x' := ⟨x.f0, x.f1, x.f2, x.f3, x.f4, t⟩) (okp := fun k => w2.heap.size + 2 ≤ k ∧ k < w3.heap.size) (by
            have hcd : c.drop (0 + 6) = [] := List.drop_of_length_le (by rw [hcl]; decide)
            have e : c.take 0 ++ [Value.int .i64 x.f0, .string x.f1, .int .i64 x.f2, .int .i64 x.f3, .bool x.f4, .slice A7 t.length c7] ++ c.drop (0 + [Value.int .i64 x.f0, .string x.f1, .int .i64 x.f2, .int .i64 x.f3, .bool x.f4, .slice A7 t.length c7].length) = [.int .i64 x.f0, .string x.f1, .int .i64 x.f2, .int .i64 x.f3, .bool x.f4, .slice A7 t.length c7] := by
              show [] ++ _ ++ c.drop (0 + 6) = _
              rw [hcd]; rfl
            rw [e]
            exact k65_mkM w3 w1.heap.size _ ⟨x.f0, x.f1, x.f2, x.f3, x.f4, t⟩ (Kd.R_mono (Kd.R_lower (Kd.R_bound (Kd.S_R HS5.out)) (by simp; have := HZ2.out; omega)) (fun k hk => ⟨by have := hk.2.1; simp at this; omega, hk.2.2.1⟩))) (fun k hk => ⟨⟨by have := HZ2.out; omega, hk.2⟩, by have := HGW.out; omega⟩)).1
          rw [← hW4]
          exact h
        have hgt := Kd.R_typed (Kd.R_below HS0.out HB3.out) gW rfl
        obtain ⟨cw, hcw⟩ := hgt
        have hS14 : Kd.R k53 53 W4 w1.heap.size (fun k => w1.heap.size ≤ k ∧ k < w3.heap.size) (.slice AN ns.length cN) ns :=
          Kd.R_mono (Kd.R_kept (Kd.R_types (Kd.R_below HS1.out HB3.out) hcw (by decide)) ht4.kept (fun k hk h => hk.2 h)) (fun k hk => ⟨hk.1.1, by omega⟩)
        have hB4 : Below w.heap.size w W4 := below_tch (HB2.out.trans (HB3.out.mono HB2.out.size)) ht4 (fun k hk => by have := HGW.out; have := HZ1.out; omega)
        have hG9 : W4.heap[w2.heap.size + 1]? = some (.cells #[.int .i64 x.f0, .string x.f1, .int .i64 x.f2, .int .i64 x.f3, .bool x.f4, .slice A5 x.f5.length c5] 65 (0, 0)) := by
          have h := blk_kept HG93.out ht4.kept (fun h => by have := HGW.out; simp at h; omega)
          simpa using h
        have hG8 := blk_kept HG83.out ht4.kept (fun h => by have := HGW.out; omega)
        have hG4 := blk_kept (blk_below HG42.out HB3.out) ht4.kept (fun h => by have := HGW.out; have := HZ1.out; omega)
        have hG5 := blk_kept (blk_below HG52.out HB3.out) ht4.kept (fun h => by have := HGW.out; have := HZ1.out; omega)
        obtain ⟨ad5, A6, c6, had5, hm0, hm1, hm2, hl6, hr6⟩ := at_T44 HR5.out 0 (by omega) (by omega)
        subst had5
        have hrd5 : rd_T44 x.f5 0 = y := by rw [H5.out]; rfl
        rw [hrd5] at hm0 hm1 hm2 hl6 hr6
        have hadl5 : ad5.block < w.heap.size := Kd.C_lt HR5.out hn5' (by decide)
        have e0 : ad5.add (Int.toNat 0 * 3) = ad5 := by simp [Addr.add]
        rw [e0] at hm0 hm1 hm2
        replace hm0 := (hB4.cell (p := ad5) hadl5).trans hm0
        replace hm1 := (hB4.cell (p := ⟨ad5.block, ad5.off + 1, none⟩) hadl5).trans hm1
        replace hm2 := (hB4.cell (p := ⟨ad5.block, ad5.off + 2, none⟩) hadl5).trans hm2
        have h95 := blk_cell hG9 5
        have hz4 : w3.heap.size ≤ W4.heap.size := ht4.kept.1
        simp only [List.getElem?_toArray, List.getElem?_cons_zero, List.getElem?_cons_succ] at h95
        have HS04 := Lib.hid hS04
        have HS14 := Lib.hid hS14
        have HB4 := Lib.hid hB4
        have HG84 := Lib.hid hG8
        have HG44 := Lib.hid hG4
        have HG54 := Lib.hid hG5
        have HR6 := Lib.hid hr6
        have HL6 := Lib.hid hl6
        have HFY := Lib.hid (show y.f1.length ≤ 4194304 from HFX.out.2 y (by rw [H5.out]; simp))
        clear hW4 hS04 hS14 hB4 hG8 hG4 hG5 hG9 ht4 hcw hr6 hl6 hrd5 e0 hadl5
        go_wp2_with fail
        refine (spec_l5Message.calls y.f0 A6 c6 y.f1 y.f2 y.f0 y.f1 y.f2 _ (Kd.C_below HR6.out HB4.out) HL6.out (msg_id y HFY.out)).mono ?_
        rintro e w5 ⟨u1, rfl, hR6, hb5⟩
        obtain ⟨A9, c9, rfl⟩ := Kd.R_slice hR6
        have hz5 : W4.heap.size ≤ w5.heap.size := hb5.size
        have hend : ∀ w', Tch w5 w' (fun k => (w.heap.size ≤ k ∧ k < w.heap.size + 3) ∨ w5.heap.size ≤ k) → HubN w' w.heap.size w'.heap.size (.slice (some ⟨gW, 0, none⟩) ws.length cW) (.slice AN ns.length cN) (.slice A9 y.f1.length c9) (ws.set j ⟨x.f0, x.f1, x.f2, x.f3, x.f4, t⟩) ns y.f1 ∧ Below w.heap.size w w' := by
          intro w' ht
          have hsz := ht.kept.1
          have hz1 := HZ1.out
          have hz2 := HZ2.out
          have h0 := Kd.R_mono (Kd.R_lower (Kd.R_kept (Kd.R_below HS04.out hb5) ht.kept (fun k hk h => by omega)) (Nat.zero_le _)) (ok' := fun k => w.heap.size ≤ k ∧ k < w'.heap.size) (fun k hk => ⟨by omega, by omega⟩)
          rw [show (Value.slice (some ⟨gW, 0, none⟩) ws.length cW) = .slice (some ⟨gW, 0, none⟩) ws.length cW from rfl] at h0
          refine ⟨⟨⟨h0, Kd.R_mono (Kd.R_lower (Kd.R_kept (Kd.R_below HS14.out hb5) ht.kept (fun k hk h => by omega)) (Nat.zero_le _)) (fun k hk => ⟨by omega, by omega⟩)⟩, Kd.R_mono (Kd.R_lower (Kd.R_kept (Kd.R_bound hR6) ht.kept (fun k hk h => by have := hk.2.1; have := hk.2.2.1; omega)) (Nat.zero_le _)) (fun k hk => ⟨by have := hk.2.1; omega, by have := hk.2.2.1; omega⟩)⟩, ?_⟩
          exact below_tch (HB4.out.trans (hb5.mono HB4.out.size)) ht (fun k hk => by omega)
        have HEND := Lib.hid hend
        have HG45 := Lib.hid (blk_alloc (blk_below HG44.out hb5) (.cells #[.int .i64 y.f0, .slice A9 y.f1.length c9, .bool y.f2] 44))
        have HG55 := Lib.hid (blk_alloc (blk_below HG54.out hb5) (.cells #[.int .i64 y.f0, .slice A9 y.f1.length c9, .bool y.f2] 44))
        have HG85 := Lib.hid (blk_alloc (blk_below HG84.out hb5) (.cells #[.int .i64 y.f0, .slice A9 y.f1.length c9, .bool y.f2] 44))
        have HG4w := Lib.hid (blk_below HG44.out hb5)
        have HG5w := Lib.hid (blk_below HG54.out hb5)
        have HGM := Lib.hid (heap_alloc_new w5 (.cells #[.int .i64 y.f0, .slice A9 y.f1.length c9, .bool y.f2] 44))
        have hn1 : w.heap.size + 1 ≠ w2.heap.size := by have := HZ1.out; have := HZ2.out; omega
        have hn2 : w.heap.size + 1 + 1 ≠ w2.heap.size := by have := HZ1.out; have := HZ2.out; omega
        have hn3 : w.heap.size + 1 ≠ w5.heap.size := by have := HZ1.out; have := HZ2.out; omega
        have hn4 : w.heap.size + 1 + 1 ≠ w5.heap.size := by have := HZ1.out; have := HZ2.out; omega
        have hl4 : w.heap.size + 1 < w5.heap.size := by have := HZ1.out; have := HZ2.out; omega
        have hl5 : w.heap.size + 1 + 1 < w5.heap.size := by have := HZ1.out; have := HZ2.out; omega
        have hl8 : w2.heap.size < w5.heap.size := by omega
        clear hR6 hend hm0 hm1 hm2 h95
        have hHB5 := Lib.hid hb5
        clear hb5
        cases h2 : y.f2
        all_goals
          rw [h2] at HG45 HG55 HG85 HGM
          go_wp2_with fail
          have hx0 := blk_cell HG85.out 0
          have hx1 := blk_cell HG85.out 1
          have hy0 := blk_cell HG45.out 0
          have hy1 := blk_cell HG45.out 1
          have hz0 := blk_cell HG55.out 0
          have hz1 := blk_cell HG55.out 1
          have hz2 := blk_cell HG55.out 2
          have hm0 := blk_cell HGM.out 0
          have hm1 := blk_cell HGM.out 1
          have hm2 := blk_cell HGM.out 2
          have hg0 := blk_frozen HG45.out 0
          have hg1 := blk_frozen HG45.out 1
          have hh0 := blk_frozen HG55.out 0
          have hh1 := blk_frozen HG55.out 1
          have hh2 := blk_frozen HG55.out 2
          have py0 := blk_cell HG4w.out 0
          have py1 := blk_cell HG4w.out 1
          have pz0 := blk_cell HG5w.out 0
          have pz1 := blk_cell HG5w.out 1
          have pz2 := blk_cell HG5w.out 2
          have pg0 := blk_frozen HG4w.out 0
          have pg1 := blk_frozen HG4w.out 1
          have ph0 := blk_frozen HG5w.out 0
          have ph1 := blk_frozen HG5w.out 1
          have ph2 := blk_frozen HG5w.out 2
          simp only [List.getElem?_toArray, List.getElem?_cons_zero, List.getElem?_cons_succ] at hx0 hx1 hy0 hy1 hz0 hz1 hz2 hm0 hm1 hm2 py0 py1 pz0 pz1 pz2
          go_region
          all_goals
            go_wp2_with fail
            refine bodyPost_ret (v := .tuple #[.agg #[.slice (some ⟨gW, 0, none⟩) ws.length cW, .slice AN ns.length cN], .agg #[.int .i64 y.f0, .slice A9 y.f1.length c9, .bool y.f2], .int .i64 (if y.f2 then 4 else 0)]) (by simp [results, Try.results19, go_sem, hy0, hy1, hz0, hz1, hz2, py0, py1, pz0, pz1, pz2, h2, hl4, hl5]) rfl ⟨_, _, _, by simp [h2], HEND.out _ ?_⟩
            repeat (first | with_reducible exact Tch.refl _ _ | with_reducible apply Tch.drew | with_reducible refine Tch.setCell ?_ (.inl (by simp <;> omega)) _ | with_reducible refine Tch.below ?_ (below_alloc (Below.refl _ _) _))

theorem cWatS_set : ∀ (ws : List S65) (j : Nat) (x x' : S65), ws[j]? = some x → cWat x' ≤ cWat x → cWatS (ws.set j x') ≤ cWatS ws
  | [], j, x, x', h, _ => by simp at h
  | y :: t, 0, x, x', h, hc => by
    simp only [List.getElem?_cons_zero] at h
    injection h with h
    subst h
    simp only [List.set_cons_zero, cWatS]
    omega
  | y :: t, j + 1, x, x', h, hc => by
    simp only [List.getElem?_cons_succ] at h
    have := cWatS_set t j x x' h hc
    simp only [List.set_cons_succ, cWatS]
    omega
theorem tk_c (c : Int) (ws : List S65) : cWatS (tk c ws).1 ≤ cWatS ws := by
  rcases fnd_cases c ws 0 with h | ⟨j, hj, h⟩
  · rw [tk_no (by omega)]; exact Nat.le_refl _
  · have h2 : fnd c 0 ws = (j : Int) := by rw [h]; simp
    have hx : ws[j]? = some ws[j] := List.getElem?_eq_getElem hj
    cases h5 : ws[j].f5 with
    | nil => rw [tk_nil h2 hx h5]; exact Nat.le_refl _
    | cons m t =>
      rw [tk_cons h2 hx h5]
      refine cWatS_set ws j _ _ hx ?_
      show 5 + cMsgS t ≤ 5 + cMsgS ws[j].f5
      rw [h5]
      simp only [cMsgS]
      omega
theorem tk_fit (c : Int) (ws : List S65) (hf : fitWatS ws) : fitWatS (tk c ws).1 ∧ (tk c ws).2.1.f1.length ≤ 4194304 := by
  rcases fnd_cases c ws 0 with h | ⟨j, hj, h⟩
  · rw [tk_no (by omega)]; exact ⟨hf, by simp⟩
  · have h2 : fnd c 0 ws = (j : Int) := by rw [h]; simp
    have hx : ws[j]? = some ws[j] := List.getElem?_eq_getElem hj
    have hm := hf.2 _ (List.mem_of_getElem? hx)
    cases h5 : ws[j].f5 with
    | nil => rw [tk_nil h2 hx h5]; exact ⟨hf, by simp⟩
    | cons m t =>
      rw [tk_cons h2 hx h5]
      rw [h5] at hm
      refine ⟨⟨by rw [List.length_set]; exact hf.1, fun y hy => ?_⟩, hm.2 m (by simp)⟩
      rcases List.mem_or_eq_of_mem_set hy with hy | hy
      · exact hf.2 y hy
      · subst hy
        exact ⟨by have := hm.1; simp at this; show t.length ≤ _; omega, fun z hz => hm.2 z (by simp [show z ∈ t from hz])⟩
end Go.Proofs.Ytmphkhkbegihaaa.HubLaw
