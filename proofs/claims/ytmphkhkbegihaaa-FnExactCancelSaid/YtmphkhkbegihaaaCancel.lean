/- impl.Cancel: its contracts by hand. -/
import Derived.Test.YtmphkhkbegihaaaDel
namespace Go.Proofs.Ytmphkhkbegihaaa.HubLaw
open Go Go.RowKit Go.Proofs.Ytmphkhkbegihaaa.PHub Go.Proofs.YtmphkhkbegihaaaW.PrintWords Go.Proofs.Ytmphkhkbegihaaa.Tree Go.Proofs.Ytmphkhkbegihaaa.Mark Go.Proofs.Ytmphkhkbegihaaa.To Go.Proofs.Ytmphkhkbegihaaa.Copy Go.Proofs.Ytmphkhkbegihaaa.Plain Go.Proofs.Ytmphkhkbegihaaa.SpecP Go.Proofs.Ytmphkhkbegihaaa.Open Go.Proofs.Ytmphkhkbegihaaa.Find
set_option linter.unusedVariables false
set_option linter.unusedSimpArgs false

theorem cWatS_wo (s : Int) : ∀ (i : Nat) (l : List S65), cWatS (wo s i l) ≤ cWatS l
  | _, [] => Nat.le_refl _
  | i, x :: t => by
    have := cWatS_wo s (i + 1) t
    unfold wo
    split
    · simp only [cWatS]; omega
    · simp only [cWatS]; omega
set_option maxRecDepth 100000 in
set_option maxHeartbeats 8000000 in
theorem cancel (ws : List S65) (ns : List S53) (client : Int) (A0 A1 : Option Addr) (c0 c1 : Nat) (w0 w : World) (hr0 : Kd.C k65 w0 A0 ws.length ws) (hc0 : ws.length ≤ c0) (hr1 : Kd.C k53 w0 A1 ns.length ns) (hc1 : ns.length ≤ c1) (hw : Below w0.heap.size w0 w) (hfw : fitWatS ws) (hfn : fitNewS ns) :
    Calls Try.prog 18 #[.agg #[.slice A0 ws.length c0, .slice A1 ns.length c1], .int .i64 client] w fun e w' => ∃ v0 v1, e = .returned (.tuple #[.agg #[v0, v1], .int .i64 (if fnd client 0 ws < 0 then 1 else 0)]) ∧ HubT w' w.heap.size w'.heap.size v0 v1 (wo (fnd client 0 ws) 0 ws) ns ∧ Below w.heap.size w w' := by
  have HR0 := Lib.hid (Kd.C_below hr0 hw)
  have HR1 := Lib.hid (Kd.C_below hr1 hw)
  have HC0 := Lib.hid hc0
  have HC1 := Lib.hid hc1
  have HFW := Lib.hid hfw
  have HFN := Lib.hid hfn
  clear hr0 hr1 hw hc0 hc1 hfw hfn
  go_enter Try.func18, Try.ntmps18
  go_wp2_with fail
  refine (hub_copy ws ns A0 A1 c0 c1 w _ HR0.out HC0.out HR1.out HC1.out (by repeat (first | exact Below.refl _ _ | apply below_alloc)) HFW.out HFN.out).mono ?_
  rintro e w1 ⟨v0, v1, m, rfl, hS0, hS1, hb, hm0, hm1⟩
  obtain ⟨AW, cW, rfl⟩ := Kd.S_slice hS0
  obtain ⟨AN, cN, rfl⟩ := Kd.S_slice hS1
  have hm0' : w.heap.size + 2 ≤ m := by simpa using hm0
  have HG6 := Lib.hid (blk_below (by have := heap_alloc_new (w.alloc (.cells #[.slice A0 ws.length c0, .slice A1 ns.length c1] 32)) (.cells #[.slice none 0 0, .slice none 0 0] 32); rwa [World.size_alloc] at this : ((w.alloc (.cells #[.slice A0 ws.length c0, .slice A1 ns.length c1] 32)).alloc (.cells #[.slice none 0 0, .slice none 0 0] 32)).heap[w.heap.size + 1]? = some (.cells #[.slice none 0 0, .slice none 0 0] 32 (0, 0))) hb)
  have HS0 := Lib.hid (Kd.S_lower (Kd.S_mono (S_now hS0) (ok' := fun k => (w.heap.size + 2 ≤ k ∧ k < m) ∧ k < w1.heap.size) (fun k hk => by have h1 := hk.1.1; simp at h1; exact ⟨⟨h1, hk.1.2⟩, hk.2.2⟩)) (base' := w.heap.size) (by simp; omega))
  have HS1 := Lib.hid (Kd.S_lower (Kd.S_mono (S_now hS1) (ok' := fun k => m ≤ k ∧ k < w1.heap.size) (fun k hk => ⟨hk.1, hk.2.2⟩)) (base' := w.heap.size) (by simp; omega))
  have HB2 := Lib.hid (below_then (below_alloc (below_alloc (Below.refl _ _) _) _) (by simp <;> omega) hb)
  clear hS0 hS1 hb hm0
  go_wp2_with fail
  refine (watch_of ws .nilFunc AW cW AN ns.length cN client _ _ (Kd.S_reads' HS0.out).2.2 (below_alloc (Below.refl _ _) _) HFW.out.1).mono ?_
  rintro e w2 ⟨rfl, hb2⟩
  have hb3 : Below w1.heap.size w1 w2 := below_then (below_alloc (Below.refl _ _) _) (by simp) hb2
  have HG7 := Lib.hid (blk_below (heap_alloc_new w1 (.cells #[.slice AW ws.length cW, .slice AN ns.length cN] 32)) hb2)
  have HG62 := Lib.hid (blk_below HG6.out hb3)
  have HS02 := Lib.hid (Kd.S_below HS0.out hb3)
  have HS12 := Lib.hid (Kd.S_below HS1.out hb3)
  have HB3 := Lib.hid (below_then HB2.out HB2.out.size hb3)
  have HZ2 := Lib.hid hb3.size
  clear hb2 hb3 HG6 HS0 HS1 HB2
  have HH1 := Lib.hid hm1
  clear hm1
  rcases fnd_cases client ws 0 with hf | ⟨j, hj, hf⟩
  · have HF := Lib.hid hf
    have hneg : fnd client 0 ws < 0 := by omega
    rw [HF.out]
    clear hf
    have hx0 := blk_cell HG7.out 0
    have hx1 := blk_cell HG7.out 1
    have hy0 := blk_cell HG62.out 0
    have hy1 := blk_cell HG62.out 1
    have hg0 := blk_frozen HG62.out 0
    have hg1 := blk_frozen HG62.out 1
    simp only [List.getElem?_toArray, List.getElem?_cons_zero, List.getElem?_cons_succ] at hx0 hx1 hy0 hy1
    go_wp2_with fail
    refine bodyPost_ret (v := .tuple #[.agg #[.slice AW ws.length cW, .slice AN ns.length cN], .int .i64 1]) (by simp [results, Try.results18, go_sem, hy0, hy1]) rfl ⟨_, _, by first | rfl | rw [if_pos (by omega)], ⟨m, by omega, by rw [size_set, size_set]; have := HH1.out; have := HZ2.out; omega, ?_, ?_⟩, ?_⟩
    · rw [HF.out, wo_all _ _ _ (fun j _ _ => by omega)]
      exact T_mono (T_imp (T_lower (T_of_S (Kd.S_far (Kd.S_far HS02.out (fun k hk => by show k ≠ w.heap.size + 1; omega) _) (fun k hk => by show k ≠ w.heap.size + 1; omega) _)) (Nat.zero_le _)) rfl (fun _ _ _ h => ms_m65 h)) (fun k hk => by omega)
    · exact T_mono (T_imp (T_lower (T_of_S (Kd.S_far (Kd.S_far HS12.out (fun k hk => by show k ≠ w.heap.size + 1; omega) _) (fun k hk => by show k ≠ w.heap.size + 1; omega) _)) (Nat.zero_le _)) rfl (fun _ _ _ h => k_m53 h)) (fun k hk => by rw [size_set, size_set]; have := HZ2.out; omega)
    · exact (HB3.out.setCell (by show w.heap.size ≤ w.heap.size + 1; omega) _).setCell (by show w.heap.size ≤ w.heap.size + 1; omega) _
  · have hf2 : fnd client 0 ws = (j : Int) := by rw [hf]; simp
    have HF := Lib.hid hf2
    have hneg : ¬ (fnd client 0 ws < 0) := by omega
    rw [HF.out]
    clear hf hf2
    obtain ⟨gW, cW', hv, hgb, hgl, _⟩ := Kd.S_form HS02.out (by omega)
    injection hv with h1 h2 h3
    subst h1; subst h3
    have hokg : (w.heap.size + 2 ≤ gW ∧ gW < m) ∧ gW < w1.heap.size := by
      obtain ⟨f, h0, _⟩ := HS02.out
      exact h0 gW rfl
    have HOK := Lib.hid hokg
    clear hokg hgb hgl
    have hx0 := blk_cell HG7.out 0
    simp only [List.getElem?_toArray, List.getElem?_cons_zero, List.getElem?_cons_succ] at hx0
    have hmj : ws.length ≤ 4194304 := HFW.out.1
    have hj0 : ¬ ((j : Int) < 0) := by omega
    go_wp2_with fail
    refine (delete_watch ws gW cW j w.heap.size _ w2 HS02.out hj hmj HB3.out.size).mono ?_
    rintro e w3 ⟨rfl, hS3, ht3⟩
    have HG73 := Lib.hid (blk_kept HG7.out ht3.kept (fun h => by have := HOK.out; omega))
    have HG63 := Lib.hid (blk_kept HG62.out ht3.kept (fun h => by have := HOK.out; omega))
    have HS03 := Lib.hid hS3
    have HS13 := Lib.hid (Kd.S_kept HS12.out ht3.kept (fun k hk h => by have := HOK.out; omega))
    have HB4 := Lib.hid (below_tch HB3.out ht3 (fun k hk => by have := HOK.out; omega))
    have HZ3 := Lib.hid ht3.kept.1
    clear hS3 ht3 hx0
    have hx0 := blk_cell HG73.out 0
    have hx1 := blk_cell HG73.out 1
    have hf0 := blk_frozen HG73.out 0
    have hy0 := blk_cell HG63.out 0
    have hy1 := blk_cell HG63.out 1
    have hg0 := blk_frozen HG63.out 0
    have hg1 := blk_frozen HG63.out 1
    simp only [List.getElem?_toArray, List.getElem?_cons_zero, List.getElem?_cons_succ] at hx0 hx1 hy0 hy1
    have hw7 : w.heap.size + 1 ≠ w1.heap.size := by have := HOK.out; omega
    go_wp2_with fail
    refine bodyPost_ret (v := .tuple #[.agg #[.slice (some ⟨gW, 0, none⟩) (ws.length - 1) cW, .slice AN ns.length cN], .int .i64 0]) (by simp [results, Try.results18, go_sem, hy0, hy1]) rfl ⟨_, _, by first | rfl | rw [if_neg (by omega)], ⟨m, by omega, by rw [size_set, size_set, size_set]; have := HH1.out; have := HZ2.out; have := HZ3.out; omega, ?_, ?_⟩, ?_⟩
    · rw [HF.out, wo_erase j 0 ws (Nat.zero_le _), Nat.sub_zero]
      exact T_mono (T_imp (T_lower (T_of_S (Kd.S_far (Kd.S_far (Kd.S_far HS03.out (fun k hk => by show k ≠ w1.heap.size; omega) _) (fun k hk => by show k ≠ w.heap.size + 1; omega) _) (fun k hk => by show k ≠ w.heap.size + 1; omega) _)) (Nat.zero_le _)) rfl (fun _ _ _ h => ms_m65 h)) (fun k hk => by omega)
    · exact T_mono (T_imp (T_lower (T_of_S (Kd.S_far (Kd.S_far (Kd.S_far HS13.out (fun k hk => by show k ≠ w1.heap.size; omega) _) (fun k hk => by show k ≠ w.heap.size + 1; omega) _) (fun k hk => by show k ≠ w.heap.size + 1; omega) _)) (Nat.zero_le _)) rfl (fun _ _ _ h => k_m53 h)) (fun k hk => by rw [size_set, size_set, size_set]; have := HZ2.out; have := HZ3.out; omega)
    · exact ((HB4.out.setCell (by show w.heap.size ≤ w1.heap.size; have := HOK.out; omega) _).setCell (by show w.heap.size ≤ w.heap.size + 1; omega) _).setCell (by show w.heap.size ≤ w.heap.size + 1; omega) _
end Go.Proofs.Ytmphkhkbegihaaa.HubLaw
