/- impl.Subscribe: its contract by hand. -/
import Derived.Test.YtmphkhkbegihaaaDoorHubG
import Derived.Test.YtmphkhkbegihaaaDoorTok
namespace Go.Proofs.YtmphkhkbegihaaaDoor.HubLaw
open Go Go.RowKit Go.Proofs.YtmphkhkbegihaaaDoor.PHub Go.Proofs.YtmphkhkbegihaaaDoorW.PrintWords Go.Proofs.YtmphkhkbegihaaaDoor.Tree Go.Proofs.YtmphkhkbegihaaaDoor.Mark Go.Proofs.YtmphkhkbegihaaaDoor.To Go.Proofs.YtmphkhkbegihaaaDoor.Copy Go.Proofs.YtmphkhkbegihaaaDoor.Plain Go.Proofs.YtmphkhkbegihaaaDoor.SpecP Go.Proofs.YtmphkhkbegihaaaDoor.Open Go.Proofs.YtmphkhkbegihaaaDoor.Find Go.Proofs.YtmphkhkbegihaaaDoor.Tok Go.Proofs.YtmphkhkbegihaaaDoor.Own
set_option linter.unusedVariables false
set_option linter.unusedSimpArgs false

theorem Tch.drew {w w1 : World} {S : Nat → Prop} (h : Tch w w1 S) : Tch w w1.drew S := ⟨h.os, h.tape, h.output, h.kept⟩
/-- What Subscribe answers. -/
def sb (client : Int) (ptr : ByteArray) (room version : Int) (ok : Bool) (ws : List S76) : List S76 × Int :=
  if client < 0 ∨ client ≥ 8 then (ws, 1) else if ok = false then (ws, 2) else if room < 1 ∨ room > 100 then (ws, 3)
  else (wo (fnd client 0 ws) 0 ws ++ [⟨client, ptr, room, version, false, []⟩], 0)
theorem isPtr_f (a : ByteArray) (h : a.size ≤ 4194304) : impl_isPtr.f a = some (tokF a).2 := by
  unfold impl_isPtr.f
  rw [implPtrTokens a h]
  rfl
theorem hubG_of {w' : World} {lo m n hi : Nat} {ok0 ok1 : Nat → Prop} {v0 v1 : Value} {ws : List S76} {ns : List S87}
    (h0 : T m76 76 w' 0 ok0 v0 ws) (h1 : T m87 87 w' 0 ok1 v1 ns)
    (g0 : ∀ k, ok0 k → lo ≤ k ∧ k < hi ∧ (k < m ∨ n ≤ k)) (g1 : ∀ k, ok1 k → lo ≤ k ∧ k < hi ∧ m ≤ k ∧ k < n) : HubG w' lo hi v0 v1 ws ns := by
  refine ⟨_, _, ?_, ?_, h0, h1⟩
  · intro k hk; have a := g0 k hk; exact ⟨a.1, a.2.1, fun h => by have := g1 k h; omega⟩
  · intro k hk; have a := g1 k hk; exact ⟨a.1, a.2.1, fun h => by have := g0 k h; omega⟩

set_option maxRecDepth 100000 in
set_option maxHeartbeats 8000000 in
theorem subscribe (ws : List S76) (ns : List S87) (client : Int) (ptr : ByteArray) (room version : Int) (A0 A1 : Option Addr) (c0 c1 : Nat) (w0 w : World) (hr0 : Kd.C k76 w0 A0 ws.length ws) (hc0 : ws.length ≤ c0) (hr1 : Kd.C k87 w0 A1 ns.length ns) (hc1 : ns.length ≤ c1) (hw : Below w0.heap.size w0 w) (hfw : fitWatS ws) (hfn : fitNewS ns) (hG : GM w) (hps : ptr.size ≤ 1048576) :
    Calls Tryd.prog 28 #[.agg #[.slice A0 ws.length c0, .slice A1 ns.length c1], .int .i64 client, .string ptr, .int .i64 room, .int .i64 version] w fun e w' => ∃ v0 v1, e = .returned (.tuple #[.agg #[v0, v1], .int .i64 (sb client ptr room version (tokF ptr).2 ws).2]) ∧ HubG w' w.heap.size w'.heap.size v0 v1 (sb client ptr room version (tokF ptr).2 ws).1 ns ∧ Below w.heap.size w w' := by
  obtain ⟨R, hR⟩ : ∃ R, R = sb client ptr room version (tokF ptr).2 ws := ⟨_, rfl⟩
  rw [← hR]
  have HR := Lib.hid hR
  have HR0 := Lib.hid (Kd.C_below hr0 hw)
  have HR1 := Lib.hid (Kd.C_below hr1 hw)
  have HC0 := Lib.hid hc0
  have HC1 := Lib.hid hc1
  have HFW := Lib.hid hfw
  have HFN := Lib.hid hfn
  have HGM := Lib.hid hG
  have HOKF := Lib.hid (isPtr_f ptr (by omega))
  clear hr0 hr1 hw hc0 hc1 hfw hfn hR hG
  go_enter Tryd.func28, Tryd.ntmps28
  go_wp2_with fail
  refine (hub_copy ws ns A0 A1 c0 c1 w _ HR0.out HC0.out HR1.out HC1.out (by repeat (first | exact Below.refl _ _ | apply below_alloc)) HFW.out HFN.out).mono ?_
  rintro e w1 ⟨v0, v1, m, rfl, hS0, hS1, hb, hm0, hm1⟩
  obtain ⟨AW, cW, rfl⟩ := Kd.S_slice hS0
  obtain ⟨AN, cN, rfl⟩ := Kd.S_slice hS1
  have hm0' : w.heap.size + 2 ≤ m := by simpa using hm0
  have HG4 := Lib.hid (blk_below (by have := heap_alloc_new (w.alloc (.cells #[.slice A0 ws.length c0, .slice A1 ns.length c1] 44)) (.cells #[.slice none 0 0, .slice none 0 0] 44); rwa [World.size_alloc] at this : ((w.alloc (.cells #[.slice A0 ws.length c0, .slice A1 ns.length c1] 44)).alloc (.cells #[.slice none 0 0, .slice none 0 0] 44)).heap[w.heap.size + 1]? = some (.cells #[.slice none 0 0, .slice none 0 0] 44 (0, 0))) hb)
  have HS0 := Lib.hid (Kd.S_lower (Kd.S_mono (S_now hS0) (ok' := fun k => (w.heap.size + 2 ≤ k ∧ k < m) ∧ k < w1.heap.size) (fun k hk => by have h1 := hk.1.1; simp at h1; exact ⟨⟨h1, hk.1.2⟩, hk.2.2⟩)) (base' := w.heap.size) (by simp; omega))
  have HS1 := Lib.hid (Kd.S_lower (Kd.S_mono (S_now hS1) (ok' := fun k => m ≤ k ∧ k < w1.heap.size) (fun k hk => ⟨hk.1, hk.2.2⟩)) (base' := w.heap.size) (by simp; omega))
  have HB1 := Lib.hid (below_then (below_alloc (below_alloc (Below.refl _ _) _) _) (by simp <;> omega) hb)
  have HH1 := Lib.hid hm1
  clear hS0 hS1 hb hm0 hm1
  have hsame : ∀ W w', Below w1.heap.size w1 W → Tch W w' (fun k => (w.heap.size ≤ k ∧ k < w.heap.size + 2) ∨ w1.heap.size ≤ k) → HubG w' w.heap.size w'.heap.size (.slice AW ws.length cW) (.slice AN ns.length cN) ws ns ∧ Below w.heap.size w w' := by
    intro W w' hbW ht
    have hsz := ht.kept.1
    have hsz2 := hbW.size
    have hm1 := HH1.out
    refine ⟨hubG_of (m := m) (n := w1.heap.size) (T_kept (T_imp (T_lower (T_of_S (Kd.S_below HS0.out hbW)) (Nat.zero_le _)) rfl (fun _ _ _ h => ms_m76 h)) ht.kept (fun k hk h => by omega)) (T_kept (T_imp (T_lower (T_of_S (Kd.S_below HS1.out hbW)) (Nat.zero_le _)) rfl (fun _ _ _ h => k_m87 h)) ht.kept (fun k hk h => by omega)) (fun k hk => ⟨by omega, by omega, by omega⟩) (fun k hk => ⟨by omega, by omega, by omega, by omega⟩), ?_⟩
    exact below_tch (HB1.out.trans (hbW.mono HB1.out.size)) ht (fun k hk => by rcases hk with hk | hk; exact hk.1; have := HB1.out.size; omega)
  have HSM := Lib.hid hsame
  clear hsame
  by_cases k1 : client < 0 ∨ client ≥ 8
  · have hRR : R = (ws, 1) := HR.out.trans (by unfold sb; rw [if_pos k1])
    subst hRR
    have hy0 := blk_cell HG4.out 0
    have hy1 := blk_cell HG4.out 1
    have hg0 := blk_frozen HG4.out 0
    have hg1 := blk_frozen HG4.out 1
    have hl4 := blk_lt HG4.out
    simp only [List.getElem?_toArray, List.getElem?_cons_zero, List.getElem?_cons_succ] at hy0 hy1
    by_cases k2 : client < 0
    · go_wp2_with fail
      refine bodyPost_ret (v := .tuple #[.agg #[.slice AW ws.length cW, .slice AN ns.length cN], .int .i64 1]) (by simp [results, Tryd.results28, go_sem, hy0, hy1, hl4]) rfl ⟨_, _, rfl, HSM.out w1 _ (Below.refl _ _) ?_⟩
      repeat (first | with_reducible exact Tch.refl _ _ | with_reducible apply Tch.drew | with_reducible refine Tch.setCell ?_ (.inl (by simp <;> omega)) _ | with_reducible refine Tch.below ?_ (below_alloc (Below.refl _ _) _))
    · have k3 : client ≥ 8 := by omega
      go_wp2_with fail
      refine bodyPost_ret (v := .tuple #[.agg #[.slice AW ws.length cW, .slice AN ns.length cN], .int .i64 1]) (by simp [results, Tryd.results28, go_sem, hy0, hy1, hl4]) rfl ⟨_, _, rfl, HSM.out w1 _ (Below.refl _ _) ?_⟩
      repeat (first | with_reducible exact Tch.refl _ _ | with_reducible apply Tch.drew | with_reducible refine Tch.setCell ?_ (.inl (by simp <;> omega)) _ | with_reducible refine Tch.below ?_ (below_alloc (Below.refl _ _) _))
  have k2 : ¬ (client < 0) := fun h => k1 (.inl h)
  have k3 : ¬ (client ≥ 8) := fun h => k1 (.inr h)
  go_wp2_with fail
  refine (impl_isPtr.calls ptr _ _ (GM.of HGM.out (below_alloc HB1.out _)) HOKF.out).mono ?_
  rintro e w2 ⟨rfl, hb2⟩
  have hb3 : Below w1.heap.size w1 w2 := below_then (below_alloc (Below.refl _ _) _) (by simp) hb2
  have HG7 := Lib.hid (blk_below (heap_alloc_new w1 (.cells #[.slice AW ws.length cW, .slice AN ns.length cN] 44)) hb2)
  have HG42 := Lib.hid (blk_below HG4.out hb3)
  have HB3 := Lib.hid hb3
  have HZ2 := Lib.hid (show w1.heap.size < w2.heap.size by have := hb2.size; simp at this; omega)
  clear hb2 hb3 HG4
  cases hok : (tokF ptr).2
  · have hRR : R = (ws, 2) := HR.out.trans (by unfold sb; rw [if_neg k1, hok, if_pos rfl])
    subst hRR
    clear hok
    have hy0 := blk_cell HG42.out 0
    have hy1 := blk_cell HG42.out 1
    have hg0 := blk_frozen HG42.out 0
    have hg1 := blk_frozen HG42.out 1
    have hl4 := blk_lt HG42.out
    have hx0 := blk_cell HG7.out 0
    have hx1 := blk_cell HG7.out 1
    have hf0 := blk_frozen HG7.out 0
    have hf1 := blk_frozen HG7.out 1
    have hl7 := blk_lt HG7.out
    simp only [List.getElem?_toArray, List.getElem?_cons_zero, List.getElem?_cons_succ] at hy0 hy1 hx0 hx1
    go_wp2_with fail
    refine bodyPost_ret (v := .tuple #[.agg #[.slice AW ws.length cW, .slice AN ns.length cN], .int .i64 2]) (by simp [results, Tryd.results28, go_sem, hy0, hy1]) rfl ⟨_, _, rfl, HSM.out w2 _ HB3.out ?_⟩
    repeat (first | with_reducible exact Tch.refl _ _ | with_reducible apply Tch.drew | with_reducible refine Tch.setCell ?_ (.inl (by simp <;> omega)) _ | with_reducible refine Tch.below ?_ (below_alloc (Below.refl _ _) _))
  by_cases k4 : room < 1 ∨ room > 100
  · have hRR : R = (ws, 3) := HR.out.trans (by unfold sb; rw [if_neg k1, hok, if_neg (by decide), if_pos k4])
    subst hRR
    clear hok
    have hy0 := blk_cell HG42.out 0
    have hy1 := blk_cell HG42.out 1
    have hg0 := blk_frozen HG42.out 0
    have hg1 := blk_frozen HG42.out 1
    have hl4 := blk_lt HG42.out
    have hx0 := blk_cell HG7.out 0
    have hx1 := blk_cell HG7.out 1
    have hf0 := blk_frozen HG7.out 0
    have hf1 := blk_frozen HG7.out 1
    have hl7 := blk_lt HG7.out
    simp only [List.getElem?_toArray, List.getElem?_cons_zero, List.getElem?_cons_succ] at hy0 hy1 hx0 hx1
    by_cases k5 : room < 1
    · go_wp2_with fail
      refine bodyPost_ret (v := .tuple #[.agg #[.slice AW ws.length cW, .slice AN ns.length cN], .int .i64 3]) (by simp [results, Tryd.results28, go_sem, hy0, hy1]) rfl ⟨_, _, rfl, HSM.out w2 _ HB3.out ?_⟩
      repeat (first | with_reducible exact Tch.refl _ _ | with_reducible apply Tch.drew | with_reducible refine Tch.setCell ?_ (.inl (by simp <;> omega)) _ | with_reducible refine Tch.below ?_ (below_alloc (Below.refl _ _) _))
    · have k6 : room > 100 := by omega
      go_wp2_with fail
      refine bodyPost_ret (v := .tuple #[.agg #[.slice AW ws.length cW, .slice AN ns.length cN], .int .i64 3]) (by simp [results, Tryd.results28, go_sem, hy0, hy1]) rfl ⟨_, _, rfl, HSM.out w2 _ HB3.out ?_⟩
      repeat (first | with_reducible exact Tch.refl _ _ | with_reducible apply Tch.drew | with_reducible refine Tch.setCell ?_ (.inl (by simp <;> omega)) _ | with_reducible refine Tch.below ?_ (below_alloc (Below.refl _ _) _))
  have k5 : ¬ (room < 1) := fun h => k4 (.inl h)
  have k6 : ¬ (room > 100) := fun h => k4 (.inr h)
  have hRR : R = (wo (fnd client 0 ws) 0 ws ++ [⟨client, ptr, room, version, false, []⟩], 0) := HR.out.trans (by unfold sb; rw [if_neg k1, hok, if_neg (by decide), if_neg k4])
  subst hRR
  clear hok k1 k4 HSM
  have HS02 := Lib.hid (Kd.S_below HS0.out HB3.out)
  have HS12 := Lib.hid (Kd.S_below HS1.out HB3.out)
  clear HS0 HS1
  have hx0 := blk_cell HG7.out 0
  have hx1 := blk_cell HG7.out 1
  simp only [List.getElem?_toArray, List.getElem?_cons_zero, List.getElem?_cons_succ] at hx0 hx1
  go_wp2_with fail
  refine (watch_of ws .nilFunc AW cW AN ns.length cN client w2 _ (Kd.S_reads' HS02.out).2.2 (Below.refl _ _) HFW.out.1).mono ?_
  rintro e w3 ⟨rfl, hb4⟩
  have HG73 := Lib.hid (blk_below HG7.out hb4)
  have HG43 := Lib.hid (blk_below HG42.out hb4)
  have HS03 := Lib.hid (Kd.S_below HS02.out hb4)
  have HS13 := Lib.hid (Kd.S_below HS12.out hb4)
  have HB4 := Lib.hid (HB1.out.trans ((HB3.out.trans (hb4.mono HB3.out.size)).mono HB1.out.size))
  have HZ3 := Lib.hid (show w1.heap.size < w3.heap.size by have := HZ2.out; have := hb4.size; omega)
  clear hb4 hx0 hx1 HG7 HG42 HS02 HS12
  have hmx : ws.length ≤ 4194304 := HFW.out.1
  rcases fnd_cases client ws 0 with hf | ⟨j, hj, hf⟩
  · have HF := Lib.hid hf
    have hneg : fnd client 0 ws < 0 := by omega
    rw [HF.out]
    have HWO := Lib.hid (show wo (fnd client 0 ws) 0 ws = ws by rw [hf]; exact wo_all _ _ _ (fun j _ _ => by omega))
    clear hf hneg
    have hx0 := blk_cell HG73.out 0
    have hx1 := blk_cell HG73.out 1
    have hf0 := blk_frozen HG73.out 0
    have hl7 := blk_lt HG73.out
    simp only [List.getElem?_toArray, List.getElem?_cons_zero, List.getElem?_cons_succ] at hx0 hx1
    have hbs := HB4.out.size
    have hw7 : w.heap.size + 1 ≠ w1.heap.size := by have := HH1.out; omega
    go_wp2_with (first | ((with_reducible refine gate_builtin (b := .append) (xs := #[.tmp 50, .tmp 56]) rfl ?_); at_builtin; refine Kd.S_append ms76 (w0 := w) (W := w3) w.heap.size rfl (.tmp 50) (.tmp 56) 41 76 (.agg #[.int .i64 0, .string ⟨#[]⟩, .int .i64 0, .int .i64 0, .bool false, .slice none 0 0]) 72 rfl Tryd.underlying41 info76 rfl (by decide) (by omega) (.slice AW ws.length cW) ws (⟨client, ptr, room, version, false, []⟩ : S76) [.int .i64 client, .string ptr, .int .i64 room, .int .i64 version, .bool false, .slice none 0 0] (fun k => ((w.heap.size + 2 ≤ k ∧ k < m) ∧ k < w1.heap.size) ∨ w3.heap.size ≤ k) (fun _ => False) rfl rfl (ms76_mk (⟨client, ptr, room, version, false, []⟩ : S76) (Kd.S_nil _ _ _ _ _)) (fun k hk => hk.elim) (fun k hk => .inr hk) (Kd.S_mono HS03.out (fun k hk => ⟨.inl hk, fun h => h⟩)) HB4.out hbs (by omega) ?_; intro v3 w5 hS hB5 hg hat; obtain ⟨A3, n3, hv3⟩ := Kd.S_slice hS; rw [List.length_append, List.length_singleton] at hv3; subst hv3; have HS5 := Lib.hid (S_now hS); have hne : ∀ k, (k < w.heap.size + 2 ∨ m ≤ k) → some k ≠ (Value.ownBlock (.slice AW ws.length cW)) := (fun k hk he => by have h1 := HS03.out; obtain ⟨f, h0, _⟩ := h1; have := h0 k he.symm; omega); have HG75 := Lib.hid (blk_grown HG73.out hg (hne _ (.inr (by have := HH1.out; omega)))); have HG45 := Lib.hid (blk_grown HG43.out hg (hne _ (.inl (by omega)))); have HS15 := Lib.hid (Kd.S_grown HS13.out hg (fun k hk => hne k (.inr hk.1))); have HB5 := Lib.hid hB5; have HZ5 := Lib.hid hg.size; have hx0 := blk_cell HG75.out 0; have hx1 := blk_cell HG75.out 1; have hf0 := blk_frozen HG75.out 0; have hy0 := blk_cell HG45.out 0; have hy1 := blk_cell HG45.out 1; have hg0 := blk_frozen HG45.out 0; have hg1 := blk_frozen HG45.out 1; simp only [List.getElem?_toArray, List.getElem?_cons_zero, List.getElem?_cons_succ] at hx0 hx1 hy0 hy1; clear hS hB5 hg hat hne))
    refine bodyPost_ret (v := .tuple #[.agg #[.slice A3 (ws.length + 1) n3, .slice AN ns.length cN], .int .i64 0]) (by simp [results, Tryd.results28, go_sem, hy0, hy1]) rfl ⟨_, _, rfl, ?_⟩
    have ht : ∀ w', Tch w5 w' (fun k => k = w.heap.size + 1 ∨ k = w1.heap.size) → HubG w' w.heap.size w'.heap.size (.slice A3 (ws.length + 1) n3) (.slice AN ns.length cN) (ws ++ [(⟨client, ptr, room, version, false, []⟩ : S76)]) ns ∧ Below w.heap.size w w' := by
      intro w' ht
      have hsz := ht.kept.1
      have hm1 := HH1.out
      have hz3 := HZ3.out
      have hz5 := HZ5.out
      refine ⟨hubG_of (m := m) (n := w1.heap.size) (T_kept (T_imp (T_lower (T_of_S HS5.out) (Nat.zero_le _)) rfl (fun _ _ _ h => ms_m76 h)) ht.kept (fun k hk h => by omega)) (T_kept (T_imp (T_lower (T_of_S HS15.out) (Nat.zero_le _)) rfl (fun _ _ _ h => k_m87 h)) ht.kept (fun k hk h => by omega)) (fun k hk => by omega) (fun k hk => by omega), ?_⟩
      exact below_tch HB5.out ht (fun k hk => by omega)
    simp only [HWO.out]
    refine ht _ ?_
    repeat (first | with_reducible exact Tch.refl _ _ | with_reducible apply Tch.drew | with_reducible refine Tch.setCell ?_ (.inl (by simp)) _)
  · have hf2 : fnd client 0 ws = (j : Int) := by rw [hf]; simp
    have HF := Lib.hid hf2
    rw [HF.out]
    have HWO := Lib.hid (show wo (fnd client 0 ws) 0 ws = ws.eraseIdx j by rw [hf2, wo_erase j 0 ws (Nat.zero_le _), Nat.sub_zero])
    clear hf hf2
    obtain ⟨gW, cW', hv, hgb, hgl, _⟩ := Kd.S_form HS03.out (by omega)
    injection hv with h1 h2 h3
    subst h1; subst h3
    have hokg : (w.heap.size + 2 ≤ gW ∧ gW < m) ∧ gW < w1.heap.size := by
      obtain ⟨f, h0, _⟩ := HS03.out
      exact h0 gW rfl
    have HOK := Lib.hid hokg
    obtain ⟨n1, hn1⟩ : ∃ n1, ws.length = n1 + 1 := ⟨ws.length - 1, by omega⟩
    have HN1 := Lib.hid hn1
    have hn1' : n1 ≤ 4194304 := by omega
    have hle1 : (ws.eraseIdx j).length = n1 := by rw [List.length_eraseIdx_of_lt hj]; omega
    have HLE := Lib.hid hle1
    clear hokg hgb hgl hn1 hle1
    have hj0 : (j : Int) ≥ 0 := by omega
    have hx0 := blk_cell HG73.out 0
    simp only [List.getElem?_toArray, List.getElem?_cons_zero, List.getElem?_cons_succ] at hx0
    go_wp2_with fail
    refine (delete_watch ws gW cW j w.heap.size _ w3 HS03.out hj hmx HB4.out.size).mono ?_
    rw [show ws.length - 1 = n1 by have := HN1.out; omega]
    rintro e w4 ⟨rfl, hS4, ht4⟩
    have hgx : gW ≠ w1.heap.size := by have := HOK.out; omega
    have HG74 := Lib.hid (blk_kept HG73.out ht4.kept (fun h => hgx h.symm))
    have HG44 := Lib.hid (blk_far (blk_kept HG43.out ht4.kept (fun h => by have := HOK.out; omega)) (p := ⟨w1.heap.size, 0, none⟩) (by show w.heap.size + 1 ≠ w1.heap.size; have := HOK.out; omega) (.slice (some ⟨gW, 0, none⟩) n1 cW))
    have hg7 := blk_set HG74.out 0 (.slice (some ⟨gW, 0, none⟩) n1 cW)
    simp only [List.setIfInBounds_toArray, List.set_cons_zero] at hg7
    have HG75 := Lib.hid hg7
    have HS04 := Lib.hid (Kd.S_far hS4 (p := ⟨w1.heap.size, 0, none⟩) (fun k hk => by show k ≠ w1.heap.size; omega) (.slice (some ⟨gW, 0, none⟩) n1 cW))
    have HS14 := Lib.hid (Kd.S_far (Kd.S_kept HS13.out ht4.kept (fun k hk h => by have := HOK.out; omega)) (p := ⟨w1.heap.size, 0, none⟩) (fun k hk => by show k ≠ w1.heap.size; omega) (.slice (some ⟨gW, 0, none⟩) n1 cW))
    have HB5' := Lib.hid (show Below w.heap.size w (w4.setCell ⟨w1.heap.size, 0, none⟩ (.slice (some ⟨gW, 0, none⟩) n1 cW)) from (below_tch HB4.out ht4 (fun k hk => by have := HOK.out; omega)).setCell (by show w.heap.size ≤ w1.heap.size; have := HOK.out; omega) _)
    have HZ4 := Lib.hid (show w1.heap.size < w4.heap.size by have := ht4.kept.1; have := HZ3.out; omega)
    have hy7 := blk_cell HG74.out 0
    have hf7 := blk_frozen HG74.out 0
    simp only [List.getElem?_toArray, List.getElem?_cons_zero, List.getElem?_cons_succ] at hy7
    clear hS4 ht4 hx0 hg7
    have hx0 := blk_cell HG75.out 0
    have hx1 := blk_cell HG75.out 1
    have hf0 := blk_frozen HG75.out 0
    have hl7 := blk_lt HG75.out
    simp only [List.getElem?_toArray, List.getElem?_cons_zero, List.getElem?_cons_succ] at hx0 hx1
    have hbs := HB5'.out.size
    have hw7 : w.heap.size + 1 ≠ w1.heap.size := by have := HH1.out; omega
    go_wp2_with (first | ((with_reducible refine gate_builtin (b := .append) (xs := #[.tmp 50, .tmp 56]) rfl ?_); at_builtin; refine Kd.S_append ms76 (w0 := w) (W := (w4.setCell ⟨w1.heap.size, 0, none⟩ (.slice (some ⟨gW, 0, none⟩) n1 cW))) w.heap.size rfl (.tmp 50) (.tmp 56) 41 76 (.agg #[.int .i64 0, .string ⟨#[]⟩, .int .i64 0, .int .i64 0, .bool false, .slice none 0 0]) 72 rfl Tryd.underlying41 info76 rfl (by decide) (by omega) (.slice (some ⟨gW, 0, none⟩) n1 cW) (ws.eraseIdx j) (⟨client, ptr, room, version, false, []⟩ : S76) [.int .i64 client, .string ptr, .int .i64 room, .int .i64 version, .bool false, .slice none 0 0] (fun k => ((w.heap.size + 2 ≤ k ∧ k < m) ∧ k < w1.heap.size) ∨ (w4.setCell ⟨w1.heap.size, 0, none⟩ (.slice (some ⟨gW, 0, none⟩) n1 cW)).heap.size ≤ k) (fun _ => False) rfl (by simp only [size_set]; rfl) (ms76_mk (⟨client, ptr, room, version, false, []⟩ : S76) (Kd.S_nil _ _ _ _ _)) (fun k hk => hk.elim) (fun k hk => .inr hk) (Kd.S_mono HS04.out (fun k hk => ⟨.inl hk, fun h => h⟩)) HB5'.out hbs (by (try rw [HLE.out]); omega) ?_; intro v3 w5 hS hB5 hg hat; obtain ⟨A3, n3, hv3⟩ := Kd.S_slice hS; rw [List.length_append, List.length_singleton, HLE.out] at hv3; subst hv3; have HS5 := Lib.hid (S_now hS); have hne : ∀ k, (k < w.heap.size + 2 ∨ m ≤ k) → some k ≠ (Value.ownBlock (.slice (some ⟨gW, 0, none⟩) n1 cW)) := (fun k hk he => by have h1 := HS04.out; obtain ⟨f, h0, _⟩ := h1; have := h0 k he.symm; omega); have HG75 := Lib.hid (blk_grown HG75.out hg (hne _ (.inr (by have := HH1.out; omega)))); have HG45 := Lib.hid (blk_grown HG44.out hg (hne _ (.inl (by omega)))); have HS15 := Lib.hid (Kd.S_grown HS14.out hg (fun k hk => hne k (.inr hk.1))); have HB5 := Lib.hid hB5; have HZ5 := Lib.hid hg.size; have hx0 := blk_cell HG75.out 0; have hx1 := blk_cell HG75.out 1; have hf0 := blk_frozen HG75.out 0; have hy0 := blk_cell HG45.out 0; have hy1 := blk_cell HG45.out 1; have hg0 := blk_frozen HG45.out 0; have hg1 := blk_frozen HG45.out 1; simp only [List.getElem?_toArray, List.getElem?_cons_zero, List.getElem?_cons_succ] at hx0 hx1 hy0 hy1; clear hS hB5 hg hat hne))
    refine bodyPost_ret (v := .tuple #[.agg #[.slice A3 (n1 + 1) n3, .slice AN ns.length cN], .int .i64 0]) (by simp [results, Tryd.results28, go_sem, hy0, hy1]) rfl ⟨_, _, rfl, ?_⟩
    have ht : ∀ w', Tch w5 w' (fun k => k = w.heap.size + 1 ∨ k = w1.heap.size) → HubG w' w.heap.size w'.heap.size (.slice A3 (n1 + 1) n3) (.slice AN ns.length cN) ((ws.eraseIdx j) ++ [(⟨client, ptr, room, version, false, []⟩ : S76)]) ns ∧ Below w.heap.size w w' := by
      intro w' ht
      have hsz := ht.kept.1
      have hm1 := HH1.out
      have hz3 := HZ4.out
      have hz5 := HZ5.out
      refine ⟨hubG_of (m := m) (n := w1.heap.size) (T_kept (T_imp (T_lower (T_of_S HS5.out) (Nat.zero_le _)) rfl (fun _ _ _ h => ms_m76 h)) ht.kept (fun k hk h => by simp only [size_set] at hk; omega)) (T_kept (T_imp (T_lower (T_of_S HS15.out) (Nat.zero_le _)) rfl (fun _ _ _ h => k_m87 h)) ht.kept (fun k hk h => by omega)) (fun k hk => by simp only [size_set] at hk; omega) (fun k hk => by omega), ?_⟩
      exact below_tch HB5.out ht (fun k hk => by omega)
    simp only [HWO.out]
    refine ht _ ?_
    repeat (first | with_reducible exact Tch.refl _ _ | with_reducible apply Tch.drew | with_reducible refine Tch.setCell ?_ (.inl (by simp)) _)
end Go.Proofs.YtmphkhkbegihaaaDoor.HubLaw
