/- The method tell of a watch, by hand. -/
import Derived.Test.YtmphkhkbegihaaaDoorRingN
import Derived.BigQuiet
import Derived.Deep.QuietTactic
namespace Go.Proofs.YtmphkhkbegihaaaDoor.Tell
open Go Go.RowKit Go.Proofs.YtmphkhkbegihaaaDoor.PHub Go.Proofs.YtmphkhkbegihaaaDoorW.PrintWords Go.Proofs.YtmphkhkbegihaaaDoor.Tree Go.Proofs.YtmphkhkbegihaaaDoor.Mark Go.Proofs.YtmphkhkbegihaaaDoor.To Go.Proofs.YtmphkhkbegihaaaDoor.Copy Go.Proofs.YtmphkhkbegihaaaDoor.Near Go.Proofs.YtmphkhkbegihaaaDoor.RingN Go.Proofs.YtmphkhkbegihaaaDoor.Own Go.Proofs.YtmphkhkbegihaaaDoor.HubLaw
set_option linter.unusedVariables false
set_option linter.unusedSimpArgs false

/-- A watch after it was told news. -/
def tellF (x : S76) (n0 : Int) (ps : List ByteArray) : S76 :=
  if x.f4 = true ∨ x.f3 ≥ n0 then x else if keepN x.f1 ps = [] then x
  else if (x.f5.length : Int) < x.f2 then ⟨x.f0, x.f1, x.f2, x.f3, x.f4, x.f5 ++ [⟨n0, keepN x.f1 ps, false⟩]⟩
  else ⟨x.f0, x.f1, x.f2, x.f3, true, x.f5 ++ [⟨n0, [], true⟩]⟩
/-- What a call of tell leaves of the watch's cells and of its queue. -/
def Told (w : World) (gW o : Nat) (cur : Array Value) (x : S76) (F : Nat → Prop) (base : Nat) (n0 : Int) (ps : List ByteArray) (w' : World) : Prop :=
  ∃ cur1 v5', w'.heap[gW]? = some (.cells cur1 76 (0, 0)) ∧ cur1.size = cur.size ∧ (∀ p, p < o ∨ o + 6 ≤ p → cur1[p]? = cur[p]?) ∧
    cut cur1 o 6 = [.int .i64 x.f0, .string x.f1, .int .i64 x.f2, .int .i64 x.f3, .bool (tellF x n0 ps).f4, v5'] ∧ Kd.S k112 112 w' base (fun k => F k ∨ w.heap.size ≤ k) v5' (tellF x n0 ps).f5 ∧ Tch w w' (fun k => k = gW ∨ F k)
theorem told_same {w w' : World} {gW o : Nat} {cur : Array Value} {x : S76} {F : Nat → Prop} {base : Nat} {n0 : Int} {ps : List ByteArray} {v5 : Value} (hcur : w.heap[gW]? = some (.cells cur 76 (0, 0)))
    (hcut : cut cur o 6 = [.int .i64 x.f0, .string x.f1, .int .i64 x.f2, .int .i64 x.f3, .bool x.f4, v5]) (hS : Kd.S k112 112 w base F v5 x.f5) (ht : Tch w w' (fun _ => False)) (hx : tellF x n0 ps = x) : Told w gW o cur x F base n0 ps w' := by
  refine ⟨cur, v5, blk_kept hcur ht.kept (fun h => h), rfl, fun _ _ => rfl, by rw [hx]; exact hcut, ?_, ht.mono (fun k h => h.elim)⟩
  rw [hx]
  exact Kd.S_mono (Kd.S_kept hS ht.kept (fun k _ h => h)) (fun k hk => .inl hk)

set_option maxRecDepth 100000 in
set_option maxHeartbeats 8000000 in
theorem tell (x : S76) (n0 : Int) (ps : List ByteArray) (A1 : Option Addr) (c1 gW o : Nat) (F : Nat → Prop) (base : Nat) (v5 : Value) (cur : Array Value) (wG w : World)
    (hcur : w.heap[gW]? = some (.cells cur 76 (0, 0))) (hcut : cut cur o 6 = [.int .i64 x.f0, .string x.f1, .int .i64 x.f2, .int .i64 x.f3, .bool x.f4, v5]) (hS : Kd.S k112 112 w base F v5 x.f5) (hFW : ¬ F gW)
    (hr : Kd.C Kd.string w A1 ps.length ps) (hc : ps.length ≤ c1) (hps : ps.length ≤ 4194304) (hsz : ∀ p ∈ ps, p.size ≤ 4194304) (hx1 : x.f1.size ≤ 4194304) (hx5 : x.f5.length ≤ 4194304) (hG : GM wG) (hbG : Below wG.heap.size wG w) (hbase : base ≤ w.heap.size) :
    Calls Tryd.prog 66 #[.pointer (some ⟨gW, o, none⟩), .agg #[.int .i64 n0, .slice A1 ps.length c1]] w fun e w' => e = .returned (.tuple #[]) ∧ Told w gW o cur x F base n0 ps w' := by
  obtain ⟨A5, c5, rfl⟩ := Kd.S_slice hS
  have hgl := blk_lt hcur
  have hB2 : Below w.heap.size w ((w.alloc (.cells #[.pointer (some ⟨gW, o, none⟩)] 120)).alloc (.cells #[.int .i64 n0, .slice A1 ps.length c1] 87)) := below_alloc (below_alloc (Below.refl _ _) _) _
  have a1 : w.cell? ⟨gW, o + 1, none⟩ = some (.string x.f1) := cut_cell hcur hcut rfl
  have a2 : w.cell? ⟨gW, o + 2, none⟩ = some (.int .i64 x.f2) := cut_cell hcur hcut rfl
  have a3 : w.cell? ⟨gW, o + 3, none⟩ = some (.int .i64 x.f3) := cut_cell hcur hcut rfl
  have a4 : w.cell? ⟨gW, o + 4, none⟩ = some (.bool x.f4) := cut_cell hcur hcut rfl
  have a5 : w.cell? ⟨gW, o + 5, none⟩ = some (.slice A5 x.f5.length c5) := cut_cell hcur hcut rfl
  have b3 := (hB2.cell (p := ⟨gW, o + 3, none⟩) hgl).trans a3
  have b4 := (hB2.cell (p := ⟨gW, o + 4, none⟩) hgl).trans a4
  have HA1 := Lib.hid a1
  have HA2 := Lib.hid a2
  have HA4 := Lib.hid a4
  have HA5 := Lib.hid a5
  have HCUR := Lib.hid hcur
  have HCUT := Lib.hid hcut
  have HS := Lib.hid hS
  have HR := Lib.hid hr
  have HC := Lib.hid hc
  have HSZ := Lib.hid hsz
  have HGM := Lib.hid hG
  have HBG := Lib.hid hbG
  have HB2 := Lib.hid hB2
  clear a1 a2 a3 a4 a5 hcur hcut hS hr hc hsz hG hbG hB2
  go_enter Tryd.func66, Tryd.ntmps66
  go_wp2_with fail
  cases h4 : x.f4
  · rw [h4] at b4
    by_cases h3 : x.f3 ≥ n0
    · go_region
      all_goals
        go_wp2_with fail
        refine bodyPost_ret (results_none rfl _ _ _) rfl ?_
        refine ⟨rfl, told_same HCUR.out HCUT.out HS.out ?_ (by unfold tellF; rw [if_pos (Or.inr h3)])⟩
        repeat (first | with_reducible exact Tch.refl _ _ | with_reducible apply RingN.Tch.drew | with_reducible refine Tch.setCell ?_ (.inr (by simp <;> omega)) _ | with_reducible refine Tch.below ?_ (below_alloc (Below.refl _ _) _))
    · have hmf : ∀ (fn : Fn) (first cap : Array Value) (w : World), (Instr.makeFunc fn first cap).run Tryd.prog w = .ok (.func fn first cap) w := fun _ _ _ _ => rfl
      have HM := Lib.hid (blk_alloc (heap_alloc_new w (.cells #[.pointer (some ⟨gW, o, none⟩)] 120)) (.cells #[.int .i64 n0, .slice A1 ps.length c1] 87))
      have hn2 := heap_alloc_new (w.alloc (.cells #[.pointer (some ⟨gW, o, none⟩)] 120)) (.cells #[.int .i64 n0, .slice A1 ps.length c1] 87)
      rw [World.size_alloc] at hn2
      have HN2 := Lib.hid hn2
      have HX := Lib.hid (show ¬ (x.f4 = true ∨ x.f3 ≥ n0) from fun h => by rcases h with h | h; rw [h4] at h; cases h; exact h3 h)
      clear hn2
      go_region
      all_goals
        clear b3 b4
        go_wp2_with fail
        refine (clone_str ps A1 c1 _ _ (Kd.C_below HR.out HB2.out) HC.out (below_drew (Below.refl _ _)) hps).mono ?_
        rintro e w1 ⟨v, rfl, hR1, hb1⟩
        have hb2 : Below w.heap.size w w1 := below_then (below_drew HB2.out) (by have := HB2.out.size; exact this) hb1
        have HM1 := Lib.hid (blk_below (blk_drew HM.out) hb1)
        have HN1 := Lib.hid (blk_below (blk_drew HN2.out) hb1)
        have hz1 : w.heap.size + 2 ≤ w1.heap.size := by have := hb1.size; simp at this; omega
        have hR2 := Kd.R_mono (Kd.R_lower (Kd.R_bound hR1) (base' := w.heap.size + 2) (by simp)) (ok' := fun k => w.heap.size + 2 ≤ k ∧ k < w1.heap.size) (fun k hk => ⟨by have := hk.2.1; simp at this; omega, hk.2.2.1⟩)
        have hg0 : 0 < w.heap.size := by omega
        have HB1 := Lib.hid hb2
        have HR2 := Lib.hid hR2
        obtain ⟨Av, cv, rfl⟩ := Kd.R_slice hR1
        clear hb1 hb2 hR1 hR2
        go_wp2_with fail
        refine (delete_near x.f1 ps (w.heap.size + 2) _ _ w.heap.size gW o w1 HR2.out hps HSZ.out hx1 HM1.out ((HB1.out.cell (p := ⟨gW, o + 1, none⟩) hgl).trans HA1.out) (Nat.lt_of_lt_of_le hgl HB1.out.size) (GM.of HGM.out (HBG.out.trans (HB1.out.mono HBG.out.size))) hz1 (fun k hk => ⟨by omega, by omega, by omega⟩) (fun w2 ht => GM.of HGM.out (below_tch (HBG.out.trans (HB1.out.mono HBG.out.size)) ht (fun k hk => by have := HR2.out.1 k hk.symm; have := HBG.out.size; omega)))).mono ?_
        rintro e w2 ⟨v2, rfl, hR3, ht2⟩
        obtain ⟨Ak, ck, rfl⟩ := Kd.R_slice hR3
        have hS1 : ∀ k, some k = (Value.slice Av ps.length cv).ownBlock → w.heap.size + 2 ≤ k := fun k hk => (HR2.out.1 k hk.symm).1
        have hb3 : Below w.heap.size w w2 := below_tch HB1.out ht2 (fun k hk => by have := hS1 k hk; omega)
        have HM2 := Lib.hid (blk_kept HM1.out ht2.kept (fun h => by have := hS1 _ h; omega))
        have HN3 := Lib.hid (blk_kept HN1.out ht2.kept (fun h => by have := hS1 _ h; omega))
        have HR3 := Lib.hid hR3
        have HB3 := Lib.hid hb3
        have hz2 : w1.heap.size ≤ w2.heap.size := ht2.kept.1
        clear hR3 ht2 hb3 hS1
        obtain ⟨kp, hkp⟩ : ∃ kp, kp = keepN x.f1 ps := ⟨_, rfl⟩
        rw [← hkp] at HR3 ⊢
        have HKP := Lib.hid hkp
        clear hkp
        by_cases hk : kp = []
        · have hk2 : keepN x.f1 ps = [] := by rw [← HKP.out]; exact hk
          rw [hk]
          simp only [List.length_nil]
          go_wp2_with fail
          refine bodyPost_ret (results_none rfl _ _ _) rfl ?_
          refine ⟨rfl, told_same HCUR.out HCUT.out HS.out ?_ (by unfold tellF; rw [if_neg HX.out, if_pos hk2])⟩
          exact Tch.of_below HB3.out _
        have hkl : 0 < kp.length := List.length_pos_iff.2 hk
        have hkn : ((kp.length : Int) == 0) = false := by simp; omega
        have hm2 := blk_cell HM2.out 0
        have hn3 := blk_cell HN3.out 0
        have h5 := (HB3.out.cell (p := ⟨gW, o + 5, none⟩) hgl).trans HA5.out
        have h2 := (HB3.out.cell (p := ⟨gW, o + 2, none⟩) hgl).trans HA2.out
        simp only [List.getElem?_toArray, List.getElem?_cons_zero, List.getElem?_cons_succ] at hm2 hn3
        have hgl2 : gW < w2.heap.size := by omega
        go_wp2_with fail
        have hb9 : Below w2.heap.size w2 (w2.alloc (.cells #[.slice A5 x.f5.length c5, .int .i64 0, .int .i64 0] 124)) := below_alloc (Below.refl _ _) _
        have p5 := (hb9.cell (p := ⟨gW, o + 5, none⟩) hgl2).trans h5
        have p2 := (hb9.cell (p := ⟨gW, o + 2, none⟩) hgl2).trans h2
        have pm := blk_cell (blk_alloc HM2.out (.cells #[.slice A5 x.f5.length c5, .int .i64 0, .int .i64 0] 124)) 0
        have pn := blk_cell (blk_alloc HN3.out (.cells #[.slice A5 x.f5.length c5, .int .i64 0, .int .i64 0] 124)) 0
        simp only [List.getElem?_toArray, List.getElem?_cons_zero, List.getElem?_cons_succ] at pm pn
        have HQ := Lib.hid (blk_drew (heap_alloc_new w2 (.cells #[.slice A5 x.f5.length c5, .int .i64 0, .int .i64 0] 124)))
        have HSQ := Lib.hid (show Kd.S k112 112 ((w2.alloc (.cells #[.slice A5 x.f5.length c5, .int .i64 0, .int .i64 0] 124)).drew) base (fun k => F k ∧ k < w.heap.size) (.slice A5 x.f5.length c5) x.f5 from Kd.S_drew (Kd.S_below (Kd.S_mono (Kd.S_below (Kd.S_bound HS.out) HB3.out) (fun k hk => ⟨hk.1, hk.2.2.1⟩)) hb9))
        clear hb9
        by_cases hlt : (x.f5.length : Int) < x.f2
        · go_region
          all_goals
            clear hm2 h5 h2 p5 p2
            have hpR : Kd.string.R 9 ((w2.alloc (.cells #[.slice A5 x.f5.length c5, .int .i64 0, .int .i64 0] 124)).drew) base (fun k => w.heap.size + 2 ≤ k ∧ k < w1.heap.size) (.slice Ak kp.length ck) (⟨n0, kp, false⟩ : S112).f1 := Kd.R_drew (Kd.R_below (Kd.R_lower HR3.out (by omega)) (below_alloc (Below.refl _ _) _))
            have HPR := Lib.hid hpR
            clear hpR
            have hnlt : decide ((x.f5.length : Int) < x.f2) = true := decide_eq_true hlt
            go_wp2_with fail
            refine (ring_put w2.heap.size c5 A5 Ak ck 0 0 x.f5 (⟨n0, kp, false⟩ : S112) (fun k => F k ∧ k < w.heap.size) _ base _ HQ.out HSQ.out HPR.out (fun k hk hF => by have := hF.2; omega) (fun h => by have := h.2; omega) (fun h => by omega) (by show base ≤ (w2.alloc _).heap.size; rw [World.size_alloc]; omega) hx5 (by decide) (by decide)).mono ?_
            rintro e w4 ⟨rfl, A6, c6, hq4, hS4, ht4⟩
            have hz4 : w2.heap.size < w4.heap.size := by have := ht4.kept.1; simp at this; omega
            have hcur4 : w4.heap[gW]? = some (.cells cur 76 (0, 0)) := blk_kept (blk_drew (blk_alloc (blk_below HCUR.out HB3.out) _)) ht4.kept (fun h => by rcases h with h | h; omega; exact hFW h.1)
            have HM4 := Lib.hid (blk_kept (blk_drew (blk_alloc HM2.out (.cells #[.slice A5 x.f5.length c5, .int .i64 0, .int .i64 0] 124))) ht4.kept (fun h => by rcases h with h | h; omega; have := h.2; omega))
            have hT4 : Tch w w4 (fun k => k = gW ∨ F k) := ((Tch.of_below HB3.out (fun k => k = gW ∨ F k)).below (below_drew (below_alloc (Below.refl _ _) _))).then_ ht4 (fun k hk => by rcases hk with hk | hk; right; omega; exact .inl (.inr hk.1))
            have HS4 := Lib.hid hS4
            have HT4 := Lib.hid hT4
            have HQ4 := Lib.hid hq4
            have HM5 := HM4
            have HC5 := Lib.hid hcur4
            have HS5 := Lib.hid (Kd.S_mono HS4.out (fun k hk => hk))
            have HT5 := HT4
            have hzz : w4.heap.size = w4.heap.size := rfl
            clear hq4 hS4 ht4 hT4 hcur4
            go_wp2_with fail
            obtain ⟨w5, hW⟩ : ∃ w5, w5 = w4 := ⟨_, rfl⟩
            rw [← hW] at HQ4 HM5 HC5 HS5 HT5 ⊢
            have hzz : w4.heap.size = w5.heap.size := by rw [hW]
            clear hW HS4 HT4 HM4
            have hc5 : cur[o + 5]? = some (.slice A5 x.f5.length c5) := by have h := cut_get cur o 6 5; rw [HCUT.out, if_pos (by decide)] at h; exact h.symm
            have hl5 : w2.heap.size < w5.heap.size := by omega
            have hm5 := blk_cell HM5.out 0
            simp only [List.getElem?_toArray, List.getElem?_cons_zero, List.getElem?_cons_succ] at hm5
            have HC5e := Lib.hid hc5
            clear hc5
            go_region_with (first | (go_at_call 91; refine (ring_list0 w2.heap.size (x.f5.length + 1) c6 A6 (0 + 1) _ (by have h := (Kd.S_reads' HS5.out).2.1; simpa using h) (by omega) (blk_drew HQ4.out)).mono ?_; (rintro e w6 ⟨rfl, hb6⟩); (have hb7 : Below w5.heap.size w5 w6 := below_then (below_drew (Below.refl _ _)) (Nat.le_refl _) hb6); (have gm := blk_cell (blk_below HM5.out hb7) 0); (have gc := blk_cell (blk_below HC5.out hb7) (o + 5)); (have gf := blk_frozen (blk_below HC5.out hb7) (o + 5)); (rw [HC5e.out] at gc); (simp only [List.getElem?_toArray, List.getElem?_cons_zero, List.getElem?_cons_succ] at gm); (have HB7 := Lib.hid hb7); clear hb6 hb7))
            all_goals
              clear gm gc gf hm5
              go_wp2_with fail
              go_end0
              have hTF : tellF x n0 ps = ⟨x.f0, x.f1, x.f2, x.f3, x.f4, x.f5 ++ [⟨n0, keepN x.f1 ps, false⟩]⟩ := by unfold tellF; rw [if_neg HX.out, if_neg (by rw [← HKP.out]; exact hk), if_pos (by omega)]
              refine ⟨rfl, cur.setIfInBounds (o + 5) (.slice A6 (x.f5.length + 1) c6), .slice A6 (x.f5.length + 1) c6, blk_set (blk_below HC5.out HB7.out) (o + 5) _, by simp, fun p hp => set_out (by omega), ?_, ?_, ?_⟩
              · rw [hTF, set_cut (by decide), HCUT.out]; rfl
              · rw [hTF, ← HKP.out]
                refine Kd.S_mono (Kd.S_far (p := ⟨gW, o + 5, none⟩) (Kd.S_below HS5.out HB7.out) (fun k hk => ?_) _) (fun k hk => ?_)
                · show k ≠ gW
                  rcases hk with hk | hk | hk
                  · rintro rfl; exact hFW hk.1
                  · omega
                  · simp at hk; omega
                · rcases hk with hk | hk | hk
                  · exact .inl hk.1
                  · exact .inr (by omega)
                  · simp at hk; exact .inr (by omega)
              · exact (HT5.out.below HB7.out).setCell (p := ⟨gW, o + 5, none⟩) (.inl (.inl rfl)) _
        · go_region
          all_goals
            clear hm2 h5 h2 p5 p2
            have hpR : Kd.string.R 9 ((w2.alloc (.cells #[.slice A5 x.f5.length c5, .int .i64 0, .int .i64 0] 124)).drew) base (fun k => False) (.slice none 0 0) (⟨n0, [], true⟩ : S112).f1 := Kd.R_nil _ _ _ _ _
            have HPR := Lib.hid hpR
            clear hpR
            have hnlt : decide ((x.f5.length : Int) < x.f2) = false := decide_eq_false hlt
            go_wp2_with fail
            refine (ring_put w2.heap.size c5 A5 none 0 0 0 x.f5 (⟨n0, [], true⟩ : S112) (fun k => F k ∧ k < w.heap.size) _ base _ HQ.out HSQ.out HPR.out (fun k hk hF => by have := hF.2; exact hk) (fun h => by have := h.2; omega) (fun h => by exact h) (by show base ≤ (w2.alloc _).heap.size; rw [World.size_alloc]; omega) hx5 (by decide) (by decide)).mono ?_
            rintro e w4 ⟨rfl, A6, c6, hq4, hS4, ht4⟩
            have hz4 : w2.heap.size < w4.heap.size := by have := ht4.kept.1; simp at this; omega
            have hcur4 : w4.heap[gW]? = some (.cells cur 76 (0, 0)) := blk_kept (blk_drew (blk_alloc (blk_below HCUR.out HB3.out) _)) ht4.kept (fun h => by rcases h with h | h; omega; exact hFW h.1)
            have HM4 := Lib.hid (blk_kept (blk_drew (blk_alloc HM2.out (.cells #[.slice A5 x.f5.length c5, .int .i64 0, .int .i64 0] 124))) ht4.kept (fun h => by rcases h with h | h; omega; have := h.2; omega))
            have hT4 : Tch w w4 (fun k => k = gW ∨ F k) := ((Tch.of_below HB3.out (fun k => k = gW ∨ F k)).below (below_drew (below_alloc (Below.refl _ _) _))).then_ ht4 (fun k hk => by rcases hk with hk | hk; right; omega; exact .inl (.inr hk.1))
            have HS4 := Lib.hid hS4
            have HT4 := Lib.hid hT4
            have ga4 := (blk_cell hcur4 (o + 4))
            have e4 : cur[o + 4]? = some (.bool x.f4) := by have h := cut_get cur o 6 4; rw [HCUT.out, if_pos (by decide)] at h; exact h.symm
            rw [e4] at ga4
            have gf4 := blk_frozen hcur4 (o + 4)
            have pm := blk_cell HM4.out 0
            simp only [List.getElem?_toArray, List.getElem?_cons_zero, List.getElem?_cons_succ] at pm
            have HQ4 := Lib.hid (blk_far hq4 (p := ⟨gW, o + 4, none⟩) (by show w2.heap.size ≠ gW; omega) (.bool true))
            have HM5 := Lib.hid (blk_far HM4.out (p := ⟨gW, o + 4, none⟩) (by show w.heap.size ≠ gW; omega) (.bool true))
            have HC5 := Lib.hid (blk_set hcur4 (o + 4) (.bool true))
            have HS5 := Lib.hid (Kd.S_far (p := ⟨gW, o + 4, none⟩) HS4.out (fun k hk => by show k ≠ gW; rcases hk with hk | hk | hk; rintro rfl; exact hFW hk.1; exact hk.elim; simp at hk; omega) (.bool true))
            have HT5 := Lib.hid (HT4.out.setCell (p := ⟨gW, o + 4, none⟩) (.inl (.inl rfl)) (.bool true))
            have hzz : w4.heap.size = (w4.setCell ⟨gW, o + 4, none⟩ (.bool true)).heap.size := (size_set _ _ _).symm
            clear hq4 hS4 ht4 hT4 hcur4
            go_wp2_with fail
            clear pm ga4 gf4 e4
            generalize hW : (w4.setCell ⟨gW, o + 4, none⟩ (.bool true)) = w5 at HQ4 HM5 HC5 HS5 HT5 hzz ⊢
            clear hW HS4 HT4 HM4
            have hc5 : (cur.setIfInBounds (o + 4) (.bool true))[o + 5]? = some (.slice A5 x.f5.length c5) := by rw [set_out (by omega)]; have h := cut_get cur o 6 5; rw [HCUT.out, if_pos (by decide)] at h; exact h.symm
            have hl5 : w2.heap.size < w5.heap.size := by omega
            have hm5 := blk_cell HM5.out 0
            simp only [List.getElem?_toArray, List.getElem?_cons_zero, List.getElem?_cons_succ] at hm5
            have HC5e := Lib.hid hc5
            clear hc5
            go_region_with (first | (go_at_call 91; refine (ring_list0 w2.heap.size (x.f5.length + 1) c6 A6 (0 + 1) _ (by have h := (Kd.S_reads' HS5.out).2.1; simpa using h) (by omega) (blk_drew HQ4.out)).mono ?_; (rintro e w6 ⟨rfl, hb6⟩); (have hb7 : Below w5.heap.size w5 w6 := below_then (below_drew (Below.refl _ _)) (Nat.le_refl _) hb6); (have gm := blk_cell (blk_below HM5.out hb7) 0); (have gc := blk_cell (blk_below HC5.out hb7) (o + 5)); (have gf := blk_frozen (blk_below HC5.out hb7) (o + 5)); (rw [HC5e.out] at gc); (simp only [List.getElem?_toArray, List.getElem?_cons_zero, List.getElem?_cons_succ] at gm); (have HB7 := Lib.hid hb7); clear hb6 hb7))
            all_goals
              clear gm gc gf hm5
              go_wp2_with fail
              go_end0
              have hTF : tellF x n0 ps = ⟨x.f0, x.f1, x.f2, x.f3, true, x.f5 ++ [⟨n0, [], true⟩]⟩ := by unfold tellF; rw [if_neg HX.out, if_neg (by rw [← HKP.out]; exact hk), if_neg (by omega)]
              refine ⟨rfl, (cur.setIfInBounds (o + 4) (.bool true)).setIfInBounds (o + 5) (.slice A6 (x.f5.length + 1) c6), .slice A6 (x.f5.length + 1) c6, blk_set (blk_below HC5.out HB7.out) (o + 5) _, by simp, fun p hp => (set_out (by omega)).trans (set_out (by omega)), ?_, ?_, ?_⟩
              · rw [hTF, set_cut (by decide), set_cut (by decide), HCUT.out]; rfl
              · rw [hTF]
                refine Kd.S_mono (Kd.S_far (p := ⟨gW, o + 5, none⟩) (Kd.S_below HS5.out HB7.out) (fun k hk => ?_) _) (fun k hk => ?_)
                · show k ≠ gW
                  rcases hk with hk | hk | hk
                  · rintro rfl; exact hFW hk.1
                  · exact hk.elim
                  · simp at hk; omega
                · rcases hk with hk | hk | hk
                  · exact .inl hk.1
                  · exact hk.elim
                  · simp at hk; exact .inr (by omega)
              · exact (HT5.out.below HB7.out).setCell (p := ⟨gW, o + 5, none⟩) (.inl (.inl rfl)) _
  · rw [h4] at b4
    go_region
    all_goals
      go_wp2_with fail
      refine bodyPost_ret (results_none rfl _ _ _) rfl ?_
      refine ⟨rfl, told_same HCUR.out HCUT.out HS.out ?_ (by unfold tellF; rw [if_pos (Or.inl h4)])⟩
      repeat (first | with_reducible exact Tch.refl _ _ | with_reducible apply RingN.Tch.drew | with_reducible refine Tch.setCell ?_ (.inr (by simp <;> omega)) _ | with_reducible refine Tch.below ?_ (below_alloc (Below.refl _ _) _))
end Go.Proofs.YtmphkhkbegihaaaDoor.Tell
