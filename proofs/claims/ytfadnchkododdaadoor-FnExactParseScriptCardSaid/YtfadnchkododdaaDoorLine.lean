/- (*impl.Script).line: its contract by hand (strings.Cut, strings.Split, two slices of a script that grow). -/
import Derived.Test.YtfadnchkododdaaDoorLineF
import Derived.Test.YtfadnchkododdaaDoorZPk
import Derived.Test.YtfadnchkododdaaDoorTch
import Derived.Test.YtfadnchkododdaaDoorProg
import Derived.Test.YtfadnchkododdaaDoorShelf
import Derived.Deep.QuietTactic
import Derived.BigQuiet
import Derived.Deep.RegionHeld3
import Derived.Deep.RegionWith
import Derived.RegionTactic
import Derived.Outline
import Derived.WalkLawsBesides
import Derived.Lib.Strings
import Derived.Lib.IndexMore
namespace Go.Proofs.YtfadnchkododdaaDoor.Ps
open Go Go.RowKit Go.Proofs.YtfadnchkododdaaDoorW.PrintWords Go.Proofs.YtfadnchkododdaaDoor.PPs Go.Proofs.YtfadnchkododdaaDoor.Tchs
set_option linter.unusedVariables false
set_option linter.unusedSimpArgs false

/-- Block g holds a script. -/
def SI (w : World) (b g : Nat) (doc : ByteArray) (cs : List S46) (ps : List Int) : Prop :=
  ∃ vc vp, w.heap[g]? = some (.cells #[.string doc, vc, vp] 28 (0, 0)) ∧ Kd.R k46 46 w b (fun _ => True) vc cs ∧ Kd.R (Kd.int .i64) 3 w b (fun _ => True) vp ps ∧ b ≤ g
theorem SI.below {w w1 : World} {b g : Nat} {doc : ByteArray} {cs : List S46} {ps : List Int} (h : SI w b g doc cs ps) (hb : Below w.heap.size w w1) : SI w1 b g doc cs ps := by
  obtain ⟨vc, vp, h0, h1, h2, h3⟩ := h
  exact ⟨vc, vp, blk_below h0 hb, Kd.R_below h1 hb, Kd.R_below h2 hb, h3⟩
/-- What is neither block g nor a row of calls or of numbers stays. -/
def FR (w w' : World) (g : Nat) : Prop := ∀ k cells t, w.heap[k]? = some (.cells cells t (0, 0)) → t ≠ 46 → t ≠ 3 → k ≠ g → w'.heap[k]? = some (.cells cells t (0, 0))
theorem FR.refl (w : World) (g : Nat) : FR w w g := fun _ _ _ h _ _ _ => h
theorem FR.below {w w1 w2 : World} {g : Nat} (h : FR w w1 g) (hb : Below w1.heap.size w1 w2) : FR w w2 g := fun k cells t h0 h1 h2 h3 => blk_below (h k cells t h0 h1 h2 h3) hb
theorem FR.grown {w w1 w2 : World} {g e : Nat} {v : Value} (h : FR w w1 g) (hg : w1.grownBy w2 v.ownBlock) (hty : ∀ k, v.ownBlock = some k → ∃ cells, w1.heap[k]? = some (.cells cells e (0, 0))) (he : e = 46 ∨ e = 3) : FR w w2 g := fun k cells t h0 h1 h2 h3 => blk_grown (h k cells t h0 h1 h2 h3) hg (fun hk => by
  obtain ⟨c, hc⟩ := hty k hk.symm
  rw [h k cells t h0 h1 h2 h3] at hc
  injection hc with hc
  injection hc with _ hc
  subst hc
  rcases he with he | he
  · exact h1 he
  · exact h2 he)
theorem FR.set {w w1 : World} {g : Nat} (h : FR w w1 g) (j : Nat) (u : Value) : FR w (w1.setCell ⟨g, j, none⟩ u) g := fun k cells t h0 h1 h2 h3 => blk_far (h k cells t h0 h1 h2 h3) h3 u
/-- strings.Split's row, as a row of the call's own. -/
theorem split_row (s sep : ByteArray) (m : Int) (w : World) (hs : s.size ≤ 1048576) (h1 : 1 ≤ sep.size) (hm : w.cell? ⟨2, 0, none⟩ = some (.int .i64 m)) :
    Calls Tryd.prog 19 #[.string s, .string sep] w fun e w' => ∃ v, e = .returned v ∧ Kd.R Kd.string 9 w' w.heap.size (fun _ => True) v (Lib.splitB sep 0 (Lib.countB s sep) s) ∧ (Lib.splitB sep 0 (Lib.countB s sep) s).length ≤ s.size + 1 ∧ Below w.heap.size w w' := by
  refine (Tryd.strings_Split s sep m w (by omega) hm h1).mono ?_
  rintro e w' ⟨rfl, rfl⟩
  have hl := Lib.splitB_all sep h1 0 (Lib.countB s sep) s rfl
  have hle := Lib.countB_le sep h1 s.size s (Nat.le_refl _)
  refine ⟨_, rfl, Kd.R_of_own (enc := Value.string) (h1 := fun _ => rfl) ?_ (fun _ _ => trivial), by rw [hl]; omega, below_alloc (Below.refl _ _) _⟩
  rw [hl]
  refine ⟨by rw [encs, List.length_map, hl, Nat.mul_one], .inr ⟨w.heap.size, _, _, rfl, Nat.le_refl _, heap_alloc_new w _, Nat.le_refl _, by unfold maxLen; omega, by simp [hl], ?_⟩⟩
  rw [List.take_of_length_le (by simp [hl])]
  rfl

set_option maxRecDepth 100000 in
set_option maxHeartbeats 8000000 in
theorem line (s : ByteArray) (g : Nat) (doc : ByteArray) (cs : List S46) (ps : List Int) (w0 w : World) (hs : s.size ≤ 1048576) (hI : SI w w0.heap.size g doc cs ps) (hB : Below w0.heap.size w0 w) (hG : GM w) (hcs : cs.length ≤ 1048576) (hps : ps.length ≤ 1099511627776) :
    Calls Tryd.prog 20 #[.pointer (some ⟨g, 0, none⟩), .string s] w fun e w' => e = .returned (.bool (lineF s.data.toList cs ps).2.2) ∧ SI w' w0.heap.size g doc (lineF s.data.toList cs ps).1 (lineF s.data.toList cs ps).2.1 ∧ Below w0.heap.size w0 w' ∧ FR w w' g := by
  have HG := Lib.hid hG
  obtain ⟨m, hm⟩ := hG
  have HB := Lib.hid hB
  have HI := Lib.hid hI
  clear hI hB
  go_enter Tryd.func20, Tryd.ntmps20
  go_wp2_with fail
  refine (Tryd.strings_Cut s ⟨#[32]⟩ m _ (by omega) hm).mono ?_
  rintro e w1 ⟨rfl, n1, rfl⟩
  have hC : Lib.cut s.data.toList (⟨#[32]⟩ : ByteArray).data.toList = Lib.cut s.data.toList [32] := rfl
  rw [hC]
  have HL := Lib.hid (lineF_at s.data.toList cs ps)
  have hcl := cut_le s.data.toList
  generalize (Lib.cut s.data.toList [32]).1 = wd at HL hcl ⊢
  generalize (Lib.cut s.data.toList [32]).2.1 = tl at HL hcl ⊢
  generalize (Lib.cut s.data.toList [32]).2.2 = has at HL ⊢
  clear hC
  have hsl : s.data.toList.length = s.size := by rw [Array.length_toList]; rfl
  have hwz : (ba wd).size = wd.length := by show wd.toArray.size = _; simp
  have htz : (ba tl).size = tl.length := by show tl.toArray.size = _; simp
  have hsb : w.heap.size = (w.drewN n1).heap.size := rfl
  have HG1 := Lib.hid (GM.of HG.out (pw_below_drewN (Below.refl _ _) n1))
  have HI1 := Lib.hid (HI.out.below (pw_below_drewN (Below.refl _ _) n1))
  have HB1 := Lib.hid (pw_below_drewN HB.out n1)
  have HF1 := Lib.hid (FR.below (FR.refl w g) (pw_below_drewN (Below.refl _ _) n1))
  generalize w.drewN n1 = w1 at HG1 HI1 HB1 HF1 ⊢
  by_cases hp : wd = [112, 105, 99, 107, 115]
  · subst hp
    rw [if_pos rfl] at HL
    cases has with
    | false =>
      go_wp2_with fail
      refine (impl_picksOf.calls 1 (some ⟨w1.heap.size, 0, none⟩) 0 [] (picksG [] []).1 (picksG [] []).2 _ ⟨rfl, by simp, fun h => absurd h (Nat.lt_irrefl 0)⟩ (Nat.le_refl _) (picks_f [] (by decide))).mono ?_
      rintro e w4 ⟨v4, rfl, hR4, hb4⟩
      obtain ⟨A4, c4, rfl⟩ := Kd.R_slice hR4
      have hWS : (picksG [] ([] : List ByteArray)).1.length ≤ 1048577 := by decide
      have HR4 := Lib.hid hR4
      have HI4 := Lib.hid (SI.below (SI.below HI1.out (below_alloc (Below.refl _ _) _)) hb4)
      have HB4 := Lib.hid (below_step (below_alloc HB1.out _) hb4)
      have HF4 := Lib.hid (FR.below (FR.below HF1.out (below_alloc (Below.refl _ _) _)) hb4)
      clear hR4 hb4
      obtain ⟨vc, vp, h0, h1, h2, h3⟩ := HI4.out
      have HC4 := Lib.hid h1
      have HP4 := Lib.hid h2
      have HK4 := Lib.hid h0
      have r0 := blk_cell h0 0
      have r1 := blk_cell h0 1
      have r2 := blk_cell h0 2
      simp only [List.getElem?_toArray, List.getElem?_cons_zero, List.getElem?_cons_succ] at r0 r1 r2
      clear h0 h1 h2
      go_wp2_with (first | ((with_reducible refine gate_builtin (b := .append) (xs := #[.tmp 36, .tmp 37]) rfl ?_); at_builtin; refine Kd.R_append_rows (Kd.int .i64) (w0 := w0) w0.heap.size rfl (.tmp 36) (.tmp 37) 26 3 (.int .i64 0) 8 rfl Tryd.underlying26 info3 rfl (by decide) (by omega) vp ps (picksG [] ([] : List ByteArray)).1 _ _ _ (fun _ => True) (fun _ => False) rfl rfl ?aO ?aR (fun _ _ h => h) (fun _ h => h.elim) ?aF ?aB ?aS ?aL ?_; (case aR => exact (Kd.R_reads' HR4.out).2.2); (case aB => exact HB4.out); (case aF => exact fun _ _ => trivial); (case aO => exact HP4.out); (case aS => exact below_size HB4.out); (case aL => omega); intro v5 w5 ho hb hg hat; (obtain ⟨A5, c5, rfl⟩ := Kd.R_slice ho); have HK5 := Lib.hid (blk_grown HK4.out hg (Kd.R_ne HP4.out HK4.out (by decide))); have HC5 := Lib.hid (Kd.R_over' HC4.out (Kd.R_typed HP4.out) (by decide) hg); have HP5 := Lib.hid ho; have HB5 := Lib.hid hb; have HF5 := Lib.hid (FR.grown HF4.out hg (Kd.R_typed HP4.out) (.inr rfl)); have q2 := blk_frozen HK5.out 2; have x2 := blk_cell HK5.out 2; (simp only [List.getElem?_toArray, List.getElem?_cons_zero, List.getElem?_cons_succ] at x2); clear ho hb hg hat))
      refine bodyPost_ret (v := .bool (picksG [] ([] : List ByteArray)).2) (by simp [results, Tryd.results20, go_sem]) rfl ?_
      rw [HL.out]
      refine ⟨rfl, ⟨vc, _, ?_, Kd.R_set HC5.out HK5.out (by decide) 2 _, Kd.R_set HP5.out HK5.out (by decide) 2 _, h3⟩, Below.setCell HB5.out h3 _, FR.set HF5.out 2 _⟩
      have h := blk_set HK5.out 2 (.slice A5 (ps ++ (picksG [] ([] : List ByteArray)).1).length c5)
      simpa using h
    | true =>
      go_wp2_with fail
      have HG2 := Lib.hid (GM.of HG1.out (below_alloc (Below.refl _ _) (.cells #[] 9)))
      obtain ⟨m2, hm2⟩ := HG2.out
      refine (split_row (ba tl) ⟨#[32]⟩ m2 _ (by omega) (by decide) hm2).mono ?_
      rintro e w3 ⟨v3, rfl, hR3, hlen3, hb3⟩
      obtain ⟨A3, c3, rfl⟩ := Kd.R_slice hR3
      have HR3 := Lib.hid hR3
      have HI3 := Lib.hid (SI.below (SI.below HI1.out (below_alloc (Below.refl _ _) _)) hb3)
      have HB3 := Lib.hid (below_step (below_alloc HB1.out _) hb3)
      have HF3 := Lib.hid (FR.below (FR.below HF1.out (below_alloc (Below.refl _ _) _)) hb3)
      clear hR3 hb3 hm2
      have hW : wordsF true tl = Lib.splitB ⟨#[32]⟩ 0 (Lib.countB (ba tl) ⟨#[32]⟩) (ba tl) := rfl
      rw [hW] at HL
      clear hW
      generalize Lib.splitB ⟨#[32]⟩ 0 (Lib.countB (ba tl) ⟨#[32]⟩) (ba tl) = WS at HL HR3 hlen3 ⊢
      go_wp2_with fail
      refine (impl_picksOf.calls (WS.length + 1) A3 c3 WS (picksG [] WS).1 (picksG [] WS).2 _ (Kd.R_reads' HR3.out).2.2 (Kd.R_reads' HR3.out).2.1 (picks_f WS (by omega))).mono ?_
      rintro e w4 ⟨v4, rfl, hR4, hb4⟩
      obtain ⟨A4, c4, rfl⟩ := Kd.R_slice hR4
      have hWS : (picksG [] WS).1.length ≤ 1048577 := by have := picks_len WS []; simp at this; omega
      have HR4 := Lib.hid hR4
      have HI4 := Lib.hid (SI.below HI3.out hb4)
      have HB4 := Lib.hid (below_step HB3.out hb4)
      have HF4 := Lib.hid (FR.below HF3.out hb4)
      clear hR4 hb4
      obtain ⟨vc, vp, h0, h1, h2, h3⟩ := HI4.out
      have HC4 := Lib.hid h1
      have HP4 := Lib.hid h2
      have HK4 := Lib.hid h0
      have r0 := blk_cell h0 0
      have r1 := blk_cell h0 1
      have r2 := blk_cell h0 2
      simp only [List.getElem?_toArray, List.getElem?_cons_zero, List.getElem?_cons_succ] at r0 r1 r2
      clear h0 h1 h2
      go_wp2_with (first | ((with_reducible refine gate_builtin (b := .append) (xs := #[.tmp 36, .tmp 37]) rfl ?_); at_builtin; refine Kd.R_append_rows (Kd.int .i64) (w0 := w0) w0.heap.size rfl (.tmp 36) (.tmp 37) 26 3 (.int .i64 0) 8 rfl Tryd.underlying26 info3 rfl (by decide) (by omega) vp ps (picksG [] WS).1 _ _ _ (fun _ => True) (fun _ => False) rfl rfl ?aO ?aR (fun _ _ h => h) (fun _ h => h.elim) ?aF ?aB ?aS ?aL ?_; (case aR => exact (Kd.R_reads' HR4.out).2.2); (case aB => exact HB4.out); (case aF => exact fun _ _ => trivial); (case aO => exact HP4.out); (case aS => exact below_size HB4.out); (case aL => omega); intro v5 w5 ho hb hg hat; (obtain ⟨A5, c5, rfl⟩ := Kd.R_slice ho); have HK5 := Lib.hid (blk_grown HK4.out hg (Kd.R_ne HP4.out HK4.out (by decide))); have HC5 := Lib.hid (Kd.R_over' HC4.out (Kd.R_typed HP4.out) (by decide) hg); have HP5 := Lib.hid ho; have HB5 := Lib.hid hb; have HF5 := Lib.hid (FR.grown HF4.out hg (Kd.R_typed HP4.out) (.inr rfl)); have q2 := blk_frozen HK5.out 2; have x2 := blk_cell HK5.out 2; (simp only [List.getElem?_toArray, List.getElem?_cons_zero, List.getElem?_cons_succ] at x2); clear ho hb hg hat))
      refine bodyPost_ret (v := .bool (picksG [] WS).2) (by simp [results, Tryd.results20, go_sem]) rfl ?_
      rw [HL.out]
      refine ⟨rfl, ⟨vc, _, ?_, Kd.R_set HC5.out HK5.out (by decide) 2 _, Kd.R_set HP5.out HK5.out (by decide) 2 _, h3⟩, Below.setCell HB5.out h3 _, FR.set HF5.out 2 _⟩
      have h := blk_set HK5.out 2 (.slice A5 (ps ++ (picksG [] WS).1).length c5)
      simpa using h
  · rw [if_neg hp] at HL
    have e0 : (wd == [112, 105, 99, 107, 115]) = false := beq_eq_false_iff_ne.2 hp
    go_wp2_with fail
    refine (impl_clientOf.calls (ba wd) (clientF (ba wd)).1 (clientF (ba wd)).2 _ (client_f _)).mono ?_
    rintro e w2 ⟨rfl, hd2⟩
    have hb2 := hd2.below
    clear hd2
    have HG2 := Lib.hid (GM.of HG1.out hb2)
    have HI2 := Lib.hid (SI.below HI1.out hb2)
    have HB2 := Lib.hid (below_step HB1.out hb2)
    have HF2 := Lib.hid (FR.below HF1.out hb2)
    clear hb2
    generalize clientF (ba wd) = cl at HL ⊢
    obtain ⟨cn, ck⟩ := cl
    go_wp2_with fail
    have hta : (ba tl).data.toList = tl := by simp
    refine (callOf cn (ba tl) _ (by omega) HG2.out).mono ?_
    rintro e w3 ⟨rfl, hb3⟩
    rw [hta]
    have HI3 := Lib.hid (SI.below HI2.out hb3)
    have HB3 := Lib.hid (below_step HB2.out hb3)
    have HF3 := Lib.hid (FR.below HF2.out hb3)
    clear hb3 hta
    generalize callF tl = cf at HL ⊢
    obtain ⟨f1, f2, f3, f4⟩ := cf
    go_wp2_with fail
    obtain ⟨vc, vp, h0, h1, h2, h3⟩ := HI3.out
    have HC4 := Lib.hid (Kd.R_alloc h1 (.cells #[.int .i64 cn, .int .i64 f1, .string (ba f2), .int .i64 f3] 46))
    have HP4 := Lib.hid (Kd.R_alloc h2 (.cells #[.int .i64 cn, .int .i64 f1, .string (ba f2), .int .i64 f3] 46))
    have HK4 := Lib.hid (blk_alloc h0 (.cells #[.int .i64 cn, .int .i64 f1, .string (ba f2), .int .i64 f3] 46))
    have HB4 := Lib.hid (below_alloc HB3.out (.cells #[.int .i64 cn, .int .i64 f1, .string (ba f2), .int .i64 f3] 46))
    have HF4 := Lib.hid (FR.below HF3.out (below_alloc (Below.refl _ _) (.cells #[.int .i64 cn, .int .i64 f1, .string (ba f2), .int .i64 f3] 46)))
    have HX4 := Lib.hid (blk_new w3 (.cells #[.int .i64 cn, .int .i64 f1, .string (ba f2), .int .i64 f3] 46))
    obtain ⟨A3, c3, rfl⟩ := Kd.R_slice h1
    have HC3 := Lib.hid h1
    clear h0 h1 h2
    generalize w3.alloc (.cells #[.int .i64 cn, .int .i64 f1, .string (ba f2), .int .i64 f3] 46) = w4 at HC4 HP4 HK4 HB4 HX4 HF4 ⊢
    have r1 := blk_cell HK4.out 1
    have y0 := blk_cell HX4.out 0
    have y1 := blk_cell HX4.out 1
    have y2 := blk_cell HX4.out 2
    have y3 := blk_cell HX4.out 3
    have q1 := blk_frozen HK4.out 1
    simp only [List.getElem?_toArray, List.getElem?_cons_zero, List.getElem?_cons_succ] at r1 y0 y1 y2 y3
    have hsz := below_size HB4.out
    have HKA := Lib.hid (blk_alloc HK4.out (.cells #[.int .i64 cn, .int .i64 f1, .string (ba f2), .int .i64 f3] 46))
    have ra1 := blk_cell HKA.out 1
    simp only [List.getElem?_toArray, List.getElem?_cons_zero, List.getElem?_cons_succ] at ra1
    go_region_law (first | (refine Kd.R_append_step k46 (w0 := w0) (W := w4.drew) w0.heap.size (by simp [Region.wanted]) (.tmp 57) (.tmp 59) 25 46 (.agg #[(.int .i64 0), (.int .i64 0), (.string ⟨#[]⟩), (.int .i64 0)]) 40 rfl Tryd.underlying25 info46 rfl (by decide) (by omega) (.slice A3 cs.length c3) cs (⟨cn, f1, ba f2, f3⟩ : S46) [.int .i64 cn, .int .i64 f1, .string (ba f2), .int .i64 f3] (fun _ => True) (fun _ => False) rfl rfl (k46_mkM _ _ _ (⟨cn, f1, ba f2, f3⟩ : S46)) (fun _ hk => hk.elim) (fun _ _ => trivial) (Kd.R_drew HC4.out) (below_drew HB4.out) hsz (by omega) ?_; intro v5 w5 ho hb hg hat; (obtain ⟨A5, c5, rfl⟩ := Kd.R_slice ho); have HK5 := Lib.hid (blk_grown (blk_drew HK4.out) hg (Kd.R_ne HC4.out HK4.out (by decide))); have HX5 := Lib.hid (blk_grown (blk_drew HX4.out) hg (fun he => by have := Kd.R_lt HC3.out _ he.symm; omega)); have HP5 := Lib.hid (Kd.R_over' (Kd.R_drew HP4.out) (Kd.R_typed (Kd.R_drew HC4.out)) (by decide) hg); have HC5 := Lib.hid ho; have HB5 := Lib.hid hb; have HF5 := Lib.hid (FR.grown (FR.below HF4.out (below_drew (Below.refl _ _))) hg (Kd.R_typed (Kd.R_drew HC4.out)) (.inl rfl)); have z1 := blk_frozen HK5.out 1; have x1 := blk_cell HK5.out 1; (simp only [List.getElem?_toArray, List.getElem?_cons_zero, List.getElem?_cons_succ] at x1); clear ho hb hg hat))
    all_goals
      have HL' := Lib.hid (show lineF s.data.toList cs ps = (cs ++ [⟨cn, f1, ba f2, f3⟩], ps, ck && has && f4) from HL.out)
      obtain ⟨bv, hbv⟩ : ∃ bv, bv = (ck && has && f4) := ⟨_, rfl⟩
      rw [← hbv] at HL'
      cases ck <;> cases has <;> simp only [Bool.true_and, Bool.false_and, Bool.and_true, Bool.and_false] at hbv <;>
        (go_wp2_with fail
         refine bodyPost_ret (v := .bool bv) (by simp [results, Tryd.results20, go_sem, hbv]) rfl ?_
         rw [HL'.out]
         refine ⟨rfl, ⟨_, vp, ?_, Kd.R_set HC5.out HK5.out (by decide) 1 _, Kd.R_set HP5.out HK5.out (by decide) 1 _, h3⟩, Below.setCell HB5.out h3 _, FR.set HF5.out 1 _⟩
         have h := blk_set HK5.out 1 (.slice A5 (cs ++ [(⟨cn, f1, ba f2, f3⟩ : S46)]).length c5)
         simpa using h)
end Go.Proofs.YtfadnchkododdaaDoor.Ps
