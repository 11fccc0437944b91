/- The law FnExactParseScript: its walk. -/
import Derived.Test.YtfadnchkododdaaDoorZScr
import Derived.Test.YtfadnchkododdaaDoorParse
import Derived.Test.YtfadnchkododdaaDoorPlainPs
namespace Go.Proofs.YtfadnchkododdaaDoor.Ps
open Go Go.RowKit Go.Proofs.YtfadnchkododdaaDoorW.PrintWords Go.Proofs.YtfadnchkododdaaDoor.PPs Go.Proofs.YtfadnchkododdaaDoor.Tchs
set_option linter.unusedVariables false
set_option linter.unusedSimpArgs false

theorem loopF_len (M : Nat) : ∀ (r : List ByteArray) (i : Nat) (begun : Bool) (doc : ByteArray) (cs : List S46) (ps : List Int), (∀ x ∈ r, x.size ≤ M) →
    (loopF r i begun doc cs ps).2.1.length ≤ cs.length + r.length ∧ (loopF r i begun doc cs ps).2.2.1.length ≤ ps.length + r.length * (M + 1)
  | [], i, begun, doc, cs, ps, _ => by
    rw [loopF]
    split <;> simp
  | x :: r, i, begun, doc, cs, ps, h => by
    have hx := h x (by simp)
    have hr : ∀ y ∈ r, y.size ≤ M := fun y hy => h y (by simp [hy])
    have e : (r.length + 1) * (M + 1) = r.length * (M + 1) + (M + 1) := by rw [Nat.succ_mul]
    rw [loopF]
    simp only [List.length_cons]
    rw [e]
    split
    · have := loopF_len M r (i + 1) begun doc cs ps hr
      omega
    · split
      · have hl := lineF_len x.data.toList cs ps
        have hz : x.data.toList.length = x.size := by rw [Array.length_toList]; rfl
        split
        · have := loopF_len M r (i + 1) true doc (lineF x.data.toList cs ps).1 (lineF x.data.toList cs ps).2.1 hr
          omega
        · simp
      · split
        · have := loopF_len M r (i + 1) true (bb (Lib.trimPrefix x.data.toList docP)) cs ps hr
          omega
        · simp
theorem scriptF_len (a : ByteArray) : (scriptF a).2.1.length ≤ 1099511627776 ∧ (scriptF a).2.2.1.length ≤ 1099511627776 := by
  unfold scriptF
  split
  · simp
  · have hl := lines_len a
    have := loopF_len a.size (Lib.splitB ⟨#[10]⟩ 0 (Lib.countB a ⟨#[10]⟩) a) 0 false ⟨#[]⟩ [] [] (fun x hx => splitB_size _ (by show 1 ≤ 1; exact Nat.le_refl _) _ _ _ hx)
    have h2 : (Lib.splitB ⟨#[10]⟩ 0 (Lib.countB a ⟨#[10]⟩) a).length * (a.size + 1) ≤ 20001 * 20001 := Nat.mul_le_mul (by omega) (by omega)
    simp only [List.length_nil] at this
    omega

theorem box3 {w : World} {g : Nat} {T : TypeId} {a b c : Value} (h : w.heap[g]? = some (.cells #[a, b, c] T (0, 0))) (a' b' c' : Value) :
    (((w.setCell ⟨g, 0, none⟩ a').setCell ⟨g, 1, none⟩ b').setCell ⟨g, 2, none⟩ c').heap[g]? = some (.cells #[a', b', c'] T (0, 0)) := by
  have h0 := blk_set h 0 a'
  have h1 := blk_set h0 1 b'
  have h2 := blk_set h1 2 c'
  simpa using h2
theorem box3_far {w : World} {g k : Nat} {T : TypeId} {cs : Array Value} (h : w.heap[k]? = some (.cells cs T (0, 0))) (hk : k ≠ g) (a' b' c' : Value) :
    (((w.setCell ⟨g, 0, none⟩ a').setCell ⟨g, 1, none⟩ b').setCell ⟨g, 2, none⟩ c').heap[k]? = some (.cells cs T (0, 0)) :=
  blk_far (blk_far (blk_far h hk _) hk _) hk _
theorem box3_below {w0 w : World} {B g : Nat} (h : Below B w0 w) (hg : B ≤ g) (a' b' c' : Value) :
    Below B w0 (((w.setCell ⟨g, 0, none⟩ a').setCell ⟨g, 1, none⟩ b').setCell ⟨g, 2, none⟩ c') :=
  Below.setCell (Below.setCell (Below.setCell h hg _) hg _) hg _
theorem box3_row {α : Type} {d : Kd α} {e base : Nat} {ok : Nat → Prop} {v : Value} {xs : List α} {w : World} {g : Nat} {T : TypeId} {cs : Array Value} (h : d.R e w base ok v xs) (hb : w.heap[g]? = some (.cells cs T (0, 0))) (ht : ∀ q, q ∈ e :: d.E → q ≠ T) (a' b' c' : Value) :
    d.R e (((w.setCell ⟨g, 0, none⟩ a').setCell ⟨g, 1, none⟩ b').setCell ⟨g, 2, none⟩ c') base ok v xs :=
  Kd.R_set (Kd.R_set (Kd.R_set h hb ht 0 a') (blk_set hb 0 a') ht 1 b') (blk_set (blk_set hb 0 a') 1 b') ht 2 c'
theorem kept_row {α : Type} {d : Kd α} {e base : Nat} {ok S : Nat → Prop} {v : Value} {xs : List α} {w w1 : World} (h : d.R e w base ok v xs) (hk : Kept w w1 S) (hs : ∀ k, ok k → ¬ S k) : d.R e w1 base ok v xs :=
  Kd.R_step h (fun k ho hl => hk.2 k hl (hs k ho))
theorem kept_blk {S : Nat → Prop} {w w1 : World} {g : Nat} {o : Obj} (h : w.heap[g]? = some o) (hk : Kept w w1 S) (hs : ¬ S g) : w1.heap[g]? = some o := (hk.2 g (blk_lt h) hs).trans h

set_option maxRecDepth 100000 in
set_option maxHeartbeats 8000000 in
theorem law_parse (a : ByteArray) (w : World) (hG : GM w) :
    Calls Tryd.prog 4 #[.string a] w fun e w' => e = .returned (.bool true) ∧ Below w.heap.size w w' := by
  go_enter Tryd.func4, Tryd.ntmps4
  have HB := Lib.hid (Below.refl w.heap.size w)
  have HG := Lib.hid hG
  clear hG
  by_cases h1 : (1048576 : Int) < (a.size : Int)
  · have d1 : decide ((1048576 : Int) < (a.size : Int)) = true := decide_eq_true h1
    go_wp2_with fail
    go_ret
    exact ⟨rfl, HB.out⟩
  have d1 : decide ((1048576 : Int) < (a.size : Int)) = false := decide_eq_false h1
  have hf := script_f a
  have hlen := scriptF_len a
  have HP := Lib.hid (fun w1 h => parseScript a w1 h)
  generalize scriptF a = S at hf hlen HP
  obtain ⟨doc, cs, ps, cd, ln⟩ := S
  obtain ⟨hl1, hl2⟩ := hlen
  have HL1 := Lib.hid (show cs.length ≤ 1099511627776 from hl1)
  have HL2 := Lib.hid (show ps.length ≤ 1099511627776 from hl2)
  have HF := Lib.hid hf
  clear hl1 hl2 hf h1
  go_wp2_with fail
  refine (spec_ParseScript.calls 2000000 a doc cs ps cd ln _ HF.out).mono ?_
  rintro e w1 ⟨v1, v2, rfl, hR1, hR2, hb1⟩
  obtain ⟨A1, c1, rfl⟩ := Kd.R_slice hR1
  obtain ⟨A2, c2, rfl⟩ := Kd.R_slice hR2
  have HR1 := Lib.hid hR1
  have HR2 := Lib.hid hR2
  have HB1 := Lib.hid (below_step HB.out hb1)
  clear hR1 hR2 hb1 HB
  go_upto_region 4 with (first | ((with_reducible refine gate_dst (N := 3) rfl ?_); refine box_event ?hg (N := 3) ?hd (cs := #[.string (⟨#[]⟩ : ByteArray), .slice none 0 0, .slice none 0 0]) (t := 28) ?hr ?_; (case hd => rfl); (case hg => rfl); (case hr => first | (go_simp; done) | (go_simp; rfl)); intro g3 hg3 w3 hbox3 hb3; have HB3 := Lib.hid hb3; have HG3 := Lib.hid hg3; have HK3 := Lib.hid hbox3; have y0 := blk_cell hbox3 0; have y1 := blk_cell hbox3 1; have y2 := blk_cell hbox3 2; (simp only [List.getElem?_toArray, List.getElem?_cons_zero, List.getElem?_cons_succ] at y0 y1 y2); have v0 := blk_frozen hbox3 0; have v1 := blk_frozen hbox3 1; have v2 := blk_frozen hbox3 2; clear hb3 hg3 hbox3))
  have HB4 := Lib.hid (below_step HB1.out HB3.out)
  have HL3 := Lib.hid (show w.heap.size ≤ g3 from by rw [HG3.out]; exact below_size HB1.out)
  have HB5 := Lib.hid (box3_below HB4.out HL3.out (.string doc) (.slice A1 cs.length c1) (.slice A2 ps.length c2))
  have HR15 := Lib.hid (box3_row (Kd.R_below HR1.out HB3.out) HK3.out (by decide) (.string doc) (.slice A1 cs.length c1) (.slice A2 ps.length c2))
  have HR25 := Lib.hid (box3_row (Kd.R_below HR2.out HB3.out) HK3.out (by decide) (.string doc) (.slice A1 cs.length c1) (.slice A2 ps.length c2))
  have HK5 := Lib.hid (box3 HK3.out (.string doc) (.slice A1 cs.length c1) (.slice A2 ps.length c2))
  clear HB4 HR1 HR2 HG3 HB1 y0 y1 y2 v0 v1 v2
  generalize ((w3.setCell ⟨g3, 0, none⟩ (.string doc)).setCell ⟨g3, 1, none⟩ (.slice A1 cs.length c1)).setCell ⟨g3, 2, none⟩ (.slice A2 ps.length c2) = w5 at HB5 HR15 HR25 HK5 ⊢
  clear HB3 HK3 w3 w1
  have HR16 := Lib.hid (Kd.R_mono (Kd.R_bound HR15.out) (fun k hk => hk.2.2.1))
  have HR26 := Lib.hid (Kd.R_mono (Kd.R_bound HR25.out) (fun k hk => hk.2.2.1))
  have HS3 := Lib.hid (show g3 < w5.heap.size from blk_lt HK5.out)
  clear HR15 HR25
  have HS5 := Lib.hid (below_size HB5.out)
  go_wp2_with fail
  refine (HP.out w5 (GM.of HG.out HB5.out)).mono ?_
  rintro e w6 ⟨v6, v7, rfl, hR3, hR4, hb6⟩
  obtain ⟨A3, c3, rfl⟩ := Kd.R_slice hR3
  obtain ⟨A4, c4, rfl⟩ := Kd.R_slice hR4
  have HR3 := Lib.hid (Kd.R_lower (Kd.R_mono (Kd.R_bound hR3) (fun k hk => hk.2.1)) HS5.out)
  have HR4 := Lib.hid (Kd.R_lower (Kd.R_mono (Kd.R_bound hR4) (fun k hk => hk.2.1)) HS5.out)
  have HR17 := Lib.hid (Kd.R_below HR16.out hb6)
  have HR27 := Lib.hid (Kd.R_below HR26.out hb6)
  have HK7 := Lib.hid (blk_below HK5.out hb6)
  have HS6 := Lib.hid (below_size hb6)
  have HB7 := Lib.hid (below_step HB5.out hb6)
  clear hR3 hR4 hb6 HR16 HR26 HK5 HB5
  go_upto_region 5 with (first | ((with_reducible refine gate_dst (N := 6) rfl ?_); refine box_event ?hg (N := 6) ?hd (cs := #[.string (⟨#[]⟩ : ByteArray), .slice none 0 0, .slice none 0 0]) (t := 28) ?hr ?_; (case hd => rfl); (case hg => rfl); (case hr => first | (go_simp; done) | (go_simp; rfl)); intro g6 hg_ w8 hbox_ hb_; have HBb := Lib.hid hb_; have HGb := Lib.hid hg_; have HKb := Lib.hid hbox_; have y0 := blk_cell hbox_ 0; have y1 := blk_cell hbox_ 1; have y2 := blk_cell hbox_ 2; (simp only [List.getElem?_toArray, List.getElem?_cons_zero, List.getElem?_cons_succ] at y0 y1 y2); have v0 := blk_frozen hbox_ 0; have v1 := blk_frozen hbox_ 1; have v2 := blk_frozen hbox_ 2; clear hb_ hg_ hbox_))
  have HBx := Lib.hid (below_step HB7.out HBb.out)
  have HLn := Lib.hid (show w.heap.size ≤ g6 from by rw [HGb.out]; exact below_size HB7.out)
  have HB8 := Lib.hid (box3_below HBx.out HLn.out (.string doc) (.slice A3 cs.length c3) (.slice A4 ps.length c4))
  have HR18 := Lib.hid (box3_row (Kd.R_below HR17.out HBb.out) HKb.out (by decide) (.string doc) (.slice A3 cs.length c3) (.slice A4 ps.length c4))
  have HR28 := Lib.hid (box3_row (Kd.R_below HR27.out HBb.out) HKb.out (by decide) (.string doc) (.slice A3 cs.length c3) (.slice A4 ps.length c4))
  have HR38 := Lib.hid (box3_row (Kd.R_below HR3.out HBb.out) HKb.out (by decide) (.string doc) (.slice A3 cs.length c3) (.slice A4 ps.length c4))
  have HR48 := Lib.hid (box3_row (Kd.R_below HR4.out HBb.out) HKb.out (by decide) (.string doc) (.slice A3 cs.length c3) (.slice A4 ps.length c4))
  have HK38ne := Lib.hid (Nat.ne_of_lt (by rw [HGb.out]; exact blk_lt HK7.out : g3 < g6))
  have HK38 := Lib.hid (box3_far (blk_below HK7.out HBb.out) HK38ne.out (.string doc) (.slice A3 cs.length c3) (.slice A4 ps.length c4))
  have HK68 := Lib.hid (box3 HKb.out (.string doc) (.slice A3 cs.length c3) (.slice A4 ps.length c4))
  have HS8 := Lib.hid (show w5.heap.size ≤ g6 from by rw [HGb.out]; exact HS6.out)
  have HN6 := Lib.hid (show w6.heap.size ≤ g6 from by rw [HGb.out]; exact Nat.le_refl _)
  have HO3 := Lib.hid (Kd.R_mono (Kd.R_bound HR3.out) (fun k hk => (⟨hk.1, hk.2.2.1⟩ : w5.heap.size ≤ k ∧ k < w6.heap.size)))
  have HO4 := Lib.hid (Kd.R_mono (Kd.R_bound HR4.out) (fun k hk => (⟨hk.1, hk.2.2.1⟩ : w5.heap.size ≤ k ∧ k < w6.heap.size)))
  have HO38 := Lib.hid (box3_row (Kd.R_below HO3.out HBb.out) HKb.out (by decide) (.string doc) (.slice A3 cs.length c3) (.slice A4 ps.length c4))
  have HO48 := Lib.hid (box3_row (Kd.R_below HO4.out HBb.out) HKb.out (by decide) (.string doc) (.slice A3 cs.length c3) (.slice A4 ps.length c4))
  clear HBx HR17 HR27 HR3 HR4 HK7 HB7 y0 y1 y2 v0 v1 v2 HR38 HR48 HO3 HO4
  generalize (((w8.setCell ⟨g6, 0, none⟩ (.string doc)).setCell ⟨g6, 1, none⟩ (.slice A3 cs.length c3)).setCell ⟨g6, 2, none⟩ (.slice A4 ps.length c4)) = w9 at HB8 HR18 HR28 HK38 HK68 HO38 HO48 ⊢
  clear HBb HGb HKb w8 HLn
  have z0 := blk_cell HK38.out 0
  have z1 := blk_cell HK38.out 1
  have z2 := blk_cell HK38.out 2
  simp only [List.getElem?_toArray, List.getElem?_cons_zero, List.getElem?_cons_succ] at z0 z1 z2
  have x0 := blk_frozen HK38.out 0
  have x1 := blk_frozen HK38.out 1
  have x2 := blk_frozen HK38.out 2
  have y0 := blk_cell HK68.out 0
  have y1 := blk_cell HK68.out 1
  have y2 := blk_cell HK68.out 2
  simp only [List.getElem?_toArray, List.getElem?_cons_zero, List.getElem?_cons_succ] at y0 y1 y2
  have v0 := blk_frozen HK68.out 0
  have v1 := blk_frozen HK68.out 1
  have v2 := blk_frozen HK68.out 2
  obtain ⟨ke, hke⟩ := (eqScript_refl doc cs ps HL1.out HL2.out).rounds
  have HE := Lib.hid hke
  clear hke
  go_wp2_with fail
  refine (laws_eqScript.calls ke doc A3 c3 cs A4 c4 ps doc A1 c1 cs A2 c2 ps true _ (Kd.R_reads' HO38.out).2.2 (Kd.R_reads' HO38.out).2.1 (Kd.R_reads' HO48.out).2.2 (Kd.R_reads' HO48.out).2.1 (Kd.R_reads' HR18.out).2.2 (Kd.R_reads' HR18.out).2.1 (Kd.R_reads' HR28.out).2.2 (Kd.R_reads' HR28.out).2.1 HE.out).mono ?_
  rintro e w10 ⟨rfl, hb10⟩
  have HR1a := Lib.hid (Kd.R_below HR18.out hb10)
  have HR2a := Lib.hid (Kd.R_below HR28.out hb10)
  have HO3a := Lib.hid (Kd.R_below HO38.out hb10)
  have HO4a := Lib.hid (Kd.R_below HO48.out hb10)
  have HK3a := Lib.hid (blk_below HK38.out hb10)
  have HK6a := Lib.hid (blk_below HK68.out hb10)
  have HBa := Lib.hid (below_step HB8.out hb10)
  clear hb10 HR18 HR28 HO38 HO48 HK38 HK68 HB8 y0 y1 y2 v0 v1 v2 z0 z1 z2 x0 x1 x2
  have z0 := blk_cell HK3a.out 0
  have z1 := blk_cell HK3a.out 1
  have z2 := blk_cell HK3a.out 2
  simp only [List.getElem?_toArray, List.getElem?_cons_zero, List.getElem?_cons_succ] at z0 z1 z2
  have x0 := blk_frozen HK3a.out 0
  have x1 := blk_frozen HK3a.out 1
  have x2 := blk_frozen HK3a.out 2
  have y0 := blk_cell HK6a.out 0
  have y1 := blk_cell HK6a.out 1
  have y2 := blk_cell HK6a.out 2
  simp only [List.getElem?_toArray, List.getElem?_cons_zero, List.getElem?_cons_succ] at y0 y1 y2
  have v0 := blk_frozen HK6a.out 0
  have v1 := blk_frozen HK6a.out 1
  have v2 := blk_frozen HK6a.out 2
  obtain ⟨km, hkm⟩ := (markScript_ev doc cs ps HL1.out HL2.out).rounds
  have HM := Lib.hid hkm
  clear hkm
  go_wp2_with fail
  refine (laws_markScript.calls km doc (fun k => w5.heap.size ≤ k ∧ k < w6.heap.size) (.slice A3 cs.length c3) cs (fun k => w5.heap.size ≤ k ∧ k < w6.heap.size) (.slice A4 ps.length c4) ps 1 _ _ _ w _ HBa.out HO3a.out HO4a.out HM.out).mono ?_
  rintro e w11 ⟨rfl, hM1, hM2, hb11, hk11⟩
  have HR1b := Lib.hid (kept_row HR1a.out hk11 (fun k h1 h2 => by rcases h2 with h2 | h2 <;> omega))
  have HR2b := Lib.hid (kept_row HR2a.out hk11 (fun k h1 h2 => by rcases h2 with h2 | h2 <;> omega))
  have HK3b := Lib.hid (kept_blk HK3a.out hk11 (fun h2 => by have := HS3.out; rcases h2 with h2 | h2 <;> omega))
  have HK6b := Lib.hid (kept_blk HK6a.out hk11 (fun h2 => by have := HN6.out; rcases h2 with h2 | h2 <;> omega))
  have HM3 := Lib.hid (show Kd.R k46 46 w11 w.heap.size _ (.slice A3 (mkC 1 cs).length c3) (mkC 1 cs) from by rw [mkC_len]; exact hM1)
  have HM4 := Lib.hid (show Kd.R (Kd.int .i64) 3 w11 w.heap.size _ (.slice A4 (mkI (1 + 4 * cs.length) ps).length c4) (mkI (1 + 4 * cs.length) ps) from by rw [mkI_len]; exact hM2)
  have HBb1 := Lib.hid hb11
  clear hM1 hM2 hb11 hk11 HR1a HR2a HK3a HK6a HO3a HO4a HBa y0 y1 y2 v0 v1 v2 z0 z1 z2 x0 x1 x2
  have z0 := blk_cell HK3b.out 0
  have z1 := blk_cell HK3b.out 1
  have z2 := blk_cell HK3b.out 2
  simp only [List.getElem?_toArray, List.getElem?_cons_zero, List.getElem?_cons_succ] at z0 z1 z2
  have x0 := blk_frozen HK3b.out 0
  have x1 := blk_frozen HK3b.out 1
  have x2 := blk_frozen HK3b.out 2
  have y0 := blk_cell HK6b.out 0
  have y1 := blk_cell HK6b.out 1
  have y2 := blk_cell HK6b.out 2
  simp only [List.getElem?_toArray, List.getElem?_cons_zero, List.getElem?_cons_succ] at y0 y1 y2
  have v0 := blk_frozen HK6b.out 0
  have v1 := blk_frozen HK6b.out 1
  have v2 := blk_frozen HK6b.out 2
  obtain ⟨kh, hkh⟩ := (heldScript_ev doc cs ps HL1.out HL2.out).rounds
  have HH := Lib.hid hkh
  clear hkh
  have HE0 := Lib.hid (show 0 ≤ mkEnd cs ps from by unfold mkEnd; omega)
  go_wp2_with fail
  have C := laws_heldScript.calls kh doc A3 c3 (mkC 1 cs) A4 c4 (mkI (1 + 4 * cs.length) ps) 1 _ w11 (Kd.R_reads' HM3.out).2.2 (Kd.R_reads' HM3.out).2.1 (Kd.R_reads' HM4.out).2.2 (Kd.R_reads' HM4.out).2.1 HH.out
  rw [mkC_len, mkI_len] at C
  refine C.mono ?_
  rintro e w12 ⟨rfl, hb12⟩
  clear C
  have HR1c := Lib.hid (Kd.R_below HR1b.out hb12)
  have HR2c := Lib.hid (Kd.R_below HR2b.out hb12)
  have HM3c := Lib.hid (Kd.R_below HM3.out hb12)
  have HM4c := Lib.hid (Kd.R_below HM4.out hb12)
  have HK3c := Lib.hid (blk_below HK3b.out hb12)
  have HK6c := Lib.hid (blk_below HK6b.out hb12)
  have HBc := Lib.hid (below_step HBb1.out hb12)
  clear hb12 HR1b HR2b HM3 HM4 HK3b HK6b HBb1 y0 y1 y2 v0 v1 v2 z0 z1 z2 x0 x1 x2
  generalize hme : mkEnd cs ps = me at HH HE0 ⊢
  have HME := Lib.hid hme
  clear hme
  have d5 : decide (me < 0) = false := decide_eq_false (by have := HE0.out; omega)
  go_wp2_with fail
  refine (HP.out w12 (GM.of HG.out HBc.out)).mono ?_
  rintro e w13 ⟨v8, v9, rfl, hR5, hR6, hb13⟩
  obtain ⟨A5, c5, rfl⟩ := Kd.R_slice hR5
  obtain ⟨A6, c6, rfl⟩ := Kd.R_slice hR6
  have HR5 := Lib.hid hR5
  have HR6 := Lib.hid hR6
  have HR1d := Lib.hid (Kd.R_below HR1c.out hb13)
  have HR2d := Lib.hid (Kd.R_below HR2c.out hb13)
  have HM3d := Lib.hid (Kd.R_below HM3c.out hb13)
  have HM4d := Lib.hid (Kd.R_below HM4c.out hb13)
  have HK3d := Lib.hid (blk_below HK3c.out hb13)
  have HK6d := Lib.hid (blk_below HK6c.out hb13)
  have HBd := Lib.hid (below_step HBc.out hb13)
  clear hR5 hR6 hb13 HR1c HR2c HM3c HM4c HK3c HK6c HBc
  go_upto_region 16 with (first | ((with_reducible refine gate_dst (N := 11) rfl ?_); refine box_event ?hg (N := 11) ?hd (cs := #[.string (⟨#[]⟩ : ByteArray), .slice none 0 0, .slice none 0 0]) (t := 28) ?hr ?_; (case hd => rfl); (case hg => rfl); (case hr => first | (go_simp; done) | (go_simp; rfl)); intro g11 hg_ w14 hbox_ hb_; have HBb := Lib.hid hb_; have HGb := Lib.hid hg_; have HKb := Lib.hid hbox_; have y0 := blk_cell hbox_ 0; have y1 := blk_cell hbox_ 1; have y2 := blk_cell hbox_ 2; (simp only [List.getElem?_toArray, List.getElem?_cons_zero, List.getElem?_cons_succ] at y0 y1 y2); have v0 := blk_frozen hbox_ 0; have v1 := blk_frozen hbox_ 1; have v2 := blk_frozen hbox_ 2; clear hb_ hg_ hbox_))
  have HBx := Lib.hid (below_step HBd.out HBb.out)
  have HLn := Lib.hid (show w.heap.size ≤ g11 from by rw [HGb.out]; exact below_size HBd.out)
  have HBe := Lib.hid (box3_below HBx.out HLn.out (.string doc) (.slice A5 cs.length c5) (.slice A6 ps.length c6))
  have HR1e := Lib.hid (box3_row (Kd.R_below HR1d.out HBb.out) HKb.out (by decide) (.string doc) (.slice A5 cs.length c5) (.slice A6 ps.length c6))
  have HR2e := Lib.hid (box3_row (Kd.R_below HR2d.out HBb.out) HKb.out (by decide) (.string doc) (.slice A5 cs.length c5) (.slice A6 ps.length c6))
  have HM3e := Lib.hid (box3_row (Kd.R_below HM3d.out HBb.out) HKb.out (by decide) (.string doc) (.slice A5 cs.length c5) (.slice A6 ps.length c6))
  have HM4e := Lib.hid (box3_row (Kd.R_below HM4d.out HBb.out) HKb.out (by decide) (.string doc) (.slice A5 cs.length c5) (.slice A6 ps.length c6))
  have HR5e := Lib.hid (box3_row (Kd.R_below HR5.out HBb.out) HKb.out (by decide) (.string doc) (.slice A5 cs.length c5) (.slice A6 ps.length c6))
  have HR6e := Lib.hid (box3_row (Kd.R_below HR6.out HBb.out) HKb.out (by decide) (.string doc) (.slice A5 cs.length c5) (.slice A6 ps.length c6))
  have HKn := Lib.hid (box3 HKb.out (.string doc) (.slice A5 cs.length c5) (.slice A6 ps.length c6))
  have HN3n := Lib.hid (Nat.ne_of_lt (by rw [HGb.out]; exact blk_lt HK3d.out : g3 < g11))
  have HK3e := Lib.hid (box3_far (blk_below HK3d.out HBb.out) HN3n.out (.string doc) (.slice A5 cs.length c5) (.slice A6 ps.length c6))
  have HN6n := Lib.hid (Nat.ne_of_lt (by rw [HGb.out]; exact blk_lt HK6d.out : g6 < g11))
  have HK6e := Lib.hid (box3_far (blk_below HK6d.out HBb.out) HN6n.out (.string doc) (.slice A5 cs.length c5) (.slice A6 ps.length c6))
  clear HBx HR1d HR2d HM3d HM4d HR5 HR6 HK3d HK6d HBd y0 y1 y2 v0 v1 v2
  generalize (((w14.setCell ⟨g11, 0, none⟩ (.string doc)).setCell ⟨g11, 1, none⟩ (.slice A5 cs.length c5)).setCell ⟨g11, 2, none⟩ (.slice A6 ps.length c6)) = w15 at HBe HR1e HR2e HM3e HM4e HR5e HR6e HKn HK3e HK6e ⊢
  clear HBb HGb HKb w14 HLn
  have z0 := blk_cell HK3e.out 0
  have z1 := blk_cell HK3e.out 1
  have z2 := blk_cell HK3e.out 2
  simp only [List.getElem?_toArray, List.getElem?_cons_zero, List.getElem?_cons_succ] at z0 z1 z2
  have x0 := blk_frozen HK3e.out 0
  have x1 := blk_frozen HK3e.out 1
  have x2 := blk_frozen HK3e.out 2
  have y0 := blk_cell HKn.out 0
  have y1 := blk_cell HKn.out 1
  have y2 := blk_cell HKn.out 2
  simp only [List.getElem?_toArray, List.getElem?_cons_zero, List.getElem?_cons_succ] at y0 y1 y2
  have v0 := blk_frozen HKn.out 0
  have v1 := blk_frozen HKn.out 1
  have v2 := blk_frozen HKn.out 2
  go_wp2_with fail
  refine (laws_eqScript.calls ke doc A5 c5 cs A6 c6 ps doc A1 c1 cs A2 c2 ps true _ (Kd.R_reads' HR5e.out).2.2 (Kd.R_reads' HR5e.out).2.1 (Kd.R_reads' HR6e.out).2.2 (Kd.R_reads' HR6e.out).2.1 (Kd.R_reads' HR1e.out).2.2 (Kd.R_reads' HR1e.out).2.1 (Kd.R_reads' HR2e.out).2.2 (Kd.R_reads' HR2e.out).2.1 HE.out).mono ?_
  rintro e w16 ⟨rfl, hb16⟩
  have HM3f := Lib.hid (Kd.R_below HM3e.out hb16)
  have HM4f := Lib.hid (Kd.R_below HM4e.out hb16)
  have HK6f := Lib.hid (blk_below HK6e.out hb16)
  have HBf := Lib.hid (below_step HBe.out hb16)
  clear hb16 HR1e HR2e HM3e HM4e HR5e HR6e HKn HK3e HK6e HBe y0 y1 y2 v0 v1 v2 z0 z1 z2 x0 x1 x2
  have y0 := blk_cell HK6f.out 0
  have y1 := blk_cell HK6f.out 1
  have y2 := blk_cell HK6f.out 2
  simp only [List.getElem?_toArray, List.getElem?_cons_zero, List.getElem?_cons_succ] at y0 y1 y2
  have v0 := blk_frozen HK6f.out 0
  have v1 := blk_frozen HK6f.out 1
  have v2 := blk_frozen HK6f.out 2
  go_wp2_with fail
  have C := laws_heldScript.calls kh doc A3 c3 (mkC 1 cs) A4 c4 (mkI (1 + 4 * cs.length) ps) 1 _ w16 (Kd.R_reads' HM3f.out).2.2 (Kd.R_reads' HM3f.out).2.1 (Kd.R_reads' HM4f.out).2.2 (Kd.R_reads' HM4f.out).2.1 HH.out
  rw [mkC_len, mkI_len] at C
  refine C.mono ?_
  rintro e w17 ⟨rfl, hb17⟩
  clear C
  have HBg := Lib.hid (below_step HBf.out hb17)
  clear hb17 HM3f HM4f HK6f HBf y0 y1 y2 v0 v1 v2
  go_wp2_with fail
  go_ret
  exact ⟨rfl, HBg.out⟩
end Go.Proofs.YtfadnchkododdaaDoor.Ps
