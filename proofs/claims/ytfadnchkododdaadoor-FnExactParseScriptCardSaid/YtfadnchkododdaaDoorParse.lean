/- impl.ParseScript: its contract by hand. -/
import Derived.Test.YtfadnchkododdaaDoorLine
import Derived.Test.YtfadnchkododdaaDoorScript
namespace Go.Proofs.YtfadnchkododdaaDoor.Ps
open Go Go.RowKit Go.Proofs.YtfadnchkododdaaDoorW.PrintWords Go.Proofs.YtfadnchkododdaaDoor.PPs Go.Proofs.YtfadnchkododdaaDoor.Tchs
set_option linter.unusedVariables false
set_option linter.unusedSimpArgs false

theorem lineF_len (l : List UInt8) (cs : List S46) (ps : List Int) : (lineF l cs ps).1.length ≤ cs.length + 1 ∧ (lineF l cs ps).2.1.length ≤ ps.length + l.length + 1 := by
  rw [lineF_at]
  split
  · refine ⟨by simp, ?_⟩
    have h1 := picks_len (wordsF (Lib.cut l [32]).2.2 (Lib.cut l [32]).2.1) []
    have h2 := (cut_le l).2
    have h3 : (wordsF (Lib.cut l [32]).2.2 (Lib.cut l [32]).2.1).length ≤ (Lib.cut l [32]).2.1.length + 1 := by
      generalize (Lib.cut l [32]).2.1 = t
      unfold wordsF
      split
      · have hl := Lib.splitB_all ⟨#[32]⟩ (by show 1 ≤ 1; exact Nat.le_refl _) 0 (Lib.countB (ba t) ⟨#[32]⟩) (ba t) rfl
        have hle := Lib.countB_le ⟨#[32]⟩ (by show 1 ≤ 1; exact Nat.le_refl _) (ba t).size (ba t) (Nat.le_refl _)
        have hz : (ba t).size = t.length := by show t.toArray.size = _; simp
        omega
      · simp
    simp only [List.length_append, List.length_nil] at h1 ⊢
    omega
  · exact ⟨by simp, by simp; omega⟩
theorem FR.row {w w' : World} {g b : Nat} {v : Value} {xs : List ByteArray} {cells : Array Value} (h : FR w w' g) (hg : w.heap[g]? = some (.cells cells 28 (0, 0))) (hR : Kd.R Kd.string 9 w b (fun _ => True) v xs) : Kd.R Kd.string 9 w' b (fun _ => True) v xs := by
  refine Kd.R_mono (Kd.R_move (Kd.R_bound hR) (fun k hk => ?_)) (fun _ hk => hk.1)
  obtain ⟨_, _, _, q, hq, c, hc⟩ := hk
  have hq : q = 9 := by simpa [Kd.string, Kd.scalar] using hq
  subst hq
  rw [hc]
  exact h k c _ hc (by decide) (by decide) (fun he => by
    subst he
    rw [hc] at hg
    injection hg with hg
    injection hg with _ hg
    exact absurd hg (by decide))

set_option maxRecDepth 100000 in
set_option maxHeartbeats 8000000 in
theorem parseScript (a : ByteArray) (w : World) (hG : GM w) :
    Calls Tryd.prog 8 #[.string a] w fun e w' => ∃ vc vp : Value, e = .returned (.tuple #[.agg #[.string (scriptF a).1, vc, vp], .int .i64 (scriptF a).2.2.2.1, .int .i64 (scriptF a).2.2.2.2]) ∧ Kd.R k46 46 w' w.heap.size (fun _ => True) vc (scriptF a).2.1 ∧ Kd.R (Kd.int .i64) 3 w' w.heap.size (fun _ => True) vp (scriptF a).2.2.1 ∧ Below w.heap.size w w' := by
  have HG := Lib.hid hG
  go_enter Tryd.func8, Tryd.ntmps8
  have HF := Lib.hid (show scriptF a = if 20000 < a.size then (⟨#[]⟩, [], [], 1, 0) else loopF (Lib.splitB ⟨#[10]⟩ 0 (Lib.countB a ⟨#[10]⟩) a) 0 false ⟨#[]⟩ [] [] from rfl)
  have HK := Lib.hid (blk_new w (.cells #[.string ⟨#[]⟩, .slice none 0 0, .slice none 0 0] 28))
  by_cases h1 : (20000 : Int) < (a.size : Int)
  · have d1 : decide ((20000 : Int) < (a.size : Int)) = true := decide_eq_true h1
    have hF := HF.out
    rw [if_pos (by omega)] at hF
    have HF' := Lib.hid hF
    clear hF
    have q0 := blk_frozen HK.out 0
    have q1 := blk_frozen HK.out 1
    have q2 := blk_frozen HK.out 2
    have c0 := blk_cell HK.out 0
    have c1 := blk_cell HK.out 1
    have c2 := blk_cell HK.out 2
    simp only [List.getElem?_toArray, List.getElem?_cons_zero, List.getElem?_cons_succ] at c0 c1 c2
    go_wp2_with fail
    refine bodyPost_ret (v := .tuple #[.agg #[.string ⟨#[]⟩, .slice none 0 0, .slice none 0 0], .int .i64 1, .int .i64 0]) (by simp [results, Tryd.results8, go_sem, c0, c1, c2]) rfl ?_
    rw [HF'.out]
    exact ⟨_, _, rfl, Kd.R_nil _ _ _ _ _, Kd.R_nil _ _ _ _ _, below_alloc (Below.refl _ _) _⟩
  · have d1 : decide ((20000 : Int) < (a.size : Int)) = false := decide_eq_false h1
    have hF := HF.out
    rw [if_neg (by omega)] at hF
    have HF' := Lib.hid hF
    clear hF
    go_wp2_with fail
    have HG2 := Lib.hid (GM.of HG.out (below_alloc (below_alloc (Below.refl _ _) (.cells #[.string ⟨#[]⟩, .slice none 0 0, .slice none 0 0] 28)) (.cells #[.string ⟨#[]⟩, .slice none 0 0, .slice none 0 0] 28)))
    obtain ⟨m2, hm2⟩ := HG2.out
    refine (split_row a ⟨#[10]⟩ m2 _ (by omega) (by decide) hm2).mono ?_
    rintro e w3 ⟨v3, rfl, hR3, hlen3, hb3⟩
    obtain ⟨A3, c3, rfl⟩ := Kd.R_slice hR3
    have hz1 : (w.alloc (.cells #[.string ⟨#[]⟩, .slice none 0 0, .slice none 0 0] 28)).heap.size = w.heap.size + 1 := World.size_alloc _ _
    have hkS := blk_new (w.alloc (.cells #[.string ⟨#[]⟩, .slice none 0 0, .slice none 0 0] 28)) (.cells #[.string ⟨#[]⟩, .slice none 0 0, .slice none 0 0] 28)
    rw [hz1] at hkS
    have HI3 := Lib.hid (show SI w3 w.heap.size (w.heap.size + 1) ⟨#[]⟩ [] [] from ⟨_, _, blk_below hkS hb3, Kd.R_nil _ _ _ _ _, Kd.R_nil _ _ _ _ _, Nat.le_succ _⟩)
    have HK3 := Lib.hid (blk_below (blk_alloc HK.out (.cells #[.string ⟨#[]⟩, .slice none 0 0, .slice none 0 0] 28)) hb3)
    have HB3 := Lib.hid (below_step (below_alloc (below_alloc (Below.refl w.heap.size w) (.cells #[.string ⟨#[]⟩, .slice none 0 0, .slice none 0 0] 28)) (.cells #[.string ⟨#[]⟩, .slice none 0 0, .slice none 0 0] 28)) hb3)
    have HR3 := Lib.hid (Kd.R_lower hR3 (by rw [World.size_alloc, hz1]; omega : w.heap.size ≤ _))
    have HM := Lib.hid (show ∀ x ∈ Lib.splitB ⟨#[10]⟩ 0 (Lib.countB a ⟨#[10]⟩) a, x.size ≤ a.size from fun x hx => splitB_size _ (by show 1 ≤ 1; exact Nat.le_refl _) _ _ _ hx)
    clear hR3 hb3 hm2 hkS hz1
    generalize Lib.splitB ⟨#[10]⟩ 0 (Lib.countB a ⟨#[10]⟩) a = WS at HF' HR3 HM hlen3 ⊢
    go_wp2_with fail
    go_loopg [6, 18] (WS.length + 1) (fun kq v6 v18 w' => ∃ (begun : Bool) (done r : List ByteArray) (doc : ByteArray) (cs : List S46) (ps : List Int), v6 = .bool begun ∧ v18 = .int .i64 (done.length : Int) ∧ Aside0 (WS = done ++ r) ∧ Aside0 (kq = r.length + 1) ∧ Aside0 (loopF r done.length begun doc cs ps = scriptF a) ∧ Aside0 (SI w' w.heap.size (w.heap.size + 1) doc cs ps) ∧ Aside0 (w'.heap[w.heap.size]? = some (.cells #[.string ⟨#[]⟩, .slice none 0 0, .slice none 0 0] 28 (0, 0))) ∧ Aside0 (Kd.R Kd.string 9 w' w.heap.size (fun _ => True) (.slice A3 WS.length c3) WS) ∧ Aside0 (Below w.heap.size w w') ∧ Aside0 (cs.length ≤ done.length) ∧ Aside0 (ps.length ≤ done.length * 20001))
    case atStart => exact ⟨false, [], WS, ⟨#[]⟩, [], [], rfl, rfl, ⟨rfl⟩, ⟨rfl⟩, ⟨HF'.out.symm⟩, ⟨HI3.out⟩, ⟨HK3.out⟩, ⟨HR3.out⟩, ⟨HB3.out⟩, ⟨Nat.le_refl _⟩, ⟨Nat.zero_le _⟩⟩
    case round =>
      obtain ⟨begun, done, r, doc, cs, ps, rfl, rfl, hW, hk, hL, HI4, HK4, HR4, HB4, hcl, hpl⟩ := hrel
      clear HI3 HK3 HR3 HB3 HF' HG2
      cases r with
      | nil =>
        have hlen : (done.length : Int) = (WS.length : Int) := by have := hW.out; simp at this; rw [this]
        have d2 : decide ((done.length : Int) < (WS.length : Int)) = false := decide_eq_false (by omega)
        obtain ⟨vc, vp, h0, h2, h3, h4⟩ := HI4.out
        have c0 := blk_cell h0 0
        have c1 := blk_cell h0 1
        have c2 := blk_cell h0 2
        have e0 := blk_cell HK4.out 0
        have e1 := blk_cell HK4.out 1
        have e2 := blk_cell HK4.out 2
        have q0 := blk_frozen HK4.out 0
        have q1 := blk_frozen HK4.out 1
        have q2 := blk_frozen HK4.out 2
        obtain ⟨A5, c5, rfl⟩ := Kd.R_slice h2
        obtain ⟨A6, c6, rfl⟩ := Kd.R_slice h3
        simp only [List.getElem?_toArray, List.getElem?_cons_zero, List.getElem?_cons_succ] at c0 c1 c2 e0 e1 e2
        have hb := HB4.out
        cases begun with
        | true =>
          have hE : scriptF a = (doc, cs, ps, 0, 0) := hL.out.symm.trans (by simp [loopF])
          have HE := Lib.hid hE
          clear hE
          go_wp2_with fail
          refine bodyPost_ret (v := .tuple #[.agg #[.string doc, .slice A5 cs.length c5, .slice A6 ps.length c6], .int .i64 0, .int .i64 0]) (by simp [results, Tryd.results8, go_sem, e0, e1, e2]) rfl ?_
          rw [HE.out]
          refine ⟨_, _, rfl, ?_, ?_, ?_⟩
          · exact Kd.R_set (Kd.R_set (Kd.R_set h2 HK4.out (by decide) 0 _) (blk_set HK4.out 0 _) (by decide) 1 _) (blk_set (blk_set HK4.out 0 _) 1 _) (by decide) 2 _
          · exact Kd.R_set (Kd.R_set (Kd.R_set h3 HK4.out (by decide) 0 _) (blk_set HK4.out 0 _) (by decide) 1 _) (blk_set (blk_set HK4.out 0 _) 1 _) (by decide) 2 _
          · exact Below.setCell (Below.setCell (Below.setCell hb (Nat.le_refl _) _) (Nat.le_refl _) _) (Nat.le_refl _) _
        | false =>
          have hE : scriptF a = (⟨#[]⟩, [], [], 3, 0) := hL.out.symm.trans (by simp [loopF])
          have HE := Lib.hid hE
          clear hE
          go_wp2_with fail
          refine bodyPost_ret (v := .tuple #[.agg #[.string ⟨#[]⟩, .slice none 0 0, .slice none 0 0], .int .i64 3, .int .i64 0]) (by simp [results, Tryd.results8, go_sem, e0, e1, e2]) rfl ?_
          rw [HE.out]
          refine ⟨_, _, rfl, Kd.R_nil _ _ _ _ _, Kd.R_nil _ _ _ _ _, ?_⟩
          first
            | exact hb
            | exact Below.setCell (Below.setCell (Below.setCell hb (Nat.le_refl _) _) (Nat.le_refl _) _) (Nat.le_refl _) _
      | cons x r =>
        have hWl : WS.length = done.length + (r.length + 1) := by rw [hW.out]; simp
        have d2 : decide ((done.length : Int) < (WS.length : Int)) = true := decide_eq_true (by omega)
        have p1 : (0 : Int) ≤ (done.length : Int) := by omega
        have q1 : (done.length : Int) < (WS.length : Int) := by omega
        obtain ⟨ad, hA, hx⟩ := Kd.at_string (Kd.R_reads' HR4.out).2.2 (done.length : Int) p1 q1
        subst hA
        have hrd : rdOf ByteArray.empty WS (done.length : Int) = x := by rw [hW.out]; unfold rdOf; simp
        rw [hrd, Int.toNat_natCast] at hx
        replace p1 := eq_true p1
        replace q1 := eq_true q1
        have hxM := HM.out x (by rw [hW.out]; simp)
        have e2 : wrap64 ((done.length : Int) + 1) = ((done ++ [x]).length : Int) := by rw [wrapn _ (by omega) (by omega)]; simp
        have HWl := Lib.hid hWl
        clear hWl
        by_cases h0 : x.data.toList = []
        · have hx0 : x.toList.isEmpty = true := by rw [Lib.toList_data, h0]; rfl
          go_wp2_with fail
          have hL2 := hL.out
          rw [loopF, if_pos h0] at hL2
          go_roundg (r.length + 1)
          case measure => have := hk.out; simp at this; omega
          case rel => exact ⟨begun, done ++ [x], r, doc, cs, ps, rfl, by rw [← e2], ⟨by rw [hW.out]; simp⟩, ⟨rfl⟩, ⟨by simpa using hL2⟩, HI4, HK4, HR4, HB4, ⟨by have := hcl.out; simp; omega⟩, ⟨by have := hpl.out; simp; omega⟩⟩
        · have hx0 : x.toList.isEmpty = false := by rw [Lib.toList_data]; simpa using h0
          cases begun with
          | true =>
            go_wp2_with fail
            have hln := lineF_len x.data.toList cs ps
            have hxl : x.data.toList.length = x.size := by rw [Array.length_toList]; rfl
            have hwl := HWl.out
            have hcl1 := hcl.out
            have hpl1 := hpl.out
            refine (line x (w.heap.size + 1) doc cs ps w wr (by omega) HI4.out HB4.out (GM.of HG.out HB4.out) (by omega) (by omega)).mono ?_
            rintro e w5 ⟨rfl, hI5, hB5, hF5⟩
            have HI5 := Aside0.mk hI5
            have HB5 := Aside0.mk hB5
            have HK5 := Aside0.mk (hF5 _ _ _ HK4.out (by decide) (by decide) (by omega))
            have HR5 := Aside0.mk (FR.row hF5 HI4.out.choose_spec.choose_spec.1 HR4.out)
            clear hI5 hB5 hF5 hx hwl
            have hL2 := hL.out
            rw [loopF, if_neg h0, if_pos rfl] at hL2
            have HL2 := Lib.hid hL2
            clear hL2
            generalize lineF x.data.toList cs ps = lf at HI5 HL2 hln ⊢
            obtain ⟨cs5, ps5, ok5⟩ := lf
            cases ok5 with
            | true =>
              go_wp2_with fail
              have hL2 := HL2.out
              go_roundg (r.length + 1)
              case measure => have := hk.out; simp at this; omega
              case rel => exact ⟨true, done ++ [x], r, doc, cs5, ps5, rfl, by rw [← e2], ⟨by rw [hW.out]; simp⟩, ⟨rfl⟩, ⟨by simpa using hL2⟩, HI5, HK5, HR5, HB5, ⟨by simp at hln ⊢; omega⟩, ⟨by simp at hln ⊢; omega⟩⟩
            | false =>
              have hL2 := HL2.out
              simp only [Bool.false_eq_true, if_false] at hL2
              have HE := Lib.hid hL2.symm
              clear hL2
              have e3 : wrap64 ((done.length : Int) + 1) = (done.length : Int) + 1 := by have := HWl.out; exact wrapn _ (by omega) (by omega)
              have HE3 := Lib.hid e3
              clear e3
              have f0 := blk_cell HK5.out 0
              have f1 := blk_cell HK5.out 1
              have f2 := blk_cell HK5.out 2
              have g0 := blk_frozen HK5.out 0
              have g1 := blk_frozen HK5.out 1
              have g2 := blk_frozen HK5.out 2
              simp only [List.getElem?_toArray, List.getElem?_cons_zero, List.getElem?_cons_succ] at f0 f1 f2
              go_wp2_with fail
              refine bodyPost_ret (v := .tuple #[.agg #[.string ⟨#[]⟩, .slice none 0 0, .slice none 0 0], .int .i64 2, .int .i64 (wrap64 ((done.length : Int) + 1))]) (by simp [results, Tryd.results8, go_sem, f0, f1, f2]) rfl ?_
              rw [HE.out, HE3.out]
              refine ⟨_, _, rfl, Kd.R_nil _ _ _ _ _, Kd.R_nil _ _ _ _ _, ?_⟩
              first
                | exact HB5.out
                | exact Below.setCell (Below.setCell (Below.setCell HB5.out (Nat.le_refl _) _) (Nat.le_refl _) _) (Nat.le_refl _) _
          | false =>
            go_wp2_with fail
            refine (Tryd.strings_CutPrefix x ⟨#[100, 111, 99, 32]⟩ _).mono ?_
            rintro e w5 ⟨rfl, rfl⟩
            rw [show (⟨#[100, 111, 99, 32]⟩ : ByteArray).data.toList = docP from rfl]
            have hL2 := hL.out
            rw [loopF, if_neg h0, if_neg (by simp)] at hL2
            obtain ⟨vc, vp, h5, h6, h7, h8⟩ := HI4.out
            have s0 := blk_cell h5 0
            have z0 := blk_frozen h5 0
            simp only [List.getElem?_toArray, List.getElem?_cons_zero, List.getElem?_cons_succ] at s0
            have hI5 : SI (w5.setCell ⟨w.heap.size + 1, 0, none⟩ (.string (bb (Lib.trimPrefix x.data.toList docP)))) w.heap.size (w.heap.size + 1) (bb (Lib.trimPrefix x.data.toList docP)) cs ps := ⟨vc, vp, by have h := blk_set h5 0 (.string (bb (Lib.trimPrefix x.data.toList docP))); simpa using h, Kd.R_set h6 h5 (by decide) 0 _, Kd.R_set h7 h5 (by decide) 0 _, h8⟩
            have HI5 := Aside0.mk hI5
            have HK5 := Aside0.mk (blk_far HK4.out (p := ⟨w.heap.size + 1, 0, none⟩) (by show w.heap.size ≠ w.heap.size + 1; omega) (.string (bb (Lib.trimPrefix x.data.toList docP))))
            have HR5 := Aside0.mk (Kd.R_set HR4.out h5 (by decide) 0 (.string (bb (Lib.trimPrefix x.data.toList docP))))
            have HB5 := Aside0.mk (Below.setCell HB4.out (p := ⟨w.heap.size + 1, 0, none⟩) (Nat.le_succ _) (.string (bb (Lib.trimPrefix x.data.toList docP))))
            clear h5 h6 h7 hI5 hx
            have HL2 := Lib.hid hL2
            clear hL2
            generalize Lib.trimPrefix x.data.toList docP = dp at HL2 HI5 HK5 HR5 HB5 ⊢
            generalize Lib.hasPrefix x.data.toList docP = hp at HL2 ⊢
            cases hp with
            | true =>
              go_wp2_with fail
              have hL2 := HL2.out
              go_roundg (r.length + 1)
              case measure => have := hk.out; simp at this; omega
              case rel => exact ⟨true, done ++ [x], r, bb dp, cs, ps, rfl, by rw [← e2], ⟨by rw [hW.out]; simp⟩, ⟨rfl⟩, ⟨by simpa using hL2⟩, HI5, HK5, HR5, HB5, ⟨by have := hcl.out; simp; omega⟩, ⟨by have := hpl.out; simp; omega⟩⟩
            | false =>
              have hL2 := HL2.out
              simp only [Bool.false_eq_true, if_false] at hL2
              have HE := Lib.hid hL2.symm
              clear hL2
              have e3 : wrap64 ((done.length : Int) + 1) = (done.length : Int) + 1 := by have := HWl.out; exact wrapn _ (by omega) (by omega)
              have HE3 := Lib.hid e3
              clear e3
              have f0 := blk_cell HK5.out 0
              have f1 := blk_cell HK5.out 1
              have f2 := blk_cell HK5.out 2
              have g0 := blk_frozen HK5.out 0
              have g1 := blk_frozen HK5.out 1
              have g2 := blk_frozen HK5.out 2
              simp only [List.getElem?_toArray, List.getElem?_cons_zero, List.getElem?_cons_succ] at f0 f1 f2
              go_wp2_with fail
              refine bodyPost_ret (v := .tuple #[.agg #[.string ⟨#[]⟩, .slice none 0 0, .slice none 0 0], .int .i64 2, .int .i64 (wrap64 ((done.length : Int) + 1))]) (by simp [results, Tryd.results8, go_sem, f0, f1, f2]) rfl ?_
              rw [HE.out, HE3.out]
              refine ⟨_, _, rfl, Kd.R_nil _ _ _ _ _, Kd.R_nil _ _ _ _ _, ?_⟩
              first
                | exact HB5.out
                | exact Below.setCell (Below.setCell (Below.setCell HB5.out (Nat.le_refl _) _) (Nat.le_refl _) _) (Nat.le_refl _) _
end Go.Proofs.YtfadnchkododdaaDoor.Ps
