/- spec.l6Call: its contract by hand. -/
import Derived.Test.YtfadnchkododdaaDoorZDefs
import Derived.Test.YtfadnchkododdaaDoorLines
import Derived.Deep.QuietTactic
import Derived.BigQuiet
import Derived.Test.YtfadnchkododdaaDoorTch
import Derived.Deep.RegionHeld3
import Derived.StillTailTactics
import Derived.StillTailTactics
import Derived.StillTailTactics
import Derived.StillTailTactics
import Derived.StillTailTactics
import Derived.StillTailTactics
namespace Go.Proofs.YtfadnchkododdaaDoor.Ps
open Go Go.RowKit Go.Proofs.YtfadnchkododdaaDoorW.PrintWords Go.Proofs.YtfadnchkododdaaDoor.PPs
set_option linter.unusedVariables false
set_option linter.unusedSimpArgs false

/-- A struct of four cells, stored whole. -/
theorem box4 {w : World} {g : Nat} {T : TypeId} {a b c d : Value} (h : w.heap[g]? = some (.cells #[a, b, c, d] T (0, 0))) (a' b' c' d' : Value) :
    ((((w.setCell ⟨g, 0, none⟩ a').setCell ⟨g, 1, none⟩ b').setCell ⟨g, 2, none⟩ c').setCell ⟨g, 3, none⟩ d').heap[g]? = some (.cells #[a', b', c', d'] T (0, 0)) := by
  have h0 := blk_set h 0 a'
  have h1 := blk_set h0 1 b'
  have h2 := blk_set h1 2 c'
  have h3 := blk_set h2 3 d'
  simpa using h3
theorem box4_far {w : World} {g k : Nat} {T : TypeId} {cs : Array Value} (h : w.heap[k]? = some (.cells cs T (0, 0))) (hk : k ≠ g) (a' b' c' d' : Value) :
    ((((w.setCell ⟨g, 0, none⟩ a').setCell ⟨g, 1, none⟩ b').setCell ⟨g, 2, none⟩ c').setCell ⟨g, 3, none⟩ d').heap[k]? = some (.cells cs T (0, 0)) :=
  blk_far (blk_far (blk_far (blk_far h hk _) hk _) hk _) hk _
theorem box4_below {w0 w : World} {B g : Nat} (h : Below B w0 w) (hg : B ≤ g) (a' b' c' d' : Value) :
    Below B w0 ((((w.setCell ⟨g, 0, none⟩ a').setCell ⟨g, 1, none⟩ b').setCell ⟨g, 2, none⟩ c').setCell ⟨g, 3, none⟩ d') :=
  Below.setCell (Below.setCell (Below.setCell (Below.setCell h hg _) hg _) hg _) hg _

set_option maxRecDepth 100000 in
set_option maxHeartbeats 8000000 in
theorem _root_.Go.Proofs.YtfadnchkododdaaDoor.PPs.spec_l6Call.calls (k : Nat) (a0 : ByteArray) (r1 : Int) (r2 : Int) (r3 : ByteArray) (r4 : Int) (r5 : Bool) (w : World) (h : spec_l6Call.f k a0 = some (r1, r2, r3, r4, r5)) :
    Calls Tryd.prog 17 #[.string a0] w fun e w' => e = .returned (.tuple #[.agg #[.int .i64 r1, .int .i64 r2, .string r3, .int .i64 r4], .bool r5]) ∧ Below w.heap.size w w' := by
  have H := Lib.hid h
  clear h
  go_enter Tryd.func17, Tryd.ntmps17
  go_upto_region 2 with (first | ((with_reducible refine gate_dst (N := 2) rfl ?_); refine box_event ?hg (N := 2) ?hd (cs := #[.int .i64 0, .int .i64 0, .string (⟨#[]⟩ : ByteArray), .int .i64 0]) (t := 46) ?hr ?_; (case hd => rfl); (case hg => rfl); (case hr => first | (go_simp; done) | (go_simp; rfl)); intro g2 hg2 w3 hbox2 hb2; have HB3 := Lib.hid hb2; have HG2 := Lib.hid hg2; have HK2 := Lib.hid hbox2; clear hb2 hg2 hbox2) | ((with_reducible refine gate_dst (N := 4) rfl ?_); refine box_event ?hg (N := 4) ?hd (cs := #[.int .i64 0, .int .i64 0, .string (⟨#[]⟩ : ByteArray), .int .i64 0]) (t := 46) ?hr ?_; (case hd => rfl); (case hg => rfl); (case hr => first | (go_simp; done) | (go_simp; rfl)); intro g4 hg4 w4 hbox4 hb4; have HB4 := Lib.hid hb4; have HG4 := Lib.hid hg4; have HK4 := Lib.hid hbox4; have c0 := blk_cell hbox4 0; have c1 := blk_cell hbox4 1; have c2 := blk_cell hbox4 2; have c3 := blk_cell hbox4 3; (simp only [List.getElem?_toArray, List.getElem?_cons_zero, List.getElem?_cons_succ] at c0 c1 c2 c3); have q0 := blk_frozen hbox4 0; have q1 := blk_frozen hbox4 1; have q2 := blk_frozen hbox4 2; have q3 := blk_frozen hbox4 3; clear hb4 hg4 hbox4))
  have HB := Lib.hid (box4_below (below_step HB3.out HB4.out) (by rw [HG4.out]; exact below_size HB3.out : w.heap.size ≤ g4) (.int .i64 0) (.int .i64 0) (.string ⟨#[]⟩) (.int .i64 0))
  have HN := Lib.hid (show g2 ≠ g4 from by rw [HG4.out]; exact Nat.ne_of_lt (blk_lt HK2.out))
  have HK2' := Lib.hid (box4_far (blk_below HK2.out HB4.out) HN.out (.int .i64 0) (.int .i64 0) (.string ⟨#[]⟩) (.int .i64 0))
  have HK4' := Lib.hid (box4 HK4.out (.int .i64 0) (.int .i64 0) (.string ⟨#[]⟩) (.int .i64 0))
  have HL2 := Lib.hid (show w.heap.size ≤ g2 from by rw [HG2.out]; exact Nat.le_refl _)
  have HL4 := Lib.hid (show w.heap.size ≤ g4 from by rw [HG4.out]; exact below_size HB3.out)
  clear HK2 HK4 HG2 HG4 c0 c1 c2 c3 q0 q1 q2 q3
  generalize ((((w4.setCell ⟨g4, 0, none⟩ (.int .i64 0)).setCell ⟨g4, 1, none⟩ (.int .i64 0)).setCell ⟨g4, 2, none⟩ (.string ⟨#[]⟩)).setCell ⟨g4, 3, none⟩ (.int .i64 0)) = W at HB HK2' HK4' ⊢
  clear HB3 HB4 w3 w4
  go_cut [30] (fun v30 wc => ∃ (kq : Nat) (b : Bool), v30 = .bool b ∧ Aside0 (spec_l6Call.j0 kq a0 b 0 0 (⟨#[]⟩ : ByteArray) 0 = some (r1, r2, r3, r4, r5)) ∧ Aside0 (wc = W))
  case first =>
    have H1 := H.out
    unfold spec_l6Call.f at H1
    clear H
    by_cases c7 : (a0.size : Int) < 3
    · rw [if_pos c7] at H1
      have c7b0 : decide ((a0.size : Int) < 3) = true := decide_eq_true c7
      clear c7
      have H' := Aside0.mk H1
      clear H1
      go_wp2
      go_meet
      case rel => exact ⟨_, true, rfl, H', ⟨rfl⟩⟩
    · rw [if_neg c7] at H1
      have c7b0 : decide ((a0.size : Int) < 3) = false := decide_eq_false c7
      have q9 : 0 < a0.size := by omega
      have q14 : 1 < a0.size := by omega
      rw [if_pos (by omega)] at H1
      clear c7
      have hx9 : ∀ h : 0 < a0.size, ((a0[0]'h).toNat : Int) = bt a0 0 := bt_at a0 0
      have qi9 : (0 < (a0.size : Int)) = True := eq_true (by omega)
      have qi14 : (1 < (a0.size : Int)) = True := eq_true (by omega)
      have hx14 : ∀ h : 1 < a0.size, ((a0[1]'h).toNat : Int) = bt a0 1 := bt_at a0 1
      rw [if_pos (by omega : (1 : Int) < (a0.size : Int))] at H1
      replace q9 := eq_true q9
      replace q14 := eq_true q14
      by_cases c10 : (bt a0 0) < 48
      · rw [if_pos c10] at H1
        have c10b0 : decide ((bt a0 0) < 48) = true := decide_eq_true c10
        clear c10
        have H' := Aside0.mk H1
        clear H1
        go_wp2
        go_meet
        case rel => exact ⟨_, true, rfl, H', ⟨rfl⟩⟩
      · rw [if_neg c10] at H1
        have c10b0 : decide ((bt a0 0) < 48) = false := decide_eq_false c10
        clear c10
        by_cases c12 : (bt a0 0) > 55
        · rw [if_pos c12] at H1
          have c12b0 : decide (55 < (bt a0 0)) = true := decide_eq_true c12
          clear c12
          have H' := Aside0.mk H1
          clear H1
          go_wp2
          go_meet
          case rel => exact ⟨_, true, rfl, H', ⟨rfl⟩⟩
        · rw [if_neg c12] at H1
          have c12b0 : decide (55 < (bt a0 0)) = false := decide_eq_false c12
          clear c12
          have H' := Aside0.mk H1
          clear H1
          go_wp2
          go_meet
          case rel => exact ⟨_, (bt a0 1 != 32), rfl, H', ⟨rfl⟩⟩
  case rest =>
    clear H
    obtain ⟨kq, b, rfl, HA, HW⟩ := hcut
    obtain rfl := HW.out
    clear HW
    have z0 := blk_cell HK2'.out 0
    have z1 := blk_cell HK2'.out 1
    have z2 := blk_cell HK2'.out 2
    have z3 := blk_cell HK2'.out 3
    have x0 := blk_frozen HK2'.out 0
    have x1 := blk_frozen HK2'.out 1
    have x2 := blk_frozen HK2'.out 2
    have x3 := blk_frozen HK2'.out 3
    have n24 := HN.out
    have n42 := Ne.symm n24
    simp only [List.getElem?_toArray, List.getElem?_cons_zero, List.getElem?_cons_succ] at z0 z1 z2 z3
    cases kq with
    | zero => exact absurd HA.out (by simp [spec_l6Call.j0])
    | succ kq =>
      have H1 := HA.out
      rw [spec_l6Call.j0] at H1
      clear HA
      cases b with
      | true =>
        rw [if_pos rfl] at H1
        simp only [Option.some.injEq, Prod.mk.injEq] at H1
        obtain ⟨rfl, rfl, rfl, rfl, rfl⟩ := H1
        have y0 := blk_cell HK4'.out 0
        have y1 := blk_cell HK4'.out 1
        have y2 := blk_cell HK4'.out 2
        have y3 := blk_cell HK4'.out 3
        simp only [List.getElem?_toArray, List.getElem?_cons_zero, List.getElem?_cons_succ] at y0 y1 y2 y3
        go_wp2
        refine bodyPost_ret (results_ct rfl _ _ g2 46 _ (0, 0) _ rfl (box4 HK2'.out _ _ _ _) Tryd.underlying46 rfl (by kernel_rfl)) rfl ?_
        exact ⟨rfl, box4_below HB.out HL2.out _ _ _ _⟩
      | false =>
        rw [if_neg (by simp)] at H1
        by_cases hz : 0 < (a0.size : Int)
        case neg => rw [if_neg hz] at H1; exact absurd H1 (by simp)
        rw [if_pos hz] at H1
        by_cases hz2 : 2 ≤ (a0.size : Int)
        case neg => rw [if_neg hz2] at H1; exact absurd H1 (by simp)
        rw [if_pos hz2] at H1
        have q20 : (0 < a0.size) = True := eq_true (by omega)
        have hx20 : ∀ h : 0 < a0.size, ((a0[0]'h).toNat : Int) = bt a0 0 := bt_at a0 0
        have e2 : (2 ≤ (a0.size : Int)) = True := eq_true hz2
        clear hz hz2 z0 z1 z2 z3 x0 x1 x2 x3 n24 n42
        have H2 := Lib.hid H1
        clear H1
        go_upto_region 5 with (first | ((with_reducible refine gate_dst (N := 5) rfl ?_); refine box_event ?hg (N := 5) ?hd (cs := #[.int .i64 0, .int .i64 0, .string (⟨#[]⟩ : ByteArray), .int .i64 0]) (t := 46) ?hr ?_; (case hd => rfl); (case hg => rfl); (case hr => first | (go_simp; done) | (go_simp; rfl)); intro g5 hg5 w5 hbox5 hb5; have HB5 := Lib.hid hb5; have HG5 := Lib.hid hg5; have HK5 := Lib.hid hbox5; have y0 := blk_cell hbox5 0; have y1 := blk_cell hbox5 1; have y2 := blk_cell hbox5 2; have y3 := blk_cell hbox5 3; (simp only [List.getElem?_toArray, List.getElem?_cons_zero, List.getElem?_cons_succ] at y0 y1 y2 y3); have v0 := blk_frozen hbox5 0; have v1 := blk_frozen hbox5 1; have v2 := blk_frozen hbox5 2; have v3 := blk_frozen hbox5 3; clear hb5 hg5 hbox5))
        have HB2 := Lib.hid (below_step HB.out HB5.out)
        have HL5 := Lib.hid (show w.heap.size ≤ g5 from by rw [HG5.out]; exact below_size HB.out)
        have HN25 := Lib.hid (show g2 ≠ g5 from by rw [HG5.out]; exact Nat.ne_of_lt (blk_lt HK2'.out))
        have HN45 := Lib.hid (show g4 ≠ g5 from by rw [HG5.out]; exact Nat.ne_of_lt (blk_lt HK4'.out))
        have HB6 := Lib.hid (box4_below HB2.out HL5.out (.int .i64 ((bt a0 0 - 48) % 256)) (.int .i64 0) (.string ⟨#[]⟩) (.int .i64 0))
        have HK26 := Lib.hid (box4_far (blk_below HK2'.out HB5.out) HN25.out (.int .i64 ((bt a0 0 - 48) % 256)) (.int .i64 0) (.string ⟨#[]⟩) (.int .i64 0))
        have HK46 := Lib.hid (box4_far (blk_below HK4'.out HB5.out) HN45.out (.int .i64 ((bt a0 0 - 48) % 256)) (.int .i64 0) (.string ⟨#[]⟩) (.int .i64 0))
        have HK56 := Lib.hid (box4 HK5.out (.int .i64 ((bt a0 0 - 48) % 256)) (.int .i64 0) (.string ⟨#[]⟩) (.int .i64 0))
        clear HB HB2 HG5 HK2' HK4' HK5 y0 y1 y2 y3 v0 v1 v2 v3 q20 hx20
        generalize ((((w5.setCell ⟨g5, 0, none⟩ (.int .i64 ((bt a0 0 - 48) % 256))).setCell ⟨g5, 1, none⟩ (.int .i64 0)).setCell ⟨g5, 2, none⟩ (.string ⟨#[]⟩)).setCell ⟨g5, 3, none⟩ (.int .i64 0)) = W at HB6 HK26 HK46 HK56 ⊢
        clear HB5 w5 wc
        generalize (bt a0 0 - 48) % 256 = cl at HK56 H2 ⊢
        have H1 := H2.out
        clear H2
        by_cases c1 : (a0.extract 2 a0.size).toList = ([116, 97, 107, 101] : List UInt8)
        · rw [if_pos c1] at H1
          have e3 : ((a0.extract 2 a0.size).toList == ([116, 97, 107, 101] : List UInt8)) = true := beq_iff_eq.mpr c1
          simp only [Option.some.injEq, Prod.mk.injEq] at H1
          obtain ⟨rfl, rfl, rfl, rfl, rfl⟩ := H1
          have z0 := blk_cell HK26.out 0
          have z1 := blk_cell HK26.out 1
          have z2 := blk_cell HK26.out 2
          have z3 := blk_cell HK26.out 3
          simp only [List.getElem?_toArray, List.getElem?_cons_zero, List.getElem?_cons_succ] at z0 z1 z2 z3
          have x0 := blk_frozen HK26.out 0
          have x1 := blk_frozen HK26.out 1
          have x2 := blk_frozen HK26.out 2
          have x3 := blk_frozen HK26.out 3
          have y0 := blk_cell HK56.out 0
          have y1 := blk_cell HK56.out 1
          have y2 := blk_cell HK56.out 2
          have y3 := blk_cell HK56.out 3
          simp only [List.getElem?_toArray, List.getElem?_cons_zero, List.getElem?_cons_succ] at y0 y1 y2 y3
          have v0 := blk_frozen HK56.out 0
          have v1 := blk_frozen HK56.out 1
          have v2 := blk_frozen HK56.out 2
          have v3 := blk_frozen HK56.out 3
          have n25 := HN25.out
          have n52 := Ne.symm n25
          go_wp2
          refine bodyPost_ret (results_ct rfl _ _ g2 46 _ (0, 0) _ rfl (box4 (blk_far HK26.out HN25.out _) _ _ _ _) Tryd.underlying46 rfl (by kernel_rfl)) rfl ?_
          exact ⟨rfl, box4_below (Below.setCell HB6.out HL5.out _) (HL2.out) _ _ _ _⟩
        rw [if_neg c1] at H1
        have e3 : ((a0.extract 2 a0.size).toList == ([116, 97, 107, 101] : List UInt8)) = false := beq_eq_false_iff_ne.mpr c1
        clear c1
        by_cases c1 : (a0.extract 2 a0.size).toList = ([99, 97, 110, 99, 101, 108] : List UInt8)
        · rw [if_pos c1] at H1
          have e4 : ((a0.extract 2 a0.size).toList == ([99, 97, 110, 99, 101, 108] : List UInt8)) = true := beq_iff_eq.mpr c1
          simp only [Option.some.injEq, Prod.mk.injEq] at H1
          obtain ⟨rfl, rfl, rfl, rfl, rfl⟩ := H1
          have z0 := blk_cell HK26.out 0
          have z1 := blk_cell HK26.out 1
          have z2 := blk_cell HK26.out 2
          have z3 := blk_cell HK26.out 3
          simp only [List.getElem?_toArray, List.getElem?_cons_zero, List.getElem?_cons_succ] at z0 z1 z2 z3
          have x0 := blk_frozen HK26.out 0
          have x1 := blk_frozen HK26.out 1
          have x2 := blk_frozen HK26.out 2
          have x3 := blk_frozen HK26.out 3
          have y0 := blk_cell HK56.out 0
          have y1 := blk_cell HK56.out 1
          have y2 := blk_cell HK56.out 2
          have y3 := blk_cell HK56.out 3
          simp only [List.getElem?_toArray, List.getElem?_cons_zero, List.getElem?_cons_succ] at y0 y1 y2 y3
          have v0 := blk_frozen HK56.out 0
          have v1 := blk_frozen HK56.out 1
          have v2 := blk_frozen HK56.out 2
          have v3 := blk_frozen HK56.out 3
          have n25 := HN25.out
          have n52 := Ne.symm n25
          go_wp2
          refine bodyPost_ret (results_ct rfl _ _ g2 46 _ (0, 0) _ rfl (box4 (blk_far HK26.out HN25.out _) _ _ _ _) Tryd.underlying46 rfl (by kernel_rfl)) rfl ?_
          exact ⟨rfl, box4_below (Below.setCell HB6.out HL5.out _) (HL2.out) _ _ _ _⟩
        rw [if_neg c1] at H1
        have e4 : ((a0.extract 2 a0.size).toList == ([99, 97, 110, 99, 101, 108] : List UInt8)) = false := beq_eq_false_iff_ne.mpr c1
        clear c1
        have H' := Aside0.mk H1
        clear H1
        go_wp2_with (first | ((with_reducible refine gate_dst (N := 47) rfl ?_); refine Kd.R_lit Kd.string _ 9 ?hg (N := 47) ?hd (xs := ([(⟨#[112, 97, 116, 99, 104, 32]⟩ : ByteArray), (⟨#[103, 101, 116, 32]⟩ : ByteArray), (⟨#[113, 117, 101, 114, 121, 32]⟩ : ByteArray), (⟨#[119, 97, 116, 99, 104, 32]⟩ : ByteArray)] : List ByteArray)) (inner := [.string (⟨#[112, 97, 116, 99, 104, 32]⟩ : ByteArray), .string (⟨#[103, 101, 116, 32]⟩ : ByteArray), .string (⟨#[113, 117, 101, 114, 121, 32]⟩ : ByteArray), .string (⟨#[119, 97, 116, 99, 104, 32]⟩ : ByteArray)]) (ok := fun _ => True) (okp := fun _ => True) ?hr ?hp (fun _ hk => hk) trivial (Below.refl _ _) (Nat.le_refl _) (by simp) ?_; (case hd => rfl); (case hg => rfl); (case hr => first | (go_simp; done) | (go_simp; rfl)); (case hp => exact (Reps.one (show Kd.M Kd.string _ _ _ (⟨#[112, 97, 116, 99, 104, 32]⟩ : ByteArray) [.string (⟨#[112, 97, 116, 99, 104, 32]⟩ : ByteArray)] from rfl) (Reps.one (show Kd.M Kd.string _ _ _ (⟨#[103, 101, 116, 32]⟩ : ByteArray) [.string (⟨#[103, 101, 116, 32]⟩ : ByteArray)] from rfl) (Reps.one (show Kd.M Kd.string _ _ _ (⟨#[113, 117, 101, 114, 121, 32]⟩ : ByteArray) [.string (⟨#[113, 117, 101, 114, 121, 32]⟩ : ByteArray)] from rfl) (Reps.one (show Kd.M Kd.string _ _ _ (⟨#[119, 97, 116, 99, 104, 32]⟩ : ByteArray) [.string (⟨#[119, 97, 116, 99, 104, 32]⟩ : ByteArray)] from rfl) (Reps.none _ _)))))); intro v7 w7 ho hb hg_ hnew_; clear hg_ hnew_; have HO7 := Aside0.mk (Kd.R_lower ho (below_size HB6.out)); have HB7 := Aside0.mk (below_step HB6.out hb); have HK27 := Aside0.mk (blk_below HK26.out hb); have HK47 := Aside0.mk (blk_below HK46.out hb); have HK57 := Aside0.mk (blk_below HK56.out hb); clear ho hb HB6 HK26 HK46 HK56))
        generalize hhs : ([(⟨#[112, 97, 116, 99, 104, 32]⟩ : ByteArray), (⟨#[103, 101, 116, 32]⟩ : ByteArray), (⟨#[113, 117, 101, 114, 121, 32]⟩ : ByteArray), (⟨#[119, 97, 116, 99, 104, 32]⟩ : ByteArray)] : List ByteArray) = hs at H' HO7 ⊢
        have hlen := Aside0.mk (show hs.length = 4 from by rw [← hhs]; rfl)
        skip
        go_loopg [8] kq (fun kq' v8 w' => ∃ (x8 kd : Int) (tx : ByteArray), v8 = .int .i64 x8 ∧ Aside0 (spec_l6Call.l0 kq' (a0.extract 2 a0.size) hs x8 0 0 (⟨#[]⟩ : ByteArray) 0 cl kd tx 0 = some (r1, r2, r3, r4, r5)) ∧ Aside0 (Kd.R Kd.string 9 w' w.heap.size (fun _ => True) v7 hs) ∧ Aside0 (w'.heap[g2]? = some (.cells #[.int .i64 0, .int .i64 0, .string (⟨#[]⟩ : ByteArray), .int .i64 0] 46 (0, 0))) ∧ Aside0 (w'.heap[g4]? = some (.cells #[.int .i64 0, .int .i64 0, .string (⟨#[]⟩ : ByteArray), .int .i64 0] 46 (0, 0))) ∧ Aside0 (w'.heap[g5]? = some (.cells #[.int .i64 cl, .int .i64 kd, .string tx, .int .i64 0] 46 (0, 0))) ∧ Aside0 (Below w.heap.size w w'))
        case atStart => exact ⟨0, 0, ⟨#[]⟩, rfl, H', HO7, HK27, HK47, HK57, HB7⟩
        case round =>
          obtain ⟨x8, kd, tx, rfl, HJ, HO, HK2, HK4, HK5, HB⟩ := hrel
          clear H' HO7 HK27 HK47 HK57 HB7
          cases gk with
          | zero => exact absurd HJ.out (by simp [spec_l6Call.l0])
          | succ k2 =>
            have H1 := HJ.out
            rw [spec_l6Call.l0] at H1
            clear HJ
            by_cases c1 : x8 < 4
            · rw [if_pos c1] at H1
              have d1 : decide (x8 < 4) = true := decide_eq_true c1
              by_cases c2 : 0 ≤ x8
              case neg => rw [if_neg c2] at H1; exact absurd H1 (by simp)
              rw [if_pos c2, if_pos (by rw [hlen.out]; exact c1)] at H1
              cases hr : spec_l6Rest.f (a0.extract 2 a0.size) (rdOf ByteArray.empty hs x8) with
              | none => rw [hr] at H1; exact absurd H1 (by simp)
              | some bt118 =>
                obtain ⟨t118, b118⟩ := bt118
                rw [hr, Option.bind_some] at H1
                have HR := Aside0.mk hr
                clear hr
                have q8 : x8 < (hs.length : Int) := by rw [hlen.out]; exact c1
                obtain ⟨A7, c7, e7⟩ := Kd.R_slice HO.out
                subst e7
                obtain ⟨ad, ea, hx⟩ := Kd.at_string (Kd.R_reads' HO.out).2.2 x8 c2 q8
                cases ea
                have c2' := eq_true c2
                have q8' := eq_true q8
                skip
                have n25 := HN25.out
                have n52 := Ne.symm n25
                have y0 := blk_cell HK5.out 0
                have y1 := blk_cell HK5.out 1
                have y2 := blk_cell HK5.out 2
                have y3 := blk_cell HK5.out 3
                simp only [List.getElem?_toArray, List.getElem?_cons_zero, List.getElem?_cons_succ] at y0 y1 y2 y3
                have v0 := blk_frozen HK5.out 0
                have v1 := blk_frozen HK5.out 1
                have v2 := blk_frozen HK5.out 2
                have v3 := blk_frozen HK5.out 3
                have H1' := Aside0.mk H1
                clear H1
                go_wp2_with fail
                refine (spec_l6Rest.calls (a0.extract 2 a0.size) (rdOf ByteArray.empty hs x8) t118 b118 _ HR.out).mono ?_
                rintro e w' ⟨rfl, ⟨nd, rfl⟩⟩
                have HO8 := Aside0.mk (Kd.R_drewN HO.out nd)
                have HK28 := Aside0.mk (blk_drewN HK2.out nd)
                have HK48 := Aside0.mk (blk_drewN HK4.out nd)
                have HK58 := Aside0.mk (blk_drewN HK5.out nd)
                have HB8 := Aside0.mk (pw_below_drewN HB.out nd)
                clear HO HK2 HK4 HK5 HB hx y0 y1 y2 y3 v0 v1 v2 v3
                generalize wr.drewN nd = w8 at HO8 HK28 HK48 HK58 HB8 ⊢
                have y0 := blk_cell HK58.out 0
                have y1 := blk_cell HK58.out 1
                have y2 := blk_cell HK58.out 2
                have y3 := blk_cell HK58.out 3
                simp only [List.getElem?_toArray, List.getElem?_cons_zero, List.getElem?_cons_succ] at y0 y1 y2 y3
                have v0 := blk_frozen HK58.out 0
                have v1 := blk_frozen HK58.out 1
                have v2 := blk_frozen HK58.out 2
                have v3 := blk_frozen HK58.out 3
                cases b118 with
                | true =>
                  go_wp2_with fail
                  have H1 := H1'.out
                  simp only [if_true] at H1
                  rw [wrapn (1 + x8) (by omega) (by omega), wrapn (x8 + 1) (by omega) (by omega)] at H1
                  have hh1 := blk_set HK58.out 1 (.int .i64 (1 + x8))
                  have hh2 := blk_set hh1 2 (.string t118)
                  go_roundg k2
                  case measure => omega
                  case rel => exact ⟨x8 + 1, 1 + x8, t118, rfl, ⟨H1⟩, ⟨Kd.R_set (Kd.R_set HO8.out HK58.out (by decide) 1 _) hh1 (by decide) 2 _⟩, ⟨blk_far (blk_far HK28.out HN25.out _) HN25.out _⟩, ⟨blk_far (blk_far HK48.out HN45.out _) HN45.out _⟩, ⟨by simpa using hh2⟩, ⟨Below.setCell (Below.setCell HB8.out HL5.out _) HL5.out _⟩⟩
                | false =>
                  go_wp2_with fail
                  have H1 := H1'.out
                  simp only [Bool.false_eq_true, if_false] at H1
                  rw [wrapn (x8 + 1) (by omega) (by omega)] at H1
                  go_roundg k2
                  case measure => omega
                  case rel => exact ⟨x8 + 1, kd, tx, rfl, ⟨H1⟩, HO8, HK28, HK48, HK58, HB8⟩
            · rw [if_neg c1] at H1
              have d1 : decide (x8 < 4) = false := decide_eq_false c1
              have n25 := HN25.out
              have n52 := Ne.symm n25
              have n24 := HN.out
              have n42 := Ne.symm n24
              have n45 := HN45.out
              have n54 := Ne.symm n45
              by_cases c2 : kd = 0
              · subst c2
                rw [if_pos rfl] at H1
                simp only [Option.some.injEq, Prod.mk.injEq] at H1
                obtain ⟨rfl, rfl, rfl, rfl, rfl⟩ := H1
                have z0 := blk_cell HK2.out 0
                have z1 := blk_cell HK2.out 1
                have z2 := blk_cell HK2.out 2
                have z3 := blk_cell HK2.out 3
                simp only [List.getElem?_toArray, List.getElem?_cons_zero, List.getElem?_cons_succ] at z0 z1 z2 z3
                have x0 := blk_frozen HK2.out 0
                have x1 := blk_frozen HK2.out 1
                have x2 := blk_frozen HK2.out 2
                have x3 := blk_frozen HK2.out 3
                have y0 := blk_cell HK4.out 0
                have y1 := blk_cell HK4.out 1
                have y2 := blk_cell HK4.out 2
                have y3 := blk_cell HK4.out 3
                simp only [List.getElem?_toArray, List.getElem?_cons_zero, List.getElem?_cons_succ] at y0 y1 y2 y3
                have v0 := blk_frozen HK4.out 0
                have v1 := blk_frozen HK4.out 1
                have v2 := blk_frozen HK4.out 2
                have v3 := blk_frozen HK4.out 3
                have s0 := blk_cell HK5.out 0
                have s1 := blk_cell HK5.out 1
                have s2 := blk_cell HK5.out 2
                have s3 := blk_cell HK5.out 3
                simp only [List.getElem?_toArray, List.getElem?_cons_zero, List.getElem?_cons_succ] at s0 s1 s2 s3
                have u_0 := blk_frozen HK5.out 0
                have u_1 := blk_frozen HK5.out 1
                have u_2 := blk_frozen HK5.out 2
                have u_3 := blk_frozen HK5.out 3
                go_wp2
                refine bodyPost_ret (results_ct rfl _ _ g2 46 _ (0, 0) _ rfl (box4 HK2.out _ _ _ _) Tryd.underlying46 rfl (by kernel_rfl)) rfl ?_
                exact ⟨rfl, box4_below HB.out HL2.out _ _ _ _⟩
              rw [if_neg c2] at H1
              have d2 : (kd == 0) = false := beq_eq_false_iff_ne.2 c2
              by_cases c3 : kd = 4
              case neg =>
                rw [if_neg c3] at H1
                have d3 : (kd != 4) = true := bne_iff_ne.2 c3
                simp only [Option.some.injEq, Prod.mk.injEq] at H1
                obtain ⟨rfl, rfl, rfl, rfl, rfl⟩ := H1
                have z0 := blk_cell HK2.out 0
                have z1 := blk_cell HK2.out 1
                have z2 := blk_cell HK2.out 2
                have z3 := blk_cell HK2.out 3
                simp only [List.getElem?_toArray, List.getElem?_cons_zero, List.getElem?_cons_succ] at z0 z1 z2 z3
                have x0 := blk_frozen HK2.out 0
                have x1 := blk_frozen HK2.out 1
                have x2 := blk_frozen HK2.out 2
                have x3 := blk_frozen HK2.out 3
                have s0 := blk_cell HK5.out 0
                have s1 := blk_cell HK5.out 1
                have s2 := blk_cell HK5.out 2
                have s3 := blk_cell HK5.out 3
                simp only [List.getElem?_toArray, List.getElem?_cons_zero, List.getElem?_cons_succ] at s0 s1 s2 s3
                have u_0 := blk_frozen HK5.out 0
                have u_1 := blk_frozen HK5.out 1
                have u_2 := blk_frozen HK5.out 2
                have u_3 := blk_frozen HK5.out 3
                go_wp2
                refine bodyPost_ret (results_ct rfl _ _ g2 46 _ (0, 0) _ rfl (box4 HK2.out _ _ _ _) Tryd.underlying46 rfl (by kernel_rfl)) rfl ?_
                exact ⟨rfl, box4_below HB.out HL2.out _ _ _ _⟩
              subst c3
              rw [if_pos rfl] at H1
              have H' := Aside0.mk H1
              clear H1
              have s0 := blk_cell HK5.out 0
              have s1 := blk_cell HK5.out 1
              have s2 := blk_cell HK5.out 2
              have s3 := blk_cell HK5.out 3
              simp only [List.getElem?_toArray, List.getElem?_cons_zero, List.getElem?_cons_succ] at s0 s1 s2 s3
              have u_0 := blk_frozen HK5.out 0
              have u_1 := blk_frozen HK5.out 1
              have u_2 := blk_frozen HK5.out 2
              have u_3 := blk_frozen HK5.out 3
              go_wp2
              clear s0 s1 s2 s3 u_0 u_1 u_2 u_3
              go_loopg [11] k2 (fun kq' v11 w' => ∃ (x11 rm : Int), v11 = .int .i64 x11 ∧ Aside0 (spec_l6Call.l1 kq' x11 0 0 (⟨#[]⟩ : ByteArray) 0 cl 4 tx rm = some (r1, r2, r3, r4, r5)) ∧ Aside0 (w'.heap[g2]? = some (.cells #[.int .i64 0, .int .i64 0, .string (⟨#[]⟩ : ByteArray), .int .i64 0] 46 (0, 0))) ∧ Aside0 (w'.heap[g4]? = some (.cells #[.int .i64 0, .int .i64 0, .string (⟨#[]⟩ : ByteArray), .int .i64 0] 46 (0, 0))) ∧ Aside0 (w'.heap[g5]? = some (.cells #[.int .i64 cl, .int .i64 4, .string tx, .int .i64 rm] 46 (0, 0))) ∧ Aside0 (Below w.heap.size w w'))
              case atStart => exact ⟨0, 0, rfl, H', HK2, HK4, HK5, HB⟩
              case round =>
                clear H' HK2 HK4 HK5 HB HO hlen d1 d2
                obtain ⟨x11, rm, rfl, HJ, HK2, HK4, HK5, HB⟩ := hrel
                cases gk with
                | zero => exact absurd HJ.out (by simp [spec_l6Call.l1])
                | succ k3 =>
                  have H1 := HJ.out
                  rw [spec_l6Call.l1] at H1
                  clear HJ
                  have HC := Aside0.mk H1
                  clear H1
                  go_upto_region 25 with (fail)
                  go_cut [86] (fun v86 wc => ∃ (kq : Nat) (b : Bool), v86 = .bool b ∧ Aside0 (spec_l6Call.j3 kq x11 b 0 0 (⟨#[]⟩ : ByteArray) 0 cl 4 tx rm = some (r1, r2, r3, r4, r5)) ∧ Aside0 (kq ≤ k3) ∧ Aside0 (wc.heap[g2]? = some (.cells #[.int .i64 0, .int .i64 0, .string (⟨#[]⟩ : ByteArray), .int .i64 0] 46 (0, 0))) ∧ Aside0 (wc.heap[g4]? = some (.cells #[.int .i64 0, .int .i64 0, .string (⟨#[]⟩ : ByteArray), .int .i64 0] 46 (0, 0))) ∧ Aside0 (wc.heap[g5]? = some (.cells #[.int .i64 cl, .int .i64 4, .string tx, .int .i64 rm] 46 (0, 0))) ∧ Aside0 (Below w.heap.size w wc))
                  case first =>
                    have H1 := HC.out
                    clear HC
                    by_cases c1 : x11 < (tx.size : Int)
                    · rw [if_pos c1] at H1
                      have d1 : decide (x11 < (tx.size : Int)) = true := decide_eq_true c1
                      by_cases c2 : 0 ≤ x11
                      case neg => rw [if_neg c2] at H1; exact absurd H1 (by simp)
                      rw [if_pos c2] at H1
                      obtain ⟨t120, A, H1⟩ := Option.bind_eq_some_iff.mp H1
                      have HA := Aside0.mk A
                      have H' := Aside0.mk H1
                      clear A H1
                      have p66 := eq_true c2
                      have q66 := eq_true c1
                      have hx66 := bt_at tx x11
                      clear c1 c2
                      have s0 := blk_cell HK5.out 0
                      have s1 := blk_cell HK5.out 1
                      have s2 := blk_cell HK5.out 2
                      have s3 := blk_cell HK5.out 3
                      simp only [List.getElem?_toArray, List.getElem?_cons_zero, List.getElem?_cons_succ] at s0 s1 s2 s3
                      have u_0 := blk_frozen HK5.out 0
                      have u_1 := blk_frozen HK5.out 1
                      have u_2 := blk_frozen HK5.out 2
                      have u_3 := blk_frozen HK5.out 3
                      go_wp2_with fail
                      refine (spec_l1Digit.calls (bt tx x11) t120 _ HA.out).mono ?_
                      rintro e w' ⟨rfl, ⟨nd, rfl⟩⟩
                      go_wp2_with fail
                      go_meet
                      case rel => exact ⟨_, t120, rfl, H', ⟨Nat.le_refl _⟩, ⟨blk_drewN HK2.out nd⟩, ⟨blk_drewN HK4.out nd⟩, ⟨blk_drewN HK5.out nd⟩, ⟨pw_below_drewN HB.out nd⟩⟩
                    · rw [if_neg c1] at H1
                      have d1 : decide (x11 < (tx.size : Int)) = false := decide_eq_false c1
                      have H' := Aside0.mk H1
                      clear H1 c1
                      have s0 := blk_cell HK5.out 0
                      have s1 := blk_cell HK5.out 1
                      have s2 := blk_cell HK5.out 2
                      have s3 := blk_cell HK5.out 3
                      simp only [List.getElem?_toArray, List.getElem?_cons_zero, List.getElem?_cons_succ] at s0 s1 s2 s3
                      have u_0 := blk_frozen HK5.out 0
                      have u_1 := blk_frozen HK5.out 1
                      have u_2 := blk_frozen HK5.out 2
                      have u_3 := blk_frozen HK5.out 3
                      go_wp2
                      go_meet
                      case rel => exact ⟨_, false, rfl, H', ⟨Nat.le_refl _⟩, HK2, HK4, HK5, HB⟩
                  case rest =>
                    clear HC HK2 HK4 HK5 HB
                    obtain ⟨kq, b, rfl, HJ, HKQ, HK2, HK4, HK5, HB⟩ := hcut
                    cases kq with
                    | zero => exact absurd HJ.out (by simp [spec_l6Call.j3])
                    | succ k4 =>
                      have H1 := HJ.out
                      rw [spec_l6Call.j3] at H1
                      clear HJ
                      have n25 := HN25.out
                      have n52 := Ne.symm n25
                      have n24 := HN.out
                      have n42 := Ne.symm n24
                      have n45 := HN45.out
                      have n54 := Ne.symm n45
                      cases b with
                      | true =>
                        rw [if_pos rfl] at H1
                        by_cases c2 : 0 ≤ x11
                        case neg => rw [if_neg c2] at H1; exact absurd H1 (by simp)
                        rw [if_pos c2] at H1
                        by_cases c1 : x11 < (tx.size : Int)
                        case neg => rw [if_neg c1] at H1; exact absurd H1 (by simp)
                        rw [if_pos c1] at H1
                        have p66 := eq_true c2
                        have q66 := eq_true c1
                        have hx66 := bt_at tx x11
                        have s0 := blk_cell HK5.out 0
                        have s1 := blk_cell HK5.out 1
                        have s2 := blk_cell HK5.out 2
                        have s3 := blk_cell HK5.out 3
                        simp only [List.getElem?_toArray, List.getElem?_cons_zero, List.getElem?_cons_succ] at s0 s1 s2 s3
                        have u_0 := blk_frozen HK5.out 0
                        have u_1 := blk_frozen HK5.out 1
                        have u_2 := blk_frozen HK5.out 2
                        have u_3 := blk_frozen HK5.out 3
                        skip
                        skip
                        go_upto_region 26 with (fail)
                        go_still_tail 11, (by kernel_rfl)
                        change wpList _ _ _ _ _ wc.drew
                        have HK28 := Aside0.mk (blk_drew HK2.out)
                        have HK48 := Aside0.mk (blk_drew HK4.out)
                        have HK58 := Aside0.mk (blk_drew HK5.out)
                        have HB8 := Aside0.mk (below_drew HB.out)
                        clear HK2 HK4 HK5 HB s0 s1 s2 s3 u_0 u_1 u_2 u_3
                        generalize wc.drew = w8 at HK28 HK48 HK58 HB8 ⊢
                        have s0 := blk_cell HK58.out 0
                        have s1 := blk_cell HK58.out 1
                        have s2 := blk_cell HK58.out 2
                        have s3 := blk_cell HK58.out 3
                        simp only [List.getElem?_toArray, List.getElem?_cons_zero, List.getElem?_cons_succ] at s0 s1 s2 s3
                        have u_0 := blk_frozen HK58.out 0
                        have u_1 := blk_frozen HK58.out 1
                        have u_2 := blk_frozen HK58.out 2
                        have u_3 := blk_frozen HK58.out 3
                        go_upto_region 27 with (fail)
                        have ew : wrap64 ((bt tx x11 - 48) % 256) = (bt tx x11 - 48) % 256 := wrapn _ (by omega) (by omega)
                        rw [ew]
                        clear ew
                        have hh := blk_set HK58.out 3 (.int .i64 (wrap64 (wrap64 (rm * 10) + (bt tx x11 - 48) % 256)))
                        have HK59 := Aside0.mk (show (w8.setCell ⟨g5, 3, none⟩ (.int .i64 (wrap64 (wrap64 (rm * 10) + (bt tx x11 - 48) % 256)))).heap[g5]? = some (.cells #[.int .i64 cl, .int .i64 4, .string tx, .int .i64 (wrap64 (wrap64 (rm * 10) + (bt tx x11 - 48) % 256))] 46 (0, 0)) from by simpa using hh)
                        have HK2 := Aside0.mk (blk_far HK28.out (p := ⟨g5, 3, none⟩) HN25.out (.int .i64 (wrap64 (wrap64 (rm * 10) + (bt tx x11 - 48) % 256))))
                        have HK4 := Aside0.mk (blk_far HK48.out (p := ⟨g5, 3, none⟩) HN45.out (.int .i64 (wrap64 (wrap64 (rm * 10) + (bt tx x11 - 48) % 256))))
                        have HB := Aside0.mk (Below.setCell HB8.out (p := ⟨g5, 3, none⟩) HL5.out (.int .i64 (wrap64 (wrap64 (rm * 10) + (bt tx x11 - 48) % 256))))
                        have H1' := Aside0.mk H1
                        clear H1 HK28 HK48 HK58 HB8 hh s0 s1 s2 s3 u_0 u_1 u_2 u_3 hx66
                        generalize wrap64 (wrap64 (rm * 10) + (bt tx x11 - 48) % 256) = rm2 at HK59 HK2 HK4 HB H1' ⊢
                        generalize w8.setCell ⟨g5, 3, none⟩ (.int .i64 rm2) = w9 at HK59 HK2 HK4 HB ⊢
                        have H1 := H1'.out
                        clear H1'
                        have e1 : wrap64 (x11 + 1) = wrap64 (x11 + 1) := rfl
                        by_cases c3 : wrap64 (x11 + 1) > 3
                        · rw [if_pos c3] at H1
                          have d3 : decide (3 < wrap64 (x11 + 1)) = true := decide_eq_true c3
                          simp only [Option.some.injEq, Prod.mk.injEq] at H1
                          obtain ⟨rfl, rfl, rfl, rfl, rfl⟩ := H1
                          have z0 := blk_cell HK2.out 0
                          have z1 := blk_cell HK2.out 1
                          have z2 := blk_cell HK2.out 2
                          have z3 := blk_cell HK2.out 3
                          simp only [List.getElem?_toArray, List.getElem?_cons_zero, List.getElem?_cons_succ] at z0 z1 z2 z3
                          have x0 := blk_frozen HK2.out 0
                          have x1 := blk_frozen HK2.out 1
                          have x2 := blk_frozen HK2.out 2
                          have x3 := blk_frozen HK2.out 3
                          have y0 := blk_cell HK4.out 0
                          have y1 := blk_cell HK4.out 1
                          have y2 := blk_cell HK4.out 2
                          have y3 := blk_cell HK4.out 3
                          simp only [List.getElem?_toArray, List.getElem?_cons_zero, List.getElem?_cons_succ] at y0 y1 y2 y3
                          have v0 := blk_frozen HK4.out 0
                          have v1 := blk_frozen HK4.out 1
                          have v2 := blk_frozen HK4.out 2
                          have v3 := blk_frozen HK4.out 3
                          go_wp2
                          refine bodyPost_ret (results_ct rfl _ _ g2 46 _ (0, 0) _ rfl (box4 HK2.out _ _ _ _) Tryd.underlying46 rfl (by kernel_rfl)) rfl ?_
                          exact ⟨rfl, box4_below HB.out HL2.out _ _ _ _⟩
                        · rw [if_neg c3] at H1
                          have d3 : decide (3 < wrap64 (x11 + 1)) = false := decide_eq_false c3
                          go_wp2
                          go_roundg k4
                          case measure => have := HKQ.out; omega
                          case rel => exact ⟨wrap64 (x11 + 1), rm2, rfl, ⟨H1⟩, HK2, HK4, HK59, HB⟩
                      | false =>
                        rw [if_neg (by simp)] at H1
                        by_cases c1 : x11 = 0
                        · subst c1
                          rw [if_pos rfl] at H1
                          simp only [Option.some.injEq, Prod.mk.injEq] at H1
                          obtain ⟨rfl, rfl, rfl, rfl, rfl⟩ := H1
                          have z0 := blk_cell HK2.out 0
                          have z1 := blk_cell HK2.out 1
                          have z2 := blk_cell HK2.out 2
                          have z3 := blk_cell HK2.out 3
                          simp only [List.getElem?_toArray, List.getElem?_cons_zero, List.getElem?_cons_succ] at z0 z1 z2 z3
                          have x0 := blk_frozen HK2.out 0
                          have x1 := blk_frozen HK2.out 1
                          have x2 := blk_frozen HK2.out 2
                          have x3 := blk_frozen HK2.out 3
                          have y0 := blk_cell HK4.out 0
                          have y1 := blk_cell HK4.out 1
                          have y2 := blk_cell HK4.out 2
                          have y3 := blk_cell HK4.out 3
                          simp only [List.getElem?_toArray, List.getElem?_cons_zero, List.getElem?_cons_succ] at y0 y1 y2 y3
                          have v0 := blk_frozen HK4.out 0
                          have v1 := blk_frozen HK4.out 1
                          have v2 := blk_frozen HK4.out 2
                          have v3 := blk_frozen HK4.out 3
                          have s0 := blk_cell HK5.out 0
                          have s1 := blk_cell HK5.out 1
                          have s2 := blk_cell HK5.out 2
                          have s3 := blk_cell HK5.out 3
                          simp only [List.getElem?_toArray, List.getElem?_cons_zero, List.getElem?_cons_succ] at s0 s1 s2 s3
                          have u_0 := blk_frozen HK5.out 0
                          have u_1 := blk_frozen HK5.out 1
                          have u_2 := blk_frozen HK5.out 2
                          have u_3 := blk_frozen HK5.out 3
                          go_wp2
                          refine bodyPost_ret (results_ct rfl _ _ g2 46 _ (0, 0) _ rfl (box4 HK2.out _ _ _ _) Tryd.underlying46 rfl (by kernel_rfl)) rfl ?_
                          exact ⟨rfl, box4_below HB.out HL2.out _ _ _ _⟩
                        rw [if_neg c1] at H1
                        have d1 : (x11 == 0) = false := beq_eq_false_iff_ne.2 c1
                        obtain ⟨t121, A, H1⟩ := Option.bind_eq_some_iff.mp H1
                        have HA := Aside0.mk A
                        have H1' := Aside0.mk H1
                        clear H1 A
                        have z0 := blk_cell HK2.out 0
                        have z1 := blk_cell HK2.out 1
                        have z2 := blk_cell HK2.out 2
                        have z3 := blk_cell HK2.out 3
                        simp only [List.getElem?_toArray, List.getElem?_cons_zero, List.getElem?_cons_succ] at z0 z1 z2 z3
                        have x0 := blk_frozen HK2.out 0
                        have x1 := blk_frozen HK2.out 1
                        have x2 := blk_frozen HK2.out 2
                        have x3 := blk_frozen HK2.out 3
                        have y0 := blk_cell HK4.out 0
                        have y1 := blk_cell HK4.out 1
                        have y2 := blk_cell HK4.out 2
                        have y3 := blk_cell HK4.out 3
                        simp only [List.getElem?_toArray, List.getElem?_cons_zero, List.getElem?_cons_succ] at y0 y1 y2 y3
                        have v0 := blk_frozen HK4.out 0
                        have v1 := blk_frozen HK4.out 1
                        have v2 := blk_frozen HK4.out 2
                        have v3 := blk_frozen HK4.out 3
                        have s0 := blk_cell HK5.out 0
                        have s1 := blk_cell HK5.out 1
                        have s2 := blk_cell HK5.out 2
                        have s3 := blk_cell HK5.out 3
                        simp only [List.getElem?_toArray, List.getElem?_cons_zero, List.getElem?_cons_succ] at s0 s1 s2 s3
                        have u_0 := blk_frozen HK5.out 0
                        have u_1 := blk_frozen HK5.out 1
                        have u_2 := blk_frozen HK5.out 2
                        have u_3 := blk_frozen HK5.out 3
                        go_wp2_with fail
                        refine (spec_l1At.calls tx x11 32 t121 _ HA.out).mono ?_
                        rintro e w' ⟨rfl, ⟨nd, rfl⟩⟩
                        have HK28 := Aside0.mk (blk_drewN HK2.out nd)
                        have HK48 := Aside0.mk (blk_drewN HK4.out nd)
                        have HK58 := Aside0.mk (blk_drewN HK5.out nd)
                        have HB8 := Aside0.mk (pw_below_drewN HB.out nd)
                        clear HK2 HK4 HK5 HB s0 s1 s2 s3 u_0 u_1 u_2 u_3 z0 z1 z2 z3 x0 x1 x2 x3 y0 y1 y2 y3 v0 v1 v2 v3
                        generalize wc.drewN nd = w8 at HK28 HK48 HK58 HB8 ⊢
                        have z0 := blk_cell HK28.out 0
                        have z1 := blk_cell HK28.out 1
                        have z2 := blk_cell HK28.out 2
                        have z3 := blk_cell HK28.out 3
                        simp only [List.getElem?_toArray, List.getElem?_cons_zero, List.getElem?_cons_succ] at z0 z1 z2 z3
                        have x0 := blk_frozen HK28.out 0
                        have x1 := blk_frozen HK28.out 1
                        have x2 := blk_frozen HK28.out 2
                        have x3 := blk_frozen HK28.out 3
                        have y0 := blk_cell HK48.out 0
                        have y1 := blk_cell HK48.out 1
                        have y2 := blk_cell HK48.out 2
                        have y3 := blk_cell HK48.out 3
                        simp only [List.getElem?_toArray, List.getElem?_cons_zero, List.getElem?_cons_succ] at y0 y1 y2 y3
                        have v0 := blk_frozen HK48.out 0
                        have v1 := blk_frozen HK48.out 1
                        have v2 := blk_frozen HK48.out 2
                        have v3 := blk_frozen HK48.out 3
                        have s0 := blk_cell HK58.out 0
                        have s1 := blk_cell HK58.out 1
                        have s2 := blk_cell HK58.out 2
                        have s3 := blk_cell HK58.out 3
                        simp only [List.getElem?_toArray, List.getElem?_cons_zero, List.getElem?_cons_succ] at s0 s1 s2 s3
                        have u_0 := blk_frozen HK58.out 0
                        have u_1 := blk_frozen HK58.out 1
                        have u_2 := blk_frozen HK58.out 2
                        have u_3 := blk_frozen HK58.out 3
                        cases t121 with
                        | false =>
                          have H1 := H1'.out
                          simp only [Bool.false_eq_true, if_false] at H1
                          simp only [Option.some.injEq, Prod.mk.injEq] at H1
                          obtain ⟨rfl, rfl, rfl, rfl, rfl⟩ := H1
                          go_wp2
                          refine bodyPost_ret (results_ct rfl _ _ g2 46 _ (0, 0) _ rfl (box4 HK28.out _ _ _ _) Tryd.underlying46 rfl (by kernel_rfl)) rfl ?_
                          exact ⟨rfl, box4_below HB8.out HL2.out _ _ _ _⟩
                        | true =>
                          have H1 := H1'.out
                          simp only [if_true] at H1
                          by_cases c2 : 0 ≤ wrap64 (x11 + 1)
                          case neg => rw [if_neg c2] at H1; exact absurd H1 (by simp)
                          rw [if_pos c2] at H1
                          by_cases c3 : wrap64 (x11 + 1) ≤ (tx.size : Int)
                          case neg => rw [if_neg c3] at H1; exact absurd H1 (by simp)
                          rw [if_pos c3] at H1
                          simp only [Option.some.injEq, Prod.mk.injEq] at H1
                          obtain ⟨rfl, rfl, rfl, rfl, rfl⟩ := H1
                          have p1 := eq_true c2
                          have p2 := eq_true c3
                          clear c2 c3
                          go_upto_region 33 with (fail)
                          have hh := blk_set HK58.out 2 (.string (tx.extract (wrap64 (x11 + 1)).toNat tx.size))
                          have HK2 := Aside0.mk (blk_far HK28.out (p := ⟨g5, 2, none⟩) HN25.out (.string (tx.extract (wrap64 (x11 + 1)).toNat tx.size)))
                          have HK5 := Aside0.mk (show (w8.setCell ⟨g5, 2, none⟩ (.string (tx.extract (wrap64 (x11 + 1)).toNat tx.size))).heap[g5]? = some (.cells #[.int .i64 cl, .int .i64 4, .string (tx.extract (wrap64 (x11 + 1)).toNat tx.size), .int .i64 rm] 46 (0, 0)) from by simpa using hh)
                          have HB := Aside0.mk (Below.setCell HB8.out (p := ⟨g5, 2, none⟩) HL5.out (.string (tx.extract (wrap64 (x11 + 1)).toNat tx.size)))
                          clear H1 H1' hh HK28 HK48 HK58 HB8 z0 z1 z2 z3 x0 x1 x2 x3 y0 y1 y2 y3 v0 v1 v2 v3 s0 s1 s2 s3 u_0 u_1 u_2 u_3
                          generalize htx : tx.extract (wrap64 (x11 + 1)).toNat tx.size = tx2 at HK2 HK5 HB ⊢
                          have HTX := Aside0.mk htx
                          clear htx
                          generalize w8.setCell ⟨g5, 2, none⟩ (.string tx2) = w9 at HK2 HK5 HB ⊢
                          have z0 := blk_cell HK2.out 0
                          have z1 := blk_cell HK2.out 1
                          have z2 := blk_cell HK2.out 2
                          have z3 := blk_cell HK2.out 3
                          simp only [List.getElem?_toArray, List.getElem?_cons_zero, List.getElem?_cons_succ] at z0 z1 z2 z3
                          have x0 := blk_frozen HK2.out 0
                          have x1 := blk_frozen HK2.out 1
                          have x2 := blk_frozen HK2.out 2
                          have x3 := blk_frozen HK2.out 3
                          have s0 := blk_cell HK5.out 0
                          have s1 := blk_cell HK5.out 1
                          have s2 := blk_cell HK5.out 2
                          have s3 := blk_cell HK5.out 3
                          simp only [List.getElem?_toArray, List.getElem?_cons_zero, List.getElem?_cons_succ] at s0 s1 s2 s3
                          have u_0 := blk_frozen HK5.out 0
                          have u_1 := blk_frozen HK5.out 1
                          have u_2 := blk_frozen HK5.out 2
                          have u_3 := blk_frozen HK5.out 3
                          go_wp2
                          refine bodyPost_ret (results_ct rfl _ _ g2 46 _ (0, 0) _ rfl (box4 HK2.out _ _ _ _) Tryd.underlying46 rfl (by kernel_rfl)) rfl ?_
                          exact ⟨by rw [HTX.out]; rfl, box4_below HB.out HL2.out _ _ _ _⟩
end Go.Proofs.YtfadnchkododdaaDoor.Ps
