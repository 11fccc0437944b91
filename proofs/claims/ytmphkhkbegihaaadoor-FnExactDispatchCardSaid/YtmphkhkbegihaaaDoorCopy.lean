/- The hub's copy: contracts by hand of slices.Clone, messageCopy, hubCopy. -/
import Derived.Test.YtmphkhkbegihaaaDoorTo
import Derived.Lib.SliceRun
import Derived.Deep.RegionLaw
namespace Go.Proofs.YtmphkhkbegihaaaDoor.Copy
open Go Go.RowKit Go.Proofs.YtmphkhkbegihaaaDoor.PHub Go.Proofs.YtmphkhkbegihaaaDoorW.PrintWords Go.Proofs.YtmphkhkbegihaaaDoor.Tree Go.Proofs.YtmphkhkbegihaaaDoor.Mark Go.Proofs.YtmphkhkbegihaaaDoor.To
set_option linter.unusedVariables false
set_option linter.unusedSimpArgs false

set_option maxRecDepth 100000 in
set_option maxHeartbeats 2000000 in
theorem clone_str (l0 : List ByteArray) (A : Option Addr) (c : Nat) (w0 w : World) (hr : Kd.C Kd.string w0 A l0.length l0) (hc : l0.length ≤ c) (hw : Below w0.heap.size w0 w) (hs : l0.length ≤ 4194304) :
    Calls Tryd.prog 80 #[.slice A l0.length c] w fun e w' => ∃ v, e = .returned v ∧ Kd.R Kd.string 9 w' w.heap.size (fun _ => True) v l0 ∧ Below w.heap.size w w' := by
  have HR := Lib.hid (Kd.C_below hr hw)
  clear hr hw
  cases A with
  | none =>
    have hl : l0.length = 0 := by
      rcases Nat.eq_zero_or_pos l0.length with h | h
      · exact h
      · obtain ⟨ad, h1, _⟩ := HR.out.2.2 h
        cases h1
    have hl2 : l0 = [] := List.eq_nil_of_length_eq_zero hl
    subst hl2
    have he : ∀ w : World, (binOp .eql 22 (.slice none 0 c) (.slice none 0 0)).run Tryd.prog w = .ok (.bool true) w := fun w => Lib.run_eql_slice_nil w _ 9 none _ _ _ _ Tryd.underlying22
    go_enter Tryd.func80, Tryd.ntmps80
    go_wp2
    go_ret
    exact ⟨_, rfl, Kd.R_nil _ _ _ _ _, Below.refl _ _⟩
  | some ad =>
    have he : ∀ w : World, (binOp .eql 22 (.slice (some ad) l0.length c) (.slice none 0 0)).run Tryd.prog w = .ok (.bool false) w := fun w => Lib.run_eql_slice_nil w _ 9 (some ad) _ _ _ _ Tryd.underlying22
    go_enter Tryd.func80, Tryd.ntmps80
    go_wp2_with (first | ((with_reducible refine gate_dst (N := 5) rfl ?_); refine Kd.R_lit Kd.string _ 9 ?hg (N := 5) ?hd (xs := ([] : List ByteArray)) (inner := []) (ok := fun _ => True) (okp := fun _ => True) ?hr ?hp (fun _ hk => hk) trivial (Below.refl _ _) (Nat.le_refl _) (by simp) ?_; (case hd => rfl); (case hg => rfl); (case hr => first | (go_simp; done) | (go_simp; rfl)); (case hp => exact (Reps.none _ _)); intro v w1 ho hb hg_ hnew_; clear hg_ hnew_; have HO := Lib.hid ho; have HB := Lib.hid hb; clear hb ho) | ((with_reducible refine gate_builtin (b := .append) (xs := #[.tmp 5, .tmp 6]) rfl ?_); at_builtin; refine Kd.R_append_rows Kd.string (w0 := w) w.heap.size rfl (.tmp 5) (.tmp 6) 22 9 (.string ⟨#[]⟩) 16 rfl Tryd.underlying22 info9 rfl (by decide) (by omega) v [] l0 _ _ _ (fun _ => True) (fun _ => False) rfl rfl HO.out (Kd.C_below HR.out HB.out) (fun _ _ h => h) (fun _ h => h.elim) (fun _ _ => trivial) HB.out HB.out.size (by simp; omega) ?_; intro v1 w2 ho hb hg hat; have HO1 := Lib.hid ho; have HB1 := Lib.hid hb; clear HB HO ho hb hg hat))
    go_ret
    exact ⟨_, rfl, HO1.out, HB1.out⟩

/-! ### messageCopy -/
set_option maxRecDepth 100000 in
set_option maxHeartbeats 2000000 in
theorem msg_copy (x : S112) (A1 : Option Addr) (c1 : Nat) (w0 w : World) (hr1 : Kd.C Kd.string w0 A1 x.f1.length x.f1) (hc1 : x.f1.length ≤ c1) (hw : Below w0.heap.size w0 w) (hs : x.f1.length ≤ 4194304) :
    Calls Tryd.prog 79 #[.agg #[.int .i64 x.f0, .slice A1 x.f1.length c1, .bool x.f2]] w fun e w' => ∃ v1, e = .returned (.agg #[.int .i64 x.f0, v1, .bool x.f2]) ∧ Kd.R Kd.string 9 w' w.heap.size (fun _ => True) v1 x.f1 ∧ Below w.heap.size w w' := by
  have HR1 := Lib.hid (Kd.C_below hr1 hw)
  have HC1 := Lib.hid hc1
  have HS := Lib.hid hs
  clear hr1 hw hc1 hs
  go_enter Tryd.func79, Tryd.ntmps79
  go_wp2_with fail
  refine (clone_str x.f1 A1 c1 w _ HR1.out HC1.out ?side HS.out).mono ?_
  case side => repeat (first | exact Below.refl _ _ | apply below_alloc)
  rintro e w1 ⟨v1, rfl, hT, hb⟩
  obtain ⟨A9, c9, rfl⟩ := Kd.R_slice hT
  have HT := Lib.hid (Kd.R_bound hT)
  have HB := Lib.hid hb
  obtain ⟨hc, hf⟩ := bcell hb
  have hx1 : w1.cell? ⟨w.heap.size, 1, none⟩ = some (.slice A1 x.f1.length c1) := (hc _ _ (by simp; omega)).trans (blk_cell (blk_alloc (heap_alloc_new w _) _) 1)
  clear hT hb
  go_wp2_with fail
  have HB2 : Below w.heap.size w w1 := below_then (by repeat (first | exact Below.refl _ _ | apply below_alloc)) (by simp <;> omega) HB.out
  have HT2 := Kd.R_mono (Kd.R_lower HT.out (base' := w.heap.size) (by simp <;> omega)) (ok' := fun k => w.heap.size + 2 ≤ k) (fun k hk => by have := hk.2.1; simp at this; omega)
  refine bodyPost_ret (v := .agg #[.int .i64 x.f0, .slice A9 x.f1.length c9, .bool x.f2]) (by simp [results, Tryd.results79, go_sem, hc]) rfl ⟨_, rfl, ?_, ?_⟩
  · refine Kd.R_mono (ok := fun k => w.heap.size + 2 ≤ k) ?_ (fun k hk => trivial)
    repeat (first | with_reducible exact HT2 | with_reducible refine Kd.R_far ?_ (fun k hk => by simp; omega) _)
  · repeat (first | with_reducible exact HB2 | with_reducible refine Below.setCell ?_ (by simp <;> omega) _)

/-! ### hubCopy -/
/-- A watch whose queue may be appended to. -/
def ms76 : Kd S76 := Kd.iso (Kd.pair (Kd.int .i64) (Kd.pair Kd.string (Kd.pair (Kd.int .i64) (Kd.pair (Kd.int .i64) (Kd.pair Kd.bool (ssl 112 k112)))))) (fun x : S76 => (x.f0, x.f1, x.f2, x.f3, x.f4, x.f5))
theorem ms76_open {w : World} {base : Nat} {ok : Nat → Prop} {x : S76} {cs : List Value} (h : ms76.M w base ok x cs) : ∃ v5, cs = [.int .i64 x.f0, .string x.f1, .int .i64 x.f2, .int .i64 x.f3, .bool x.f4, v5] ∧ Kd.S k112 112 w base ok v5 x.f5 := by
  obtain ⟨c0, d0, rfl, h0, c1, d1, rfl, h1, c2, d2, rfl, h2, c3, d3, rfl, h3, c4, d4, rfl, h4, h5⟩ := h
  cases h0; cases h1; cases h2; cases h3; cases h4
  obtain ⟨v5, rfl, h5⟩ := h5
  exact ⟨v5, rfl, h5⟩
theorem ms76_mk {w : World} {base : Nat} {ok : Nat → Prop} (x : S76) {v5 : Value} (h5 : Kd.S k112 112 w base ok v5 x.f5) : ms76.M w base ok x [.int .i64 x.f0, .string x.f1, .int .i64 x.f2, .int .i64 x.f3, .bool x.f4, v5] :=
  ⟨[.int .i64 x.f0], [.string x.f1, .int .i64 x.f2, .int .i64 x.f3, .bool x.f4, v5], rfl, rfl, ⟨[.string x.f1], [.int .i64 x.f2, .int .i64 x.f3, .bool x.f4, v5], rfl, rfl, ⟨[.int .i64 x.f2], [.int .i64 x.f3, .bool x.f4, v5], rfl, rfl, ⟨[.int .i64 x.f3], [.bool x.f4, v5], rfl, rfl, ⟨[.bool x.f4], [v5], rfl, rfl, ⟨v5, rfl, h5⟩⟩⟩⟩⟩⟩

def fitMsgS (l : List S112) : Prop := l.length ≤ 4194304 ∧ ∀ x ∈ l, x.f1.length ≤ 4194304
def fitWatS (l : List S76) : Prop := l.length ≤ 4194304 ∧ ∀ x ∈ l, fitMsgS x.f5
def fitNewS (l : List S87) : Prop := l.length ≤ 4194304 ∧ ∀ x ∈ l, x.f1.length ≤ 4194304

theorem S_now {α : Type} {d : Kd α} {e : Nat} {w : World} {base : Nat} {ok : Nat → Prop} {v : Value} {xs : List α} (h : Kd.S d e w base ok v xs) : Kd.S d e w base (fun k => ok k ∧ base ≤ k ∧ k < w.heap.size) v xs :=
  Kd.S_mono (Kd.S_bound h) (fun k hk => ⟨hk.1, hk.2.1, hk.2.2.1⟩)

set_option maxRecDepth 100000 in
set_option maxHeartbeats 8000000 in
theorem hub_copy (ws : List S76) (ns : List S87) (A0 A1 : Option Addr) (c0 c1 : Nat) (w0 w : World) (hr0 : Kd.C k76 w0 A0 ws.length ws) (hc0 : ws.length ≤ c0) (hr1 : Kd.C k87 w0 A1 ns.length ns) (hc1 : ns.length ≤ c1) (hw : Below w0.heap.size w0 w) (hfw : fitWatS ws) (hfn : fitNewS ns) :
    Calls Tryd.prog 53 #[.agg #[.slice A0 ws.length c0, .slice A1 ns.length c1]] w fun e w' => ∃ v0 v1 m, e = .returned (.agg #[v0, v1]) ∧ Kd.S ms76 76 w' w.heap.size (fun k => w.heap.size ≤ k ∧ k < m) v0 ws ∧ Kd.S k87 87 w' w.heap.size (fun k => m ≤ k) v1 ns ∧ Below w.heap.size w w' ∧ w.heap.size ≤ m ∧ m ≤ w'.heap.size := by
  have HR0 := Lib.hid (Kd.C_below hr0 hw)
  have HR1 := Lib.hid (Kd.C_below hr1 hw)
  have HC0 := Lib.hid hc0
  have HC1 := Lib.hid hc1
  have HFW := Lib.hid hfw
  have HFN := Lib.hid hfn
  clear hr0 hr1 hw hc0 hc1 hfw hfn
  go_enter Tryd.func53, Tryd.ntmps53
  go_wp2_with fail
  have HG1 := Lib.hid (show (((w.alloc (.cells #[.slice A0 ws.length c0, .slice A1 ns.length c1] 44)).alloc (.cells #[.slice none 0 0, .slice none 0 0] 44)).alloc (.cells #[.slice none 0 0, .slice none 0 0] 44)).heap[w.heap.size]? = some (.cells #[.slice A0 ws.length c0, .slice A1 ns.length c1] 44 (0, 0)) from blk_alloc (blk_alloc (heap_alloc_new w _) _) _)
  have HG2 := Lib.hid (show (((w.alloc (.cells #[.slice A0 ws.length c0, .slice A1 ns.length c1] 44)).alloc (.cells #[.slice none 0 0, .slice none 0 0] 44)).alloc (.cells #[.slice none 0 0, .slice none 0 0] 44)).heap[w.heap.size + 1]? = some (.cells #[.slice none 0 0, .slice none 0 0] 44 (0, 0)) from blk_alloc (by have := heap_alloc_new (w.alloc (.cells #[.slice A0 ws.length c0, .slice A1 ns.length c1] 44)) (.cells #[.slice none 0 0, .slice none 0 0] 44); rwa [World.size_alloc] at this) _)
  have HG3 := Lib.hid (show (((w.alloc (.cells #[.slice A0 ws.length c0, .slice A1 ns.length c1] 44)).alloc (.cells #[.slice none 0 0, .slice none 0 0] 44)).alloc (.cells #[.slice none 0 0, .slice none 0 0] 44)).heap[w.heap.size + 2]? = some (.cells #[.slice none 0 0, .slice none 0 0] 44 (0, 0)) from by have := heap_alloc_new ((w.alloc (.cells #[.slice A0 ws.length c0, .slice A1 ns.length c1] 44)).alloc (.cells #[.slice none 0 0, .slice none 0 0] 44)) (.cells #[.slice none 0 0, .slice none 0 0] 44); rwa [World.size_alloc, World.size_alloc] at this)
  have HB := Lib.hid (show Below w.heap.size w (((w.alloc (.cells #[.slice A0 ws.length c0, .slice A1 ns.length c1] 44)).alloc (.cells #[.slice none 0 0, .slice none 0 0] 44)).alloc (.cells #[.slice none 0 0, .slice none 0 0] 44)) from below_alloc (below_alloc (below_alloc (Below.refl _ _) _) _) _)
  have hmx0 : ws.length ≤ 4194304 := HFW.out.1
  go_loopw [15] (fun v15 wr => ∃ (p q : List S76) (vW : Value), v15 = .int .i64 p.length ∧ Hid (ws = p ++ q) ∧ Hid (wr.heap[w.heap.size]? = some (.cells #[.slice A0 ws.length c0, .slice A1 ns.length c1] 44 (0, 0))) ∧ Hid (wr.heap[w.heap.size + 1]? = some (.cells #[.slice none 0 0, .slice none 0 0] 44 (0, 0))) ∧ Hid (wr.heap[w.heap.size + 2]? = some (.cells #[vW, .slice none 0 0] 44 (0, 0))) ∧ Hid (Kd.S ms76 76 wr w.heap.size (fun k => w.heap.size + 3 ≤ k ∧ k < wr.heap.size) vW p) ∧ Hid (Below w.heap.size w wr)) (fun v15 _ => ws.length - (intOf v15).toNat)
  case atStart => exact ⟨[], ws, _, rfl, Lib.hid rfl, HG1, HG2, HG3, Lib.hid (Kd.S_nil _ _ _ _ _), HB⟩
  case round =>
    clear HG1 HG2 HG3 HB
    obtain ⟨p, q, vW, rfl, HL, HG1, HG2, HG3, HSW, HB⟩ := hrel
    cases q with
    | nil =>
      have hl : p.length = ws.length := by rw [HL.out]; simp
      have hp : p = ws := by rw [HL.out]; simp
      have HP := Lib.hid hp
      have HL2 := Lib.hid hl
      clear hl hp
      obtain ⟨AW, cW, rfl⟩ := Kd.S_slice HSW.out
      rw [HP.out] at HSW
      rw [HL2.out] at HG3 ⊢
      have hk1 := blk_cell HG1.out 1
      simp only [List.getElem?_toArray, List.getElem?_cons_zero, List.getElem?_cons_succ] at hk1
      have hw3 : w.heap.size + 2 < wr.heap.size := blk_lt HG3.out
      obtain ⟨m, hm⟩ : ∃ m, m = wr.heap.size := ⟨_, rfl⟩
      have hmx1 : ns.length ≤ 4194304 := HFN.out.1
      obtain ⟨wo, rfl⟩ : ∃ wo : World, wo = wr := ⟨_, rfl⟩
      have hmw : w.heap.size + 2 < m := by omega
      rw [← hm] at HSW
      have HM := Lib.hid (Nat.le_of_eq hm)
      clear hm hw3
      go_wp2_with fail
      go_loopw [46] (fun v46 wr => ∃ (p q : List S87) (vN : Value), v46 = .int .i64 p.length ∧ Hid (ns = p ++ q) ∧ Hid (wr.heap[w.heap.size]? = some (.cells #[.slice A0 ws.length c0, .slice A1 ns.length c1] 44 (0, 0))) ∧ Hid (wr.heap[w.heap.size + 1]? = some (.cells #[.slice none 0 0, .slice none 0 0] 44 (0, 0))) ∧ Hid (wr.heap[w.heap.size + 2]? = some (.cells #[.slice AW ws.length cW, vN] 44 (0, 0))) ∧ Hid (Kd.S ms76 76 wr w.heap.size (fun k => w.heap.size + 3 ≤ k ∧ k < m) (.slice AW ws.length cW) ws) ∧ Hid (Kd.S k87 87 wr w.heap.size (fun k => m ≤ k ∧ k < wr.heap.size) vN p) ∧ Hid (Below w.heap.size w wr) ∧ Hid (m ≤ wr.heap.size)) (fun v46 _ => ns.length - (intOf v46).toNat)
      case atStart => exact ⟨[], ns, _, rfl, Lib.hid rfl, HG1, HG2, HG3, HSW, Lib.hid (Kd.S_nil _ _ _ _ _), HB, HM⟩
      case round =>
        clear HG1 HG2 HG3 HSW HB HM HL
        obtain ⟨p, q, vN, rfl, HL, HG1, HG2, HG3, HSW, HSN, HB, HM⟩ := hrel
        obtain ⟨AN, cN, rfl⟩ := Kd.S_slice HSN.out
        cases q with
        | nil =>
          have hl : p.length = ns.length := by rw [HL.out]; simp
          have hp : p = ns := by rw [HL.out]; simp
          have HP := Lib.hid hp
          have HL2 := Lib.hid hl
          clear hl hp
          rw [HP.out] at HSN
          rw [HL2.out] at HG3 ⊢
          have hz0 := blk_cell HG3.out 0
          have hz1 := blk_cell HG3.out 1
          have hy0 := blk_cell HG2.out 0
          have hy1 := blk_cell HG2.out 1
          have hf0 := blk_frozen HG2.out 0
          have hf1 := blk_frozen HG2.out 1
          simp only [List.getElem?_toArray, List.getElem?_cons_zero, List.getElem?_cons_succ] at hz0 hz1 hy0 hy1
          go_wp2_with fail
          refine bodyPost_ret (v := .agg #[.slice AW ws.length cW, .slice AN ns.length cN]) (by simp [results, Tryd.results53, go_sem, hy0, hy1]) rfl ⟨_, _, m, rfl, ?_, ?_, ?_, by omega, by rw [size_set, size_set]; exact HM.out⟩
          · refine Kd.S_mono (ok := fun k => w.heap.size + 3 ≤ k ∧ k < m) ?_ (fun k hk => by omega)
            exact Kd.S_far (Kd.S_far HSW.out (fun k hk => by show k ≠ w.heap.size + 1; omega) _) (fun k hk => by show k ≠ w.heap.size + 1; omega) _
          · refine Kd.S_mono (ok := fun k => m ≤ k ∧ k < wr.heap.size) ?_ (fun k hk => by omega)
            exact Kd.S_far (Kd.S_far HSN.out (fun k hk => by show k ≠ w.heap.size + 1; omega) _) (fun k hk => by show k ≠ w.heap.size + 1; omega) _
          · exact (HB.out.setCell (by show w.heap.size ≤ w.heap.size + 1; omega) _).setCell (by show w.heap.size ≤ w.heap.size + 1; omega) _
        | cons y q =>
          have hl : p.length < ns.length := by rw [HL.out]; simp
          have hfy : y.f1.length ≤ 4194304 := HFN.out.2 y (by rw [HL.out]; simp)
          have HFY := Lib.hid hfy
          clear hfy
          have hrd : rd_T87 ns (p.length : Int) = y := by rw [HL.out]; simp [rd_T87]
          obtain ⟨ad, A6, d6, had, hy0, hy1, hl6, hr6⟩ := at_T87 (Kd.C_below HR1.out HB.out) (p.length : Int) (by omega) (by omega)
          subst had
          rw [Int.toNat_natCast] at hy0 hy1
          rw [hrd] at hy0 hy1 hl6 hr6
          have HR6 := Lib.hid hr6
          have HL6 := Lib.hid hl6
          clear hr6 hl6 hrd
          go_wp2_with fail
          have hx5 : (wr.alloc (.cells #[.int .i64 y.f0, .slice A6 y.f1.length d6] 87)).cell? ⟨w.heap.size + 2, 1, none⟩ = some (.slice AN p.length cN) := blk_cell (blk_alloc HG3.out _) 1
          have hwz : m ≤ wr.heap.size := HM.out
          go_region_law (first | (go_simp; go_at_call 80; refine (clone_str y.f1 A6 d6 wr _ HR6.out HL6.out (by repeat (first | exact Below.refl _ _ | apply below_alloc | apply below_drew)) HFY.out).mono ?_; rintro e w3 ⟨v1, rfl, hR, hb⟩; obtain ⟨A9, c9, rfl⟩ := Kd.R_slice hR; have HB9 := Lib.hid (below_then (below_drew (below_alloc (Below.refl _ _) _)) (by simp) hb); have HG9 := Lib.hid (blk_below (show (wr.alloc (.cells #[.int .i64 y.f0, .slice A6 y.f1.length d6] 87)).drew.heap[wr.heap.size]? = some (.cells #[.int .i64 y.f0, .slice A6 y.f1.length d6] 87 (0, 0)) from heap_alloc_new wr _) hb); have HR9 := Lib.hid (Kd.R_mono (Kd.R_lower (Kd.R_bound hR) (base' := w.heap.size) (by simp; omega)) (ok' := fun k => wr.heap.size ≤ k ∧ k < w3.heap.size) (fun k hk => ⟨Nat.le_trans (by simp) hk.2.1, hk.2.2.1⟩)); have hx7 : w3.cell? ⟨w.heap.size + 2, 1, none⟩ = some (.slice AN p.length cN) := blk_cell (blk_below HG3.out HB9.out) 1; have hx8 : (w3.alloc (.cells #[.int .i64 y.f0, .slice A9 y.f1.length c9] 87)).cell? ⟨w.heap.size + 2, 1, none⟩ = some (.slice AN p.length cN) := blk_cell (blk_alloc (blk_below HG3.out HB9.out) _) 1; have hx10 : w3.cell? ⟨wr.heap.size, 0, none⟩ = some (.int .i64 y.f0) := blk_cell HG9.out 0; clear hR hb) | (refine Kd.S_append_step k87 (w0 := w3) (W := w3) w.heap.size (by simp [Region.wanted]) (.tmp 51) (.tmp 58) 42 87 (.agg #[.int .i64 0, .slice none 0 0]) 32 rfl Tryd.underlying42 info87 rfl (by decide) (by omega) (.slice AN p.length cN) p y [.int .i64 y.f0, .slice A9 y.f1.length c9] (fun k => m ≤ k) (fun k => wr.heap.size ≤ k ∧ k < w3.heap.size) rfl rfl (k87_mkM _ _ _ y HR9.out) (fun k hk => ⟨by omega, fun he => by have := Kd.S_lt HSN.out k he.symm; omega⟩) (fun k hk => by have := HB9.out.size; omega) (Kd.S_mono (Kd.S_below HSN.out HB9.out) (fun k hk => ⟨hk.1, fun h => by omega⟩)) (Below.refl _ _) (by have := HB9.out.size; omega) (by omega) ?_; intro v2 w4 hS hB4 hg hat; obtain ⟨A2, n2, rfl⟩ := Kd.S_slice hS; have HS4 := Lib.hid (S_now hS); have hne : ∀ k, k < m → some k ≠ (Value.slice AN p.length cN).ownBlock := (fun k hk he => by have h1 := HSN.out; obtain ⟨f, h0, _⟩ := h1; have := h0 k he.symm; omega); have HG14 := Lib.hid (blk_grown (blk_below HG1.out HB9.out) hg (hne _ (by omega))); have HG24 := Lib.hid (blk_grown (blk_below HG2.out HB9.out) hg (hne _ (by omega))); have HG34 := Lib.hid (blk_grown (blk_below HG3.out HB9.out) hg (hne _ (by omega))); have hx9 : w4.cell? ⟨w.heap.size + 2, 1, none⟩ = some (.slice AN p.length cN) := blk_cell HG34.out 1; have hf9 : w4.frozen? ⟨w.heap.size + 2, 1, none⟩ = false := blk_frozen HG34.out 1; have HZ4 := Lib.hid hg.size; have HSW4 := Lib.hid (Kd.S_grown (Kd.S_below HSW.out HB9.out) hg (fun k hk => hne k hk.2)); have HB4 := Lib.hid ((below_then HB.out HB.out.size HB9.out).grown hg (by have := HB9.out.size; omega) (fun k hk => by rcases Nat.lt_or_ge k m with h | h; exact absurd hk.symm (hne k h); omega)); clear hS hB4 hg hat hne))
          all_goals
            go_wp2_with fail
            go_roundw
            case rel =>
              have e : (p ++ [y]).length = p.length + 1 := by simp
              rw [e] at HS4
              refine ⟨p ++ [y], q, .slice A2 (p.length + 1) n2, by simp, Lib.hid (by rw [HL.out]; simp), Lib.hid (blk_far HG14.out (by show w.heap.size ≠ w.heap.size + 2; omega) _), Lib.hid (blk_far HG24.out (by show w.heap.size + 1 ≠ w.heap.size + 2; omega) _), Lib.hid (blk_set HG34.out 1 _), Lib.hid ?_, Lib.hid ?_, Lib.hid (HB4.out.setCell (by show w.heap.size ≤ w.heap.size + 2; omega) _), Lib.hid ?_⟩
              · exact Kd.S_far (p := ⟨w.heap.size + 2, 1, none⟩) HSW4.out (fun k hk => by have := hk.1; show k ≠ w.heap.size + 2; omega) _
              · exact Kd.S_mono (Kd.S_far (p := ⟨w.heap.size + 2, 1, none⟩) HS4.out (fun k hk => by have := hk.1; show k ≠ w.heap.size + 2; omega) _) (fun k hk => ⟨hk.1, by rw [size_set]; exact hk.2.2⟩)
              · rw [size_set]; have := HB9.out.size; have := HZ4.out; omega
            case measure => simp [intOf]; omega
    | cons x q =>
      have hl : p.length < ws.length := by rw [HL.out]; simp
      obtain ⟨AW, cW, rfl⟩ := Kd.S_slice HSW.out
      have hfx : fitMsgS x.f5 := HFW.out.2 x (by rw [HL.out]; simp)
      have HFX := Lib.hid hfx
      clear hfx
      have hrd : rd_T76 ws (p.length : Int) = x := by rw [HL.out]; simp [rd_T76]
      obtain ⟨ad, A5, d5, had, hy0, hy1, hy2, hy3, hy4, hy5, hl5, hr5⟩ := at_T76 (Kd.C_below HR0.out HB.out) (p.length : Int) (by omega) (by omega)
      subst had
      rw [Int.toNat_natCast] at hy0 hy1 hy2 hy3 hy4 hy5
      rw [hrd] at hy0 hy1 hy2 hy3 hy4 hy5 hl5 hr5
      have HR5 := Lib.hid hr5
      have HL5 := Lib.hid hl5
      clear hr5 hl5 hrd
      obtain ⟨wo, rfl⟩ : ∃ wo : World, wo = wr := ⟨_, rfl⟩
      go_wp2_with fail
      have hmx5 : x.f5.length ≤ 4194304 := HFX.out.1
      go_loopw [24] (fun v24 wi => ∃ (p2 q2 : List S112) (v : Value), v24 = .int .i64 p2.length ∧ Hid (x.f5 = p2 ++ q2) ∧ Hid (wi.heap[wo.heap.size]? = some (.cells #[.int .i64 x.f0, .string x.f1, .int .i64 x.f2, .int .i64 x.f3, .bool x.f4, v] 76 (0, 0))) ∧ Hid (Kd.S k112 112 wi (wo.heap.size + 1) (fun k => wo.heap.size + 1 ≤ k ∧ k < wi.heap.size) v p2) ∧ Hid (Tch wo wi (fun _ => False))) (fun v24 _ => x.f5.length - (intOf v24).toNat)
      case atStart => exact ⟨[], x.f5, .slice none 0 0, rfl, Lib.hid rfl, Lib.hid (heap_alloc_new wo _), Lib.hid (Kd.S_nil _ _ _ _ _), Lib.hid ((Tch.refl wo _).below (below_alloc (Below.refl _ _) _))⟩
      case round =>
        obtain ⟨p2, q2, v, rfl, HL2, HG5, HSQ, HT2⟩ := hrel
        cases q2 with
        | nil =>
          have hl2 : p2.length = x.f5.length := by rw [HL2.out]; simp
          have hp2 : p2 = x.f5 := by rw [HL2.out]; simp
          have HP2 := Lib.hid hp2
          have HL3 := Lib.hid hl2
          clear hl2 hp2
          rw [HL3.out]
          obtain ⟨Av, cv, rfl⟩ := Kd.S_slice HSQ.out
          rw [HL3.out] at HSQ HG5
          have HG3' := Lib.hid (blk_kept HG3.out HT2.out.kept (fun h => h))
          have HSW' := Lib.hid (Kd.S_mono (Kd.S_kept HSW.out HT2.out.kept (fun k _ h => h)) (ok' := fun k => (w.heap.size + 3 ≤ k) ∧ ¬ (wo.heap.size + 1 ≤ k ∧ k < wr.heap.size)) (fun k hk => ⟨hk.1, fun h => by omega⟩))
          have HSQ' := Lib.hid (Kd.S_mono (Kd.S_lower HSQ.out (base' := w.heap.size) (by have := HB.out.size; omega)) (ok' := fun k => wo.heap.size + 1 ≤ k ∧ k < wr.heap.size) (fun k hk => hk))
          rw [HP2.out] at HSQ'
          have hz0 := blk_cell HG5.out 0
          have hz1 := blk_cell HG5.out 1
          have hz2 := blk_cell HG5.out 2
          have hz3 := blk_cell HG5.out 3
          have hz4 := blk_cell HG5.out 4
          have hz5 := blk_cell HG5.out 5
          have hk0 := blk_cell HG3'.out 0
          simp only [List.getElem?_toArray, List.getElem?_cons_zero, List.getElem?_cons_succ] at hz0 hz1 hz2 hz3 hz4 hz5 hk0
          have hw3 : w.heap.size + 2 < wo.heap.size := blk_lt HG3.out
          have hwr : wo.heap.size < wr.heap.size := blk_lt HG5.out
          have hszb : w.heap.size ≤ wr.heap.size := Nat.le_trans HB.out.size HT2.out.kept.1
          have HBr := Lib.hid (show Below w.heap.size w wr from below_then HB.out HB.out.size (HT2.out.to_below (Nat.le_refl _) (fun _ h => h.elim)))
          have HG1' := Lib.hid (blk_kept HG1.out HT2.out.kept (fun h => h))
          have HG2' := Lib.hid (blk_kept HG2.out HT2.out.kept (fun h => h))
          go_wp2_with (first | ((with_reducible refine gate_builtin (b := .append) (xs := #[.tmp 37, .tmp 39]) rfl ?_); at_builtin; refine Kd.S_append ms76 (w0 := wr) (W := wr) w.heap.size rfl (.tmp 37) (.tmp 39) 41 76 (.agg #[.int .i64 0, .string ⟨#[]⟩, .int .i64 0, .int .i64 0, .bool false, .slice none 0 0]) 72 rfl Tryd.underlying41 info76 rfl (by decide) (by omega) (.slice AW p.length cW) p x [.int .i64 x.f0, .string x.f1, .int .i64 x.f2, .int .i64 x.f3, .bool x.f4, .slice Av x.f5.length cv] (fun k => w.heap.size + 3 ≤ k) (fun k => wo.heap.size + 1 ≤ k ∧ k < wr.heap.size) rfl rfl (ms76_mk x HSQ'.out) (fun k hk => ⟨by omega, fun he => by have := Kd.S_lt HSW.out k he.symm; omega⟩) (fun k hk => by omega) HSW'.out (Below.refl _ _) (by omega) (by omega) ?_; intro v3 w5 hS hB5 hg hat; obtain ⟨A3, n3, rfl⟩ := Kd.S_slice hS; have HS5 := Lib.hid (S_now hS); have hne : ∀ k, k < w.heap.size + 3 → some k ≠ (Value.slice AW p.length cW).ownBlock := (fun k hk he => by have h1 := HSW.out; obtain ⟨f, h0, _⟩ := h1; have := h0 k he.symm; omega); have HG15 := Lib.hid (blk_grown HG1'.out hg (hne _ (by omega))); have HG25 := Lib.hid (blk_grown HG2'.out hg (hne _ (by omega))); have HG35 := Lib.hid (blk_grown HG3'.out hg (hne _ (by omega))); have hx9 : w5.cell? ⟨w.heap.size + 2, 0, none⟩ = some (.slice AW p.length cW) := blk_cell HG35.out 0; have hf9 : w5.frozen? ⟨w.heap.size + 2, 0, none⟩ = false := blk_frozen HG35.out 0; have HB5 := Lib.hid (HBr.out.grown hg (by omega) (fun k hk => by rcases Nat.lt_or_ge k (w.heap.size + 3) with h | h; exact absurd hk.symm (hne k h); omega)); clear hS hB5 hg hat hne))
          go_roundw
          case rel =>
            have e : (p ++ [x]).length = p.length + 1 := by simp
            rw [e] at HS5
            refine ⟨p ++ [x], q, .slice A3 (p.length + 1) n3, by simp, Lib.hid (by rw [HL.out]; simp), Lib.hid (blk_far HG15.out (by show w.heap.size ≠ w.heap.size + 2; omega) _), Lib.hid (blk_far HG25.out (by show w.heap.size + 1 ≠ w.heap.size + 2; omega) _), Lib.hid (blk_set HG35.out 0 _), Lib.hid ?_, Lib.hid (HB5.out.setCell (by show w.heap.size ≤ w.heap.size + 2; omega) _)⟩
            refine Kd.S_mono (Kd.S_far (p := ⟨w.heap.size + 2, 0, none⟩) HS5.out (fun k hk => by have := hk.1; show k ≠ w.heap.size + 2; omega) _) (fun k hk => ⟨hk.1, by rw [size_set]; exact hk.2.2⟩)
          case measure => simp [intOf]; omega
        | cons y q2 =>
          have hl2 : p2.length < x.f5.length := by rw [HL2.out]; simp
          have hfy : y.f1.length ≤ 4194304 := HFX.out.2 y (by rw [HL2.out]; simp)
          have HFY := Lib.hid hfy
          clear hfy
          have hrd : rd_T112 x.f5 (p2.length : Int) = y := by rw [HL2.out]; simp [rd_T112]
          obtain ⟨ad2, A6, d6, had, hz0, hz1, hz2, hl6, hr6⟩ := at_T112 (Kd.C_below HR5.out (HT2.out.to_below (Nat.le_refl _) (fun _ h => h.elim))) (p2.length : Int) (by omega) (by omega)
          subst had
          rw [Int.toNat_natCast] at hz0 hz1 hz2
          rw [hrd] at hz0 hz1 hz2 hl6 hr6
          have HR6 := Lib.hid hr6
          have HL6 := Lib.hid hl6
          clear hr6 hl6 hrd
          go_wp2_with fail
          have hx5 : (wr.alloc (.cells #[.int .i64 y.f0, .slice A6 y.f1.length d6, .bool y.f2] 112)).cell? ⟨wo.heap.size, 5, none⟩ = some v := blk_cell (blk_alloc HG5.out _) 5
          have hwz : wo.heap.size < wr.heap.size := blk_lt HG5.out
          go_region_law (first | (go_simp; go_at_call 79; refine (msg_copy y A6 d6 wr _ HR6.out HL6.out (by repeat (first | exact Below.refl _ _ | apply below_alloc | apply below_drew)) HFY.out).mono ?_; rintro e w3 ⟨v1, rfl, hR, hb⟩; obtain ⟨A9, c9, rfl⟩ := Kd.R_slice hR; have HB9 := Lib.hid (below_then (below_drew (below_alloc (Below.refl _ _) _)) (by simp) hb); have HR9 := Lib.hid (Kd.R_mono (Kd.R_lower (Kd.R_bound hR) (base' := wo.heap.size + 1) (by simp; omega)) (ok' := fun k => wr.heap.size ≤ k ∧ k < w3.heap.size) (fun k hk => ⟨Nat.le_trans (by simp) hk.2.1, hk.2.2.1⟩)); have hx7 : w3.cell? ⟨wo.heap.size, 5, none⟩ = some v := blk_cell (blk_below HG5.out HB9.out) 5; have hx8 : (w3.alloc (.cells #[.int .i64 y.f0, .slice A9 y.f1.length c9, .bool y.f2] 112)).cell? ⟨wo.heap.size, 5, none⟩ = some v := blk_cell (blk_alloc (blk_below HG5.out HB9.out) _) 5; clear hR hb) | (refine Kd.S_append_step k112 (w0 := w3) (W := w3) (wo.heap.size + 1) (by simp [Region.wanted]) (.tmp 29) (.tmp 32) 74 112 (.agg #[.int .i64 0, .slice none 0 0, .bool false]) 40 rfl Tryd.underlying74 info112 rfl (by decide) (by omega) v p2 y [.int .i64 y.f0, .slice A9 y.f1.length c9, .bool y.f2] (fun k => wo.heap.size + 1 ≤ k) (fun k => wr.heap.size ≤ k ∧ k < w3.heap.size) rfl rfl (k112_mkM _ _ _ y HR9.out) (fun k hk => ⟨by omega, fun he => by have := Kd.S_lt HSQ.out k he.symm; omega⟩) (fun k hk => by have := HB9.out.size; omega) (Kd.S_mono (Kd.S_below HSQ.out HB9.out) (fun k hk => ⟨hk.1, fun h => by omega⟩)) (Below.refl _ _) (by have := HB9.out.size; omega) (by omega) ?_; intro v2 w4 hS hB4 hg hat; obtain ⟨A2, n2, rfl⟩ := Kd.S_slice hS; have HS4 := Lib.hid (S_now hS); have HG4 := Lib.hid (blk_grown (blk_below HG5.out HB9.out) hg (Kd.S_away HSQ.out (fun k hk => by omega))); have hx9 : w4.cell? ⟨wo.heap.size, 5, none⟩ = some v := blk_cell HG4.out 5; have hf9 : w4.frozen? ⟨wo.heap.size, 5, none⟩ = false := blk_frozen HG4.out 5; have HT4 := Lib.hid (HT2.out.then_ ((Tch.of_below HB9.out (fun k => wo.heap.size + 1 ≤ k)).then_ (S2 := fun k => wo.heap.size + 1 ≤ k) ⟨hg.os, hg.tape, hg.output, hg.size, fun k hk hn => hg.block k hk (fun he => hn ((Kd.S_base HSQ.out) k he.symm))⟩ (fun k hk => .inl hk)) (fun k hk => .inr (by omega))); clear hS hB4 hg hat))
          all_goals
            go_wp2_with fail
            go_roundw
            case rel =>
              have e : (p2 ++ [y]).length = p2.length + 1 := by simp
              rw [e] at HS4
              refine ⟨p2 ++ [y], q2, .slice A2 (p2.length + 1) n2, by simp, Lib.hid (by rw [HL2.out]; simp), Lib.hid (blk_set HG4.out 5 _), Lib.hid ?_, Lib.hid (HT4.out.setCell (.inr (Nat.le_refl _)) _)⟩
              refine Kd.S_mono (Kd.S_far (p := ⟨wo.heap.size, 5, none⟩) HS4.out (fun k hk => by have := hk.1; show k ≠ wo.heap.size; omega) _) (fun k hk => ⟨hk.1, by rw [size_set]; exact hk.2.2⟩)
            case measure => simp [intOf]; omega
end Go.Proofs.YtmphkhkbegihaaaDoor.Copy
