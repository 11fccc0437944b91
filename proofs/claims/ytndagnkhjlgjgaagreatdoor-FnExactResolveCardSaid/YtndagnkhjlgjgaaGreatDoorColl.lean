/- What the type tests of impl.value answer. -/
import Derived.Test.YtndagnkhjlgjgaaGreatDoorValue
import Derived.Shelf.SlIter.Collect
import Derived.Shelf.SlIter.AllValues
namespace Go.Proofs.YtndagnkhjlgjgaaGreatDoor.Impl
open Go Go.RowKit
set_option linter.unusedVariables false
theorem asr_null_truth (x : Value) (W : World) : (Instr.typeAssert (.iface 178 x) 55 157 true).run Tryz.prog W = .ok (.tuple #[.bool false, .bool false]) W := by kernel_rfl
theorem asr_null_number (x : Value) (W : World) : (Instr.typeAssert (.iface 178 x) 55 159 true).run Tryz.prog W = .ok (.tuple #[.int .i64 0, .bool false]) W := by kernel_rfl
theorem asr_null_text (x : Value) (W : World) : (Instr.typeAssert (.iface 178 x) 55 161 true).run Tryz.prog W = .ok (.tuple #[.string ⟨#[]⟩, .bool false]) W := by kernel_rfl
theorem asr_null_list (x : Value) (W : World) : (Instr.typeAssert (.iface 178 x) 55 105 true).run Tryz.prog W = .ok (.tuple #[.slice none 0 0, .bool false]) W := by kernel_rfl
theorem asr_null_object (x : Value) (W : World) : (Instr.typeAssert (.iface 178 x) 55 103 true).run Tryz.prog W = .ok (.tuple #[.map none, .bool false]) W := by kernel_rfl
theorem asr_truth_truth (x : Value) (W : World) : (Instr.typeAssert (.iface 157 x) 55 157 true).run Tryz.prog W = .ok (.tuple #[x, .bool true]) W := by kernel_rfl
theorem asr_truth_list (x : Value) (W : World) : (Instr.typeAssert (.iface 157 x) 55 105 true).run Tryz.prog W = .ok (.tuple #[.slice none 0 0, .bool false]) W := by kernel_rfl
theorem asr_truth_object (x : Value) (W : World) : (Instr.typeAssert (.iface 157 x) 55 103 true).run Tryz.prog W = .ok (.tuple #[.map none, .bool false]) W := by kernel_rfl
theorem asr_number_truth (x : Value) (W : World) : (Instr.typeAssert (.iface 159 x) 55 157 true).run Tryz.prog W = .ok (.tuple #[.bool false, .bool false]) W := by kernel_rfl
theorem asr_number_number (x : Value) (W : World) : (Instr.typeAssert (.iface 159 x) 55 159 true).run Tryz.prog W = .ok (.tuple #[x, .bool true]) W := by kernel_rfl
theorem asr_number_list (x : Value) (W : World) : (Instr.typeAssert (.iface 159 x) 55 105 true).run Tryz.prog W = .ok (.tuple #[.slice none 0 0, .bool false]) W := by kernel_rfl
theorem asr_number_object (x : Value) (W : World) : (Instr.typeAssert (.iface 159 x) 55 103 true).run Tryz.prog W = .ok (.tuple #[.map none, .bool false]) W := by kernel_rfl
theorem asr_text_truth (x : Value) (W : World) : (Instr.typeAssert (.iface 161 x) 55 157 true).run Tryz.prog W = .ok (.tuple #[.bool false, .bool false]) W := by kernel_rfl
theorem asr_text_number (x : Value) (W : World) : (Instr.typeAssert (.iface 161 x) 55 159 true).run Tryz.prog W = .ok (.tuple #[.int .i64 0, .bool false]) W := by kernel_rfl
theorem asr_text_text (x : Value) (W : World) : (Instr.typeAssert (.iface 161 x) 55 161 true).run Tryz.prog W = .ok (.tuple #[x, .bool true]) W := by kernel_rfl
theorem asr_text_list (x : Value) (W : World) : (Instr.typeAssert (.iface 161 x) 55 105 true).run Tryz.prog W = .ok (.tuple #[.slice none 0 0, .bool false]) W := by kernel_rfl
theorem asr_text_object (x : Value) (W : World) : (Instr.typeAssert (.iface 161 x) 55 103 true).run Tryz.prog W = .ok (.tuple #[.map none, .bool false]) W := by kernel_rfl
theorem asr_list_truth (x : Value) (W : World) : (Instr.typeAssert (.iface 105 x) 55 157 true).run Tryz.prog W = .ok (.tuple #[.bool false, .bool false]) W := by kernel_rfl
theorem asr_list_number (x : Value) (W : World) : (Instr.typeAssert (.iface 105 x) 55 159 true).run Tryz.prog W = .ok (.tuple #[.int .i64 0, .bool false]) W := by kernel_rfl
theorem asr_list_text (x : Value) (W : World) : (Instr.typeAssert (.iface 105 x) 55 161 true).run Tryz.prog W = .ok (.tuple #[.string ⟨#[]⟩, .bool false]) W := by kernel_rfl
theorem asr_list_list (x : Value) (W : World) : (Instr.typeAssert (.iface 105 x) 55 105 true).run Tryz.prog W = .ok (.tuple #[x, .bool true]) W := by kernel_rfl
theorem asr_list_object (x : Value) (W : World) : (Instr.typeAssert (.iface 105 x) 55 103 true).run Tryz.prog W = .ok (.tuple #[.map none, .bool false]) W := by kernel_rfl
theorem asr_object_truth (x : Value) (W : World) : (Instr.typeAssert (.iface 103 x) 55 157 true).run Tryz.prog W = .ok (.tuple #[.bool false, .bool false]) W := by kernel_rfl
theorem asr_object_number (x : Value) (W : World) : (Instr.typeAssert (.iface 103 x) 55 159 true).run Tryz.prog W = .ok (.tuple #[.int .i64 0, .bool false]) W := by kernel_rfl
theorem asr_object_text (x : Value) (W : World) : (Instr.typeAssert (.iface 103 x) 55 161 true).run Tryz.prog W = .ok (.tuple #[.string ⟨#[]⟩, .bool false]) W := by kernel_rfl
theorem asr_object_list (x : Value) (W : World) : (Instr.typeAssert (.iface 103 x) 55 105 true).run Tryz.prog W = .ok (.tuple #[.slice none 0 0, .bool false]) W := by kernel_rfl
theorem asr_object_object (x : Value) (W : World) : (Instr.typeAssert (.iface 103 x) 55 103 true).run Tryz.prog W = .ok (.tuple #[x, .bool true]) W := by kernel_rfl
end Go.Proofs.YtndagnkhjlgjgaaGreatDoor.Impl
namespace Go.Proofs.YtndagnkhjlgjgaaGreatDoor.Coll
open Go Go.Proofs Go.RowKit Go.Maps Go.Sort Go.Shelf YtndagnkhjlgjgaaGreatDoorW.PrintWords YtndagnkhjlgjgaaGreatDoorW.PrintLast Read
set_option linter.unusedVariables false
set_option linter.unusedSimpArgs false
def encV (p : Nat × Value) : Value := .iface p.1 p.2
attribute [local go_sem] encV
def apAssign : Code := (Code.region 2 #[{ dst := some 5, op := Op.assign (Operand.tmp 7), type := 55, pos := "iter.go:51", after := #[], guard := none }] false)
def apBody : Code := (Code.block 1 (Code.region 3 #[{ dst := some 8, op := Op.load (104) (Operand.tmp 2), type := 104, pos := "iter.go:52", after := #[], guard := none }, { dst := some 9, op := Op.move (Operand.tmp 5), type := 55, pos := "iter.go:52", after := #[], guard := none }, { dst := some 10, op := Op.buildSlice (104) 1 #[(0, Operand.tmp 9)], type := 104, pos := "iter.go:52", after := #[{ on := 1, ground := Ground.data }], guard := none }, { dst := some 11, op := Op.call { callee := Callee.builtin Builtin.append, args := #[Operand.tmp 8, Operand.tmp 10], argTypes := #[104, 104] }, type := 104, pos := "iter.go:52", after := #[{ on := 0, ground := Ground.data }, { on := 2, ground := Ground.data }], guard := none }, { dst := none, op := Op.store (104) (Operand.tmp 2) (Operand.tmp 11), type := 0, pos := "iter.go:52", after := #[{ on := 3, ground := Ground.data }, { on := 3, ground := Ground.chain }, { on := 0, ground := Ground.phase }, { on := 1, ground := Ground.phase }, { on := 2, ground := Ground.phase }, { on := 3, ground := Ground.phase }], guard := none }] false))
def apRec (fn : FuncId) (sv : Value) (Bs D : Nat) (st : LoopState) (pend : Option Code) : Loop :=
  { state := st, pending := pend, fn, tmps := #[.slice none 0 0, sv, .pointer (some ⟨Bs, 0, none⟩), undef, .slice none 0 0, undef, sv, undef, undef, undef, undef, undef, undef], params := #[7], assign := apAssign, body := apBody, defers := D }
structure ApAt (w0 : World) (fn : FuncId) (sv : Value) (Bs l D : Nat) (ss : List (Nat × Value)) (W : World) : Prop where
  box : ∃ v, W.heap[Bs]? = some (.cells #[v] (104) (0, 0)) ∧ W.ownsRow w0.heap.size (55) 1 v ss.length (ss.map encV) ∧ (v = .slice none 0 0 ↔ ss = [])
  L : W.heap[l]? = some (.loop (apRec fn sv Bs D .ready none))
  K : W.heap[D]? = some (.deferred (some []))
  below : Below w0.heap.size w0 W
theorem ap_abides (w0 : World) (fn : FuncId) (sv : Value) (Bs l D B : Nat) (hB : w0.heap.size ≤ B) : AbidesFrom B (ApAt w0 fn sv Bs l D) := fun s W W' row h hg hrow => by
  have hrow' : ∀ r, row = some r → ∃ o : Obj, W.heap[r]? = some o ∧ o.isWalk = true := fun r e => (hrow r e).2
  obtain ⟨v, hv, hr, hn⟩ := h.box
  exact ⟨⟨v, (grownBy_keeps hg hrow' hv rfl).trans hv, ownsRow_abides_a hr hg hrow', hn⟩, (grownBy_keeps hg hrow' h.L rfl).trans h.L, (grownBy_keeps hg hrow' h.K rfl).trans h.K,
    h.below.grown hg h.below.size (fun k e => Nat.le_trans hB (hrow k e).1)⟩
set_option maxRecDepth 100000 in
set_option maxHeartbeats 2000000 in
theorem apYield (m : Nat) (w0 : World) (fn : FuncId) (sv : Value) (Bs l D : Nat) (hBl : Bs ≠ l) (hDl : D ≠ l) (hDB : D ≠ Bs) (h0B : w0.heap.size ≤ Bs) (h0l : w0.heap.size ≤ l)
    (N : Nat) (hN : N ≤ maxLen) (hNb : N * 16 ≤ 140737488355328) (ss : List (Nat × Value)) (x : Nat × Value) (W : World) (h : ApAt w0 fn sv Bs l D ss W) (hlen : ss.length < N) :
    YieldAt Fence.wide m Tryz.prog l #[encV x] W fun e W' => e = .returned (.bool true) ∧ ApAt w0 fn sv Bs l D (ss ++ [x]) W' ∧ KeepsWalks W W' := by
  have hne : (104 : Nat) ≠ 55 := by decide
  obtain ⟨tx, vx⟩ := x
  obtain ⟨i0, hi, hz0, hz1, hz2⟩ := info_parts infoV
  obtain ⟨v, hv, hrow, _⟩ := h.box
  refine ⟨fn, #[.slice none 0 0, sv, .pointer (some ⟨Bs, 0, none⟩), undef, .slice none 0 0, undef, sv, encV (tx, vx), undef, undef, undef, undef, undef], apAssign, apBody, by simpa [apRec] using run_yield (P := Tryz.prog) (args := #[encV (tx, vx)]) h.L rfl, roundIn_of_wpIn (F := Fence.wide) trivial ?_⟩
  have hl : l < W.heap.size := (Array.getElem?_eq_some_iff.1 h.L).1
  have hbr := run_beginRound (P := Tryz.prog) h.L rfl
  obtain ⟨W2, hW2⟩ : ∃ W2, W.putObj l (.loop { apRec fn sv Bs D .ready none with state := .busy }) = W2 := ⟨_, rfl⟩
  rw [hW2] at hbr
  have hg2 : W.grownBy W2 (some l) := by rw [← hW2]; exact grownBy_putObj_a _ _ _
  have hk2 : KeepsWalks W W2 := by rw [← hW2]; exact KeepsWalks.putObj _ h.L rfl
  have hv2 : W2.heap[Bs]? = some (.cells #[v] (104) (0, 0)) := by rw [← hW2]; exact (World.putObj_heap_other hBl).trans hv
  have hK2 : W2.heap[D]? = some (.deferred (some [])) := by rw [← hW2]; exact (World.putObj_heap_other hDl).trans h.K
  have hL2 : W2.heap[l]? = some (.loop { apRec fn sv Bs D .ready none with state := .busy }) := by rw [← hW2]; exact World.putObj_heap_same hl
  have hrow2 : W2.ownsRow w0.heap.size (55) 1 v ss.length (ss.map encV) := hrow.kept hg2 (ownsRow_ne_a hrow h.L (fun cur e => by first | cases e | exact hne (Obj.cells.inj e).2.1))
  have hb2 : Below w0.heap.size w0 W2 := h.below.grown hg2 h.below.size (fun k e => by cases e; exact h0l)
  obtain ⟨hc2, hf2⟩ := cell_of_box_a hv2
  have hBlt : Bs < W2.heap.size := (Array.getElem?_eq_some_iff.1 hv2).1
  have hl2 : l < W2.heap.size := (Array.getElem?_eq_some_iff.1 hL2).1
  have hDlt : D < W2.heap.size := (Array.getElem?_eq_some_iff.1 hK2).1
  have ne_of : ∀ {j : Nat} {o : Obj}, W2.heap[j]? = some o → (∀ cur, o ≠ .cells cur (55) (0, 0)) → some j ≠ v.ownBlock := fun hj hno => by
    rcases ownsRow_ne_a hrow2 hj hno with e | e
    · rw [e]; simp
    · exact fun e' => e e'.symm
  clear hW2
  unfold apAssign
  gi_wp2_with gi_round_op_a
  unfold apBody
  gi_wp2_with (first
    | (gi_at_builtin; go_loud (refine wpListIn_append_own _ rfl _ _ (104) rfl w0.heap.size (55) i0 .nilIface 1 16 Tryz.underlying104 hi hz0 hz1 hz2 rfl (by decide) _ _ _ rfl (hrow2.alloc _) ⟨W2.heap.size, 0, none⟩ 1 1 [encV (tx, vx)] rfl rfl (cell_one_new _ _ _) (by simp [Value.oneCell', encV]) (by omega) (by omega) (by have := hb2.size; simp; omega) ?_); intro v' w3 hown' hg3 hnil3
       have hv3 : w3.heap[Bs]? = some (.cells #[v] (104) (0, 0)) := (hg3.block Bs (by simp; omega) (ne_of hv2 (fun cur e => by first | cases e | exact hne (Obj.cells.inj e).2.1))).trans ((Below.heap_alloc _ _ Bs hBlt).trans hv2)
       obtain ⟨hc3, hf3⟩ := cell_of_box_a hv3
       obtain ⟨g', cap', cur', rfl, hbase', hgb', hr1, hr2, hr3, hr4⟩ : ∃ g' cap' cur', v' = .slice (some ⟨g', 0, none⟩) (ss.length + 1) cap' ∧ w0.heap.size ≤ g' ∧ w3.heap[g']? = some (.cells cur' (55) (0, 0)) ∧ ss.length + 1 ≤ cap' ∧ cap' ≤ maxLen ∧ cur'.size = cap' * 1 ∧ cur'.toList.take ((ss.length + 1) * 1) = ss.map encV ++ [encV (tx, vx)] := by
         rcases hown'.2 with ⟨_, h0⟩ | h'
         · exact absurd h0 (by omega)
         · exact h'
       go_frame)
    | gi_round_op_a)
  have hg3' : (W2.alloc (.cells #[encV (tx, vx)] (55))).grownBy w3 v.ownBlock := hg3
  have hL3 : w3.heap[l]? = some (.loop { apRec fn sv Bs D .ready none with state := .busy }) := (hg3'.block l (by simp; omega) (ne_of hL2 (fun cur e => by first | cases e | exact hne (Obj.cells.inj e).2.1))).trans ((Below.heap_alloc _ _ l hl2).trans hL2)
  have hK3 : w3.heap[D]? = some (.deferred (some [])) := (hg3'.block D (by simp; omega) (ne_of hK2 (fun cur e => by first | cases e | exact hne (Obj.cells.inj e).2.1))).trans ((Below.heap_alloc _ _ D hDlt).trans hK2)
  obtain ⟨w4, hw4⟩ : ∃ w4, w3.setCell ⟨Bs, 0, none⟩ (.slice (some ⟨g', 0, none⟩) (ss.length + 1) cap') = w4 := ⟨_, rfl⟩
  rw [hw4]
  have hg4 : w3.grownBy w4 (some Bs) := by rw [← hw4]; exact grownBy_setCell0_a _ _ _
  have hv4 : w4.heap[Bs]? = some (.cells #[.slice (some ⟨g', 0, none⟩) (ss.length + 1) cap'] (104) (0, 0)) := by rw [← hw4]; exact heap_setCell_box_a _ hv3
  have hL4 : w4.heap[l]? = some (.loop { apRec fn sv Bs D .ready none with state := .busy }) := (hg4.block l (Array.getElem?_eq_some_iff.1 hL3).1 (fun e => hBl (by cases e; rfl))).trans hL3
  have hK4 : w4.heap[D]? = some (.deferred (some [])) := (hg4.block D (Array.getElem?_eq_some_iff.1 hK3).1 (fun e => hDB (by cases e; rfl))).trans hK3
  have hrow4 := hown'.kept hg4 (ownsRow_ne_a hown' hv3 (fun cur e => by first | cases e | exact hne (Obj.cells.inj e).2.1))
  have hl4 : l < w4.heap.size := (Array.getElem?_eq_some_iff.1 hL4).1
  have hb3 : Below w0.heap.size w0 w3 := (hb2.alloc hb2.size _).grown hg3' (by have := hb2.size; simp; omega) (fun k e => (hrow2.lt k e).1)
  have hb4 : Below w0.heap.size w0 w4 := hb3.grown hg4 hb3.size (fun k e => by cases e; exact h0B)
  have hk4 : KeepsWalks W w4 := ((hk2.trans (KeepsWalks.alloc _ _)).trans (KeepsWalks.of_grownBy hg3' (ownsRow_not_walk_a (hrow2.alloc _)))).trans (by rw [← hw4]; exact KeepsWalks.setCell _ _ _)
  clear hw4
  refine ⟨_, _, run_endRound none hL4, rfl, ⟨⟨_, (World.putObj_heap_other hBl).trans hv4, ?_, by simp⟩, World.putObj_heap_same hl4, (World.putObj_heap_other hDl).trans hK4, hb4.grown (grownBy_putObj_a _ _ _) hb4.size (fun k e => by cases e; exact h0l)⟩, hk4.trans (KeepsWalks.putObj _ hL4 rfl)⟩
  have := hrow4.kept (grownBy_putObj_a w4 l (.loop { { apRec fn sv Bs D .ready none with state := .busy } with state := if (none : Option Code).isNone then .ready else .done, pending := none })) (ownsRow_ne_a hrow4 hL4 (fun cur e => by first | cases e | exact hne (Obj.cells.inj e).2.1))
  simpa using this
set_option maxRecDepth 100000 in
set_option maxHeartbeats 2000000 in
theorem appendSeq_in (n : Nat) (hn : 2 ≤ n) (g : Nat) (lb : Array Value) (eg : ∀ args w, (callFunc g args).run Tryz.prog w = .ok (.enter g args) w)
    (S : List (Nat × Value) → Prop) (N : Nat) (hN : N ≤ maxLen) (hNb : N * 16 ≤ 140737488355328) (w : World) (hseq : SeqGives Fence.wide (n - 1) Tryz.prog g lb encV S N w) :
    CallsIn Fence.wide n Tryz.prog 125 #[.slice none 0 0, .func (.func g) #[] lb] w fun e w' => ∃ (v : Value) (ss : List (Nat × Value)), e = .returned v ∧ S ss ∧ w'.ownsRow w.heap.size (55) 1 v ss.length (ss.map encV) ∧ (v = .slice none 0 0 ↔ ss = []) ∧ Below w.heap.size w w' := by
  have h1 : 1 ≤ n := by omega
  have hne : (104 : Nat) ≠ 55 := by decide
  have hro : Fence.wide.round = none := rfl
  refine callsIn_of_wp_marks Tryz.func125 rfl trivial ?_ hro
  simp only [Tryz.ntmps125, List.size_toArray, List.length_cons, List.length_nil, Nat.reduceAdd, Nat.reduceSub, Array.replicate_succ, Array.replicate_zero, List.push_toArray, List.append_toArray, List.nil_append, List.cons_append]
  gi_wp2
  refine wpIn_rangeFunc ?_
  intro fn hfn
  rw [hro]
  obtain ⟨W0, hW0⟩ : ∃ W0, w.alloc (.cells #[.slice none 0 0] (104)) = W0 := ⟨_, rfl⟩
  have hs0 : W0.heap.size = w.heap.size + 1 := by rw [← hW0]; simp
  have hv0 : W0.heap[w.heap.size]? = some (.cells #[.slice none 0 0] (104) (0, 0)) := by rw [← hW0]; exact World.alloc_heap_new w _
  have hb0 : Below w.heap.size w W0 := by rw [← hW0]; exact (Below.refl _ w).alloc (Nat.le_refl _) _
  rw [hW0]
  obtain ⟨W1, hW1⟩ : ∃ W1, (W0.alloc (.deferred (some []))).alloc (.loop (apRec fn (.func (.func g) #[] lb) w.heap.size W0.heap.size .ready none)) = W1 := ⟨_, rfl⟩
  have hold : ∀ k, k < W0.heap.size → W1.heap[k]? = W0.heap[k]? := fun k hk => by
    rw [← hW1]; exact (Below.heap_alloc _ _ k (by simp; omega)).trans (Below.heap_alloc _ _ k hk)
  have hb1 : Below w.heap.size w W1 := by rw [← hW1]; exact (hb0.alloc hb0.size _).alloc (by have := hb0.size; simp; omega) _
  have hs1 : W1.heap.size = W0.heap.size + 2 := by rw [← hW1]; simp
  have hM : ApAt w fn (.func (.func g) #[] lb) w.heap.size (W0.heap.size + 1) W0.heap.size [] W1 :=
    ⟨⟨_, (hold w.heap.size (by omega)).trans hv0, ⟨rfl, .inl ⟨rfl, rfl⟩⟩, by simp⟩,
     by rw [← hW1]; have := World.alloc_heap_new (W0.alloc (.deferred (some []))) (.loop (apRec fn (.func (.func g) #[] lb) w.heap.size W0.heap.size .ready none)); rwa [World.size_alloc] at this,
     by rw [← hW1]; exact (Below.heap_alloc _ _ _ (by simp)).trans (World.alloc_heap_new W0 _), hb1⟩
  refine ⟨W0.heap.size + 1, [{ target := .collected W0.heap.size, args := #[] }], W1, { target := .fn (.func g) lb, args := #[.func (.yield (W0.heap.size + 1)) #[] #[]] }, W1, g,
    #[.func (.yield (W0.heap.size + 1)) #[] #[]] ++ lb, W1, ?_, ?_, ?_, ?_, fun _ => h1, ?_⟩
  · rw [← hW1]; exact run_enterLoop_outer _ _ _ _ _
  · simp [resolve, go_sem]
  · intro f' hf'; trivial
  · simp [invoke, go_sem, eg]
  · refine (hseq (W0.heap.size + 1) (ApAt w fn (.func (.func g) #[] lb) w.heap.size (W0.heap.size + 1) W0.heap.size) W1 hb1 (ap_abides _ _ _ _ _ _ _ hb1.size)
      (fun pre x W hJ hl => apYield (n - 1 - 1) w fn _ w.heap.size (W0.heap.size + 1) W0.heap.size (by omega) (by omega) (by omega) (Nat.le_refl _) (by omega) N hN hNb pre x W hJ hl) hM).mono ?_
    rintro e W2 ⟨⟨v0, rfl⟩, ss, hS, h2⟩
    obtain ⟨v, hv, hrow, hnil⟩ := h2.box
    have hend := run_endLoop (P := Tryz.prog) h2.L (by simp [apRec])
    obtain ⟨W3, hW3⟩ : ∃ W3, W2.putObj (W0.heap.size + 1) (.loop { apRec fn (.func (.func g) #[] lb) w.heap.size W0.heap.size .ready none with state := .exhausted }) = W3 := ⟨_, rfl⟩
    rw [hW3] at hend
    have hg3 : W2.grownBy W3 (some (W0.heap.size + 1)) := by rw [← hW3]; exact grownBy_putObj_a _ _ _
    have hv3 : W3.heap[w.heap.size]? = some (.cells #[v] (104) (0, 0)) := by rw [← hW3]; exact (World.putObj_heap_other (by omega)).trans hv
    have hK3 : W3.heap[W0.heap.size]? = some (.deferred (some [])) := by rw [← hW3]; exact (World.putObj_heap_other (by omega)).trans h2.K
    have hrow3 := hrow.kept hg3 (ownsRow_ne_a hrow h2.L (fun cur e => by first | cases e | exact hne (Obj.cells.inj e).2.1))
    have hb3 : Below w.heap.size w W3 := h2.below.grown hg3 h2.below.size (fun k e => by cases e; omega)
    obtain ⟨hc3, hf3⟩ := cell_of_box_a hv3
    clear hW3
    refine ⟨none, W3, hend, ?_⟩
    gi_wp2
    rw [← hs0]
    refine ⟨by simp, .inl ⟨_, _, rfl, run_takeDeferred hK3, ?_⟩⟩
    exact ⟨_, results_tmp rfl _ _ _, v, ss, rfl, hS, hrow3.kept (grownBy_putObj_a _ _ _) (ownsRow_ne_a hrow3 hK3 (fun cur e => by first | cases e | exact hne (Obj.cells.inj e).2.1)), hnil, hb3.grown (grownBy_putObj_a _ _ _) hb3.size (fun k e => by cases e; omega)⟩
set_option maxHeartbeats 1000000 in
theorem collect_in (n : Nat) (hn : 3 ≤ n) (g : Nat) (lb : Array Value) (eg : ∀ args w, (callFunc g args).run Tryz.prog w = .ok (.enter g args) w)
    (S : List (Nat × Value) → Prop) (N : Nat) (hN : N ≤ maxLen) (hNb : N * 16 ≤ 140737488355328) (w : World) (hseq : SeqGives Fence.wide (n - 1 - 1) Tryz.prog g lb encV S N w) :
    CallsIn Fence.wide n Tryz.prog 96 #[.func (.func g) #[] lb] w fun e w' => ∃ (v : Value) (ss : List (Nat × Value)), e = .returned v ∧ S ss ∧ w'.ownsRow w.heap.size (55) 1 v ss.length (ss.map encV) ∧ (v = .slice none 0 0 ↔ ss = []) ∧ Below w.heap.size w w' := by
  have h1 : 1 ≤ n := by omega
  have e11 : ∀ args w, (callFunc 125 args).run Tryz.prog w = .ok (.enter 125 args) w := fun args w => enters_ Tryz.func125 (by kernel_rfl) rfl args w
  have hro : Fence.wide.round = none := rfl
  refine callsIn_of_wp Tryz.func96 rfl trivial ?_ hro
  simp only [Tryz.ntmps96, List.size_toArray, List.length_cons, List.length_nil, Nat.reduceAdd, Nat.reduceSub, Array.replicate_succ, Array.replicate_zero, List.push_toArray, List.append_toArray, List.nil_append, List.cons_append]
  gi_wp2_with fail
  refine ⟨trivial, ?_⟩
  refine (appendSeq_in (n - 1) (by omega) g lb eg S N hN hNb _ hseq).mono ?_
  rintro e w' ⟨v, ss, rfl, hS, hrow, hnil, hb⟩
  gi_wp2_with fail
  go_ret
  exact ⟨v, ss, rfl, hS, hrow, hnil, hb⟩
end Go.Proofs.YtndagnkhjlgjgaaGreatDoor.Coll
namespace Go.Proofs.YtndagnkhjlgjgaaGreatDoor.Keys
open Go Go.Proofs Go.RowKit Go.Maps Go.Sort Go.Shelf YtndagnkhjlgjgaaGreatDoorW.PrintWords Val Tree
set_option linter.unusedVariables false
set_option linter.unusedSimpArgs false
theorem before_lt : ∀ (a b : List UInt8), bytesBefore a b = true → a < b
 | [], [], h => by cases h
 | [], _ :: _, _ => List.nil_lt_cons _ _
 | _ :: _, [], h => by cases h
 | a :: r, b :: s, h => by
  unfold bytesBefore at h
  rw [List.cons_lt_cons_iff]
  simp only [Bool.or_eq_true, decide_eq_true_eq, Bool.and_eq_true, beq_iff_eq] at h
  rcases h with h | ⟨h1, h2⟩
  ·exact .inl h
  ·exact .inr ⟨h1, before_lt r s h2⟩
theorem sort_of (ds : List (List UInt8)) (hs : ds.Pairwise (fun a b => bytesBefore a b = true)) (ss : List (List UInt8)) (hp : ss.Perm ds) : ss.mergeSort (fun x y => decide (x ≤ y)) = ds := by
 refine List.Perm.eq_of_pairwise (le := fun a b => decide (a ≤ b) = true) (fun a b _ _ h1 h2 => ?_) (List.pairwise_mergeSort ?_ ?_ ss) (hs.imp fun {a b} h => ?_) ((List.mergeSort_perm ss _).trans hp)
 ·simp only [decide_eq_true_eq] at h1 h2
  exact List.le_antisymm h1 h2
 ·intro a b c h1 h2
  simp only [decide_eq_true_eq] at h1 h2 ⊢
  exact List.le_trans h1 h2
 ·intro a b
  simp only [Bool.or_eq_true, decide_eq_true_eq]
  exact List.le_total a b
 ·simp only [decide_eq_true_eq]
  exact List.le_of_lt (before_lt a b h)
theorem keys_enc (ds : List (ByteArray × Value)) : strKeys (encM ds) = ds.map fun p => p.1.data.toList := by
 show List.map _ (List.map _ ds) = _
 rw [List.map_map]
 rfl
theorem size_enc (ds : List (ByteArray × Value)) : Maps.size (encM ds) = ds.length := by
 unfold encM Maps.size
 simp
end Go.Proofs.YtndagnkhjlgjgaaGreatDoor.Keys
namespace Go.Proofs.YtndagnkhjlgjgaaGreatDoor.Coll
open Go Go.Proofs Go.RowKit Go.Maps Go.Sort Go.Shelf YtndagnkhjlgjgaaGreatDoorW.PrintWords YtndagnkhjlgjgaaGreatDoorW.PrintLast Read Val Tree
set_option linter.unusedVariables false
set_option linter.unusedSimpArgs false
def Ifs (ds : List (ByteArray × Value)) : Prop := ∀ p ∈ ds, ∃ T x, p.2 = .iface T x
theorem at_enc (x : List UInt8) (c : Value) : ∀ ds : List (ByteArray × Value), (∀ zd : DataW Value, (encM ds).atKey (.string x) zd = .held c) → ∃ p ∈ ds, p.1.data.toList = x ∧ p.2 = c := by
 intro ds h
 have h1 := h (.lit (.bool true))
 unfold encM DataW.atKey at h1
 simp only [] at h1
 cases hf : (ds.map fun x => ((.string x.1.data.toList, .held x.2) : Lit × DataW Value)).find? (fun p => p.1.sameKey (.string x)) with
 | none => rw [hf] at h1; cases h1
 | some p =>
  rw [hf] at h1
  have hm := List.mem_of_find?_eq_some hf
  have hp := List.find?_some hf
  obtain ⟨q, hq, rfl⟩ := List.mem_map.1 hm
  exact ⟨q, hq, by simpa [Lit.sameKey] using hp, by injection h1⟩
def PairOf (ds : List (ByteArray × Value)) (p : List UInt8 × (Nat × Value)) : Prop := ∀ zd, (encM ds).atKey (.string p.1) zd = .held (encV p.2)
set_option maxRecDepth 100000 in
set_option maxHeartbeats 1000000 in
theorem values1_in (n : Nat) (hn : 1 ≤ n) (l Bm b nn : Nat) (ds : List (ByteArray × Value)) (hi : Ifs ds) (J : List (Nat × Value) → World → Prop)
  (hY : ∀ pre x W, J pre W → pre.length < Maps.size (encM ds) → YieldAt Fence.wide (n - 1) Tryz.prog l #[encV x] W fun e W' => e = .returned (.bool true) ∧ J (pre ++ [x]) W' ∧ KeepsWalks W W')
  (W : World) (hJ : AbidesFrom W.heap.size J) (hm : W.cell? ⟨Bm, 0, none⟩ = some (.map (some b))) (hown : W.ownsMap Tryz.prog 9 Rd b nn (encM ds)) (h0 : J [] W) :
  CallsIn Fence.wide n Tryz.prog 126 #[.func (.yield l) #[] #[], .pointer (some ⟨Bm, 0, none⟩)] W fun e W' => (∃ v, e = .returned v) ∧
   ∃ xs, (∃ ps : List (List UInt8 × (Nat × Value)), (ps.map (·.1)).Perm (strKeys (encM ds)) ∧ (∀ p ∈ ps, PairOf ds p) ∧ xs = ps.map (·.2)) ∧ J xs W' := by
 have hro : Fence.wide.round = none := rfl
 refine callsIn_of_wp Tryz.func126 rfl trivial ?_ hro
 simp only [Tryz.ntmps126, List.size_toArray, List.length_cons, List.length_nil, Nat.reduceAdd, Nat.reduceSub, Array.replicate_succ, Array.replicate_zero, List.push_toArray, List.append_toArray, List.nil_append, List.cons_append]
 gi_wp2_with (first
  | (gi_at_range; refine wpListIn_range_own _ rfl _ 103 rfl 9 55 (string_keyed Tryz.underlying9) Tryz.underlying103 Rd b nn _ rfl hown ?_; intro w0 hrg0 hg0 hs0)
  | gi_in)
 go_frame
 gi_loopw [4] (fun _ wr => ∃ (left : Lit → Bool) (cnt : Nat) (ps : List (List UInt8 × (Nat × Value))), wr.ranges Tryz.prog 9 Rd b W.heap.size nn (encM ds) left cnt ∧ ps.length + cnt ≤ Maps.size (encM ds) ∧ Collected (encM ds) left (ps.map (·.1)) ∧ (∀ p ∈ ps, PairOf ds p) ∧ J (ps.map (·.2)) wr)
  (fun _ wr => wr.rangeLeft b W.heap.size)
 case atStart =>
  exact ⟨_, _, [], hrg0, by simp, Collected.start (encM ds), by simp, hJ [] W w0 none h0 hg0 (fun r e => by cases e)⟩
 case round =>
  obtain ⟨left, cnt, ps, hrg, hcs, hC, hV, hJs⟩ := hrel
  gi_wp2_with (first
   | (gi_at_next; refine wpListIn_next_ranges _ rfl _ rfl 9 (string_keyed Tryz.underlying9) Rd encStr (fun v => v) (fun key kl hk => by obtain ⟨x, hx, _⟩ := Maps.keyOf_str Tryz.underlying9 hk; exact ⟨x, hx⟩) (fun v y hv => ⟨v, rfl⟩) b W.heap.size nn _ _ _ rfl hrg ?_ ?_)
   | gi_in)
  ·intro hc0 hl0
   gi_wp2
   go_end0
   exact ⟨⟨_, rfl⟩, _, ⟨ps, hC.perm hown (string_keyed Tryz.underlying9) Tryz.underlying9 hl0, hV, rfl⟩, hJs⟩
  ·intro x c kl yd yp w2 cnt2 hkey hlk hv hat hrg2 hlt hg2 hs2 hen
   obtain ⟨x', ex, rfl, _⟩ := Maps.keyOf_str Tryz.underlying9 hkey
   obtain rfl : x = x' := encStr_inj ex
   obtain rfl : yd = .held c := (Prod.mk.inj (Option.some.inj hv)).1.symm
   obtain ⟨p, hp, hp1, hp2⟩ := at_enc x c ds hat
   obtain ⟨T', z, hz⟩ := hi p hp
   obtain rfl : c = encV (T', z) := by rw [← hp2, hz]; rfl
   have hJ2 : J (ps.map (·.2)) w2 := hJ _ wr w2 (some W.heap.size) hJs hg2 (fun r e => by cases e; exact ⟨Nat.le_refl _, hrg.iter_walk⟩)
   obtain ⟨fn, tmps, assign, body, hy, hR⟩ := hY (ps.map (·.2)) (T', z) w2 hJ2 (by simp; omega)
   clear hs2
   gi_wp2
   refine hR.mono ?_
   have hC2 : Collected (encM ds) (fun z => left z && !z.sameKey (.string x)) ((ps ++ [(x, (T', z))]).map (·.1)) := by simpa using hC.step hlk hat
   have hV2 : ∀ p ∈ ps ++ [(x, (T', z))], PairOf ds p := fun p hp => (List.mem_append.1 hp).elim (hV p) (fun e => by simp at e; subst e; exact hat)
   rintro e W3 ⟨rfl, hJ3, hk3⟩
   gi_wp2
   have hrg3 := hrg2.of_walks hk3
   go_roundw
   case rel => exact ⟨_, cnt2, ps ++ [(x, (T', z))], hrg3, by simp; omega, hC2, hV2, by simpa using hJ3⟩
   case measure => rw [hrg3.left_eq, hrg.left_eq]; exact hlt
theorem values_in (n : Nat) (mb : Option Nat) (w : World) :
  CallsIn Fence.wide n Tryz.prog 97 #[.map mb] w fun e w' => e = .returned (.func (.func 126) #[] #[.pointer (some ⟨w.heap.size, 0, none⟩)]) ∧ w' = w.alloc (.cells #[.map mb] 103) := by
 refine callsIn_of_wp Tryz.func97 rfl trivial ?_ rfl
 simp only [Tryz.ntmps97, List.size_toArray, List.length_cons, List.length_nil, Nat.reduceAdd, Nat.reduceSub, Array.replicate_succ, Array.replicate_zero, List.push_toArray, List.append_toArray, List.nil_append, List.cons_append]
 gi_wp2
 go_ret
 exact ⟨rfl, rfl⟩
theorem vals_perm (ds : List (ByteArray × Value)) (hs : ds.Pairwise (fun a b => keyB a b = true)) (ps : List (List UInt8 × (Nat × Value))) (hp : (ps.map (·.1)).Perm (strKeys (encM ds))) (hv : ∀ p ∈ ps, PairOf ds p) : ((ps.map (·.2)).map encV).Perm (ds.map (·.2)) := by
 have key : ∀ (x : List UInt8), ∀ d ∈ ds, d.1.data.toList = x → ∀ zd : DataW Value, (encM ds).atKey (.string x) zd = .held d.2 := by
  clear hp hv
  intro x d hd hx zd
  unfold encM DataW.atKey
  simp only []
  have hf : (ds.map fun x => ((.string x.1.data.toList, .held x.2) : Lit × DataW Value)).find? (fun p => p.1.sameKey (.string x)) = some (.string d.1.data.toList, .held d.2) := by
   induction ds with
   | nil => simp at hd
   | cons a r ih =>
    rw [List.pairwise_cons] at hs
    rw [List.map_cons, List.find?_cons]
    rcases List.mem_cons.1 hd with rfl | hd
    ·have : (Lit.string d.1.data.toList).sameKey (.string x) = true := by simp [Lit.sameKey, hx]
     simp only [this]
    ·have hne : a.1.data.toList ≠ x := by
      intro e
      have h1 := hs.1 d hd
      unfold keyB at h1
      rw [e, hx, Go.WideAt.bytes_irrefl] at h1
      cases h1
     have : (Lit.string a.1.data.toList).sameKey (.string x) = false := by simpa [Lit.sameKey] using hne
     simp only [this]
     exact ih hs.2 hd
  rw [hf]
 let f : List UInt8 → Value := fun x => match (encM ds).atKey (.string x) (.lit (.bool true)) with | .held c => c | _ => .nilIface
 have h1 : (ps.map (·.2)).map encV = (ps.map (·.1)).map f := by
  rw [List.map_map, List.map_map]
  refine List.map_congr_left fun p hp => ?_
  have := hv p hp (.lit (.bool true))
  simp only [Function.comp, f, this]
 have h2 : ds.map (·.2) = (strKeys (encM ds)).map f := by
  rw [Go.Proofs.YtndagnkhjlgjgaaGreatDoor.Keys.keys_enc, List.map_map]
  refine List.map_congr_left fun d hd => ?_
  have := key d.1.data.toList d hd rfl (.lit (.bool true))
  simp only [Function.comp, f, this]
 rw [h1, h2]
 exact hp.map f
end Go.Proofs.YtndagnkhjlgjgaaGreatDoor.Coll
