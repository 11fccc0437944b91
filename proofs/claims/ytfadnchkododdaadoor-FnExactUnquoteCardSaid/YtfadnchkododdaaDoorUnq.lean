/- impl.Unquote: its contract by hand (a deferred closure that recovers). -/
import Derived.Test.YtfadnchkododdaaDoorRead4
import Derived.Tactics2
import Derived.Defers
import Derived.Recover
import Derived.Laws.Pointers
namespace Go.Proofs.YtfadnchkododdaaDoor.Read
open Go Go.RowKit Go.Proofs.YtfadnchkododdaaDoorW.PrintWords Go.Proofs.YtfadnchkododdaaDoor.Str Go.Proofs.YtfadnchkododdaaDoor.Tchs
set_option linter.unusedVariables false
set_option linter.unusedSimpArgs false

set_option maxRecDepth 100000 in
set_option maxHeartbeats 4000000 in
theorem catch_panicking (a b : Nat) (x : ByteArray) (y : Bool) (w : World) (ha : w.heap[a]? = some (.cells #[.string x] 9 (0, 0))) (hb : w.heap[b]? = some (.cells #[.bool y] 4 (0, 0))) (hab : a ≠ b) :
    CallsD Tryd.prog 13 #[.pointer (some ⟨a, 0, none⟩), .pointer (some ⟨b, 0, none⟩)] (.panicking noForm) w fun e u' w' =>
      e = .returned (.tuple #[]) ∧ u' = .panicking [{ v := .iface 36 (.agg #[]), recovered := true }] ∧ w'.heap[a]? = some (.cells #[.string ⟨#[]⟩] 9 (0, 0)) ∧ w'.heap[b]? = some (.cells #[.bool false] 4 (0, 0)) ∧ Tch w w' (fun k => k = a ∨ k = b) := by
  refine callsD_of_wpS Tryd.func13 rfl fun c₀ cs hu => ?_
  apply wpS_seq
  apply wpS_region
  simp [wpOpsS, go_sem, recoverD, hu, Tryd.ntmps13, Exit.thenS]
  apply wpS_seq
  apply wpS_region
  simp [wpOpsS, go_sem, Exit.thenS]
  refine wpS_cond (t := true) (by simp [Act.eval, Array.replicate]) ?_
  simp only [if_true]
  refine wpS_of_wp ?_
  have h0 := blk_cell (blk_alloc ha (.cells #[] 36)) 0
  have h1 := blk_cell (blk_alloc hb (.cells #[] 36)) 0
  have f0 := blk_frozen (blk_alloc ha (.cells #[] 36)) 0
  have f1 := blk_frozen (blk_alloc hb (.cells #[] 36)) 0
  have has : ∀ W : World, (Instr.typeAssert (.iface 36 (.agg #[])) 20 36 true).run Tryd.prog W = .ok (.tuple #[.agg #[], .bool true]) W := fun W => by kernel_rfl
  go_wp2_with fail
  refine ⟨rfl, _, rfl, .tuple #[], ?_, rfl, rfl, ?_, ?_, ?_⟩
  · simp [results, Tryd.results13, go_sem]
  · exact blk_far (blk_set (blk_alloc ha (.cells #[] 36)) 0 (.string ⟨#[]⟩)) hab _
  · exact blk_set (blk_far (blk_alloc hb (.cells #[] 36)) (fun h => hab h.symm) _) 0 (.bool false)
  · exact Tch.setCell (Tch.setCell (Tch.alloc (Tch.refl w _) _) (p := ⟨a, 0, none⟩) (.inl (.inl rfl)) _) (p := ⟨b, 0, none⟩) (.inl (.inr rfl)) _

set_option maxRecDepth 100000 in
theorem catch_idle (a b : Nat) (w : World) :
    CallsD Tryd.prog 13 #[.pointer (some ⟨a, 0, none⟩), .pointer (some ⟨b, 0, none⟩)] .returning w fun e u' w' => e = .returned (.tuple #[]) ∧ u' = .returning ∧ w' = w := by
  refine callsD_of_wpS Tryd.func13 rfl fun c₀ cs hu => ?_
  apply wpS_seq
  apply wpS_region
  simp [wpOpsS, go_sem, recoverD, hu, Tryd.ntmps13, Exit.thenS]
  apply wpS_seq
  apply wpS_region
  simp [wpOpsS, go_sem, Exit.thenS]
  refine wpS_cond (t := false) (by simp [Act.eval, Array.replicate]) ?_
  simp only [Bool.false_eq_true, if_false]
  refine wpS_of_wp (wp_skip ?_)
  cases c₀
  simp_all [bodyPostS, results, Tryd.results13]

/-- What Unquote answers. -/
def unqF (s : ByteArray) : ByteArray × Bool :=
  if 20000 < s.size then (⟨#[]⟩, false) else match strF s 0 with
    | some (b, q) => if q = s.size then (strOfNums b, true) else (⟨#[]⟩, false)
    | none => (⟨#[]⟩, false)
theorem strF_not (s : ByteArray) (h : s.size = 0 ∨ bt s 0 ≠ 34) : strF s 0 = none := by
  unfold strF
  rw [if_neg]
  intro h2
  rcases h with h | h
  · omega
  · exact h h2.2

set_option maxRecDepth 100000 in
set_option maxHeartbeats 4000000 in
theorem unquote (s : ByteArray) (w : World) (hs : s.size ≤ 1048576) (hT : Lib.Utf8Tabs 0 1 w) :
    Calls Tryd.prog 6 #[.string s] w fun e w' => e = .returned (.tuple #[.string (unqF s).1, .bool (unqF s).2]) ∧ Below w.heap.size w w' := by
  have hmf : ∀ (fn : Fn) (first cap : Array Value) (w : World), (Instr.makeFunc fn first cap).run Tryd.prog w = .ok (.func fn first cap) w := fun _ _ _ _ => rfl
  go_enter_defers Tryd.func6, Tryd.ntmps6
  by_cases h1 : (20000 : Int) < (s.size : Int)
  · have d1 : decide ((20000 : Int) < (s.size : Int)) = true := decide_eq_true h1
    have hE : unqF s = (⟨#[]⟩, false) := by unfold unqF; rw [if_pos (by omega)]
    have HE := Lib.hid hE
    clear hE
    go_wp2_with fail
    rw [HE.out]
    simp [bodyPostD, Leaves, settle, results, Tryd.results6, go_sem]
    exact below_alloc (below_alloc (Below.refl _ _) _) _
  · have d1 : decide ((20000 : Int) < (s.size : Int)) = false := decide_eq_false h1
    have hU : unqF s = match strF s 0 with
      | some (b, q) => if q = s.size then (strOfNums b, true) else (⟨#[]⟩, false)
      | none => (⟨#[]⟩, false) := by unfold unqF; exact if_neg (by omega)
    by_cases h0 : s.size = 0
    · have hem : s.toList.isEmpty = true := by
        rw [← decide_eq_emptyBytes]
        exact decide_eq_true (by apply ByteArray.ext; exact Array.eq_empty_of_size_eq_zero h0)
      rw [strF_not s (.inl h0)] at hU
      have HU := Lib.hid hU
      clear hU
      go_wp2_with fail
      rw [HU.out]
      simp [bodyPostD, Leaves, settle, results, Tryd.results6, go_sem]
      exact below_alloc (below_alloc (Below.refl _ _) _) _
    · have hem : s.toList.isEmpty = false := by
        rw [← decide_eq_emptyBytes]
        exact decide_eq_false (fun h => h0 (by rw [h]; rfl))
      have hpos : 0 < s.size := by omega
      have hbt : bt s 0 = ((s[0]'hpos).toNat : Int) := by simp [bt, hpos]
      by_cases hq : bt s 0 = 34
      · have hne : (((s[0]'hpos).toNat : Int) != 34) = false := by rw [← hbt, hq]; rfl
        have HU := Lib.hid hU
        clear hU
        have hR0 := heap_alloc_new ((w.alloc (.cells #[.string ⟨#[]⟩] 9)).alloc (.cells #[.bool false] 4)) (.cells #[.string s, .int .i64 0, .bool false, .bool false] 40)
        simp only [World.size_alloc] at hR0
        have HR := Lib.hid (show Rdr (((w.alloc (.cells #[.string ⟨#[]⟩] 9)).alloc (.cells #[.bool false] 4)).alloc (.cells #[.string s, .int .i64 0, .bool false, .bool false] 40)) (w.heap.size + 1 + 1) s 0 false false from hR0)
        have HA := Lib.hid (blk_alloc (blk_alloc (heap_alloc_new w (.cells #[.string ⟨#[]⟩] 9)) (.cells #[.bool false] 4)) (.cells #[.string s, .int .i64 0, .bool false, .bool false] 40))
        have hb0 := blk_alloc (heap_alloc_new (w.alloc (.cells #[.string ⟨#[]⟩] 9)) (.cells #[.bool false] 4)) (.cells #[.string s, .int .i64 0, .bool false, .bool false] 40)
        simp only [World.size_alloc] at hb0
        have HBK := Lib.hid hb0
        have HB := Lib.hid (show Below w.heap.size w (((w.alloc (.cells #[.string ⟨#[]⟩] 9)).alloc (.cells #[.bool false] 4)).alloc (.cells #[.string s, .int .i64 0, .bool false, .bool false] 40)) from below_alloc (below_alloc (below_alloc (Below.refl _ _) _) _) _)
        have HT3 := Lib.hid (tabs_tch hT (Tch.of_below HB.out (fun _ => False)) (fun h => h) (fun h => h))
        clear hR0 hb0 hT
        go_wp2_with fail
        refine (str (w.heap.size + 1 + 1) s 0 false false _ HR.out (Nat.zero_le _) hs HT3.out (by omega)).mono ?_
        rintro e w1 ⟨hok, hno, ht1⟩
        have HA1 := Lib.hid (blk_kept HA.out ht1.kept (by omega))
        have HBK1 := Lib.hid (blk_kept HBK.out ht1.kept (by omega))
        have HB1 := Lib.hid (HB.out.trans (Tch.to_below ht1 (B := w.heap.size) HB.out.size (fun k hk => by omega)))
        cases hx : strF s 0 with
        | none =>
          obtain ⟨rfl, q, hR⟩ := hno hx
          rw [hx] at HU
          clear hok hno ht1 hR
          go_wp2_with fail
          rw [HU.out]
          refine leaves_cons (f := 13) (args := #[.pointer (some ⟨w.heap.size, 0, none⟩), .pointer (some ⟨w.heap.size + 1, 0, none⟩)]) (by simp) (by simp [go_sem]) ?_
          refine (catch_panicking w.heap.size (w.heap.size + 1) _ _ _ HA1.out HBK1.out (by omega)).mono ?_
          rintro e u' w2 ⟨rfl, rfl, ha2, hb2, ht2⟩
          have c0 := blk_cell ha2 0
          have c1 := blk_cell hb2 0
          simp only [List.getElem?_toArray, List.getElem?_cons_zero] at c0 c1
          simp [Leaves, settle, results, Tryd.results6, go_sem, c0, c1]
          exact HB1.out.trans (Tch.to_below ht2 (B := w.heap.size) HB1.out.size (fun k hk => by omega))
        | some bq =>
          obtain ⟨b, q⟩ := bq
          obtain ⟨rfl, hR⟩ := hok b q hx
          rw [hx] at HU
          simp only at HU
          have c0 := blk_cell HA1.out 0
          have f0 := blk_frozen HA1.out 0
          have c1 := blk_cell HBK1.out 0
          have f1 := blk_frozen HBK1.out 0
          obtain ⟨r0, r1, _⟩ := hR.at_
          simp only [List.getElem?_toArray, List.getElem?_cons_zero] at c0 c1
          clear hok hno ht1 hR
          by_cases hqs : q = s.size
          · have hne2 : ((q : Int) != (s.size : Int)) = false := by simp [hqs]
            rw [if_pos hqs] at HU
            go_wp2_with fail
            rw [HU.out]
            refine leaves_cons (f := 13) (args := #[.pointer (some ⟨w.heap.size, 0, none⟩), .pointer (some ⟨w.heap.size + 1, 0, none⟩)]) (by simp) (by simp [go_sem]) ?_
            refine (catch_idle w.heap.size (w.heap.size + 1) _).mono ?_
            rintro e u' w2 ⟨rfl, rfl, rfl⟩
            simp [Leaves, settle, results, Tryd.results6, go_sem, c0, c1]
            exact ((HB1.out.setCell (by show w.heap.size ≤ w.heap.size; omega) _).setCell (by show w.heap.size ≤ w.heap.size; omega) _).setCell (by show w.heap.size ≤ w.heap.size + 1; omega) _
          · have hne2 : ((q : Int) != (s.size : Int)) = true := by simp; omega
            rw [if_neg hqs] at HU
            go_wp2_with fail
            rw [HU.out]
            refine leaves_cons (f := 13) (args := #[.pointer (some ⟨w.heap.size, 0, none⟩), .pointer (some ⟨w.heap.size + 1, 0, none⟩)]) (by simp) (by simp [go_sem]) ?_
            refine (catch_idle w.heap.size (w.heap.size + 1) _).mono ?_
            rintro e u' w2 ⟨rfl, rfl, rfl⟩
            simp [Leaves, settle, results, Tryd.results6, go_sem, c0, c1]
            exact ((HB1.out.setCell (by show w.heap.size ≤ w.heap.size; omega) _).setCell (by show w.heap.size ≤ w.heap.size; omega) _).setCell (by show w.heap.size ≤ w.heap.size + 1; omega) _
      · have hne : (((s[0]'hpos).toNat : Int) != 34) = true := by rw [← hbt]; simpa using hq
        rw [strF_not s (.inr hq)] at hU
        have HU := Lib.hid hU
        clear hU
        go_wp2_with fail
        rw [HU.out]
        simp [bodyPostD, Leaves, settle, results, Tryd.results6, go_sem]
        exact below_alloc (below_alloc (Below.refl _ _) _) _
end Go.Proofs.YtfadnchkododdaaDoor.Read
